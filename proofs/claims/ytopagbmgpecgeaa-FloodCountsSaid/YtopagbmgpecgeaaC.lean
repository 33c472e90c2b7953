import Derived.Test.YtopagbmgpecgeaaB
import Derived.IntWalk
namespace Go.Proofs.Ytopagbmgpecgeaa
open Go.RowKit

theorem GuardAt.ask {w : World} {B g : Nat} {m t : Int} {ps : List Peer} (h : GuardAt w B g m t ps) (x : Int) (hn : ps.length ≤ 100000) :
    Calls Try.prog 11 #[.pointer (some ⟨g, 0, none⟩), .int .i64 x] w fun e w' => e = .returned (.int .i64 (atB ps 0 x)) ∧ Below w.heap.size w w' := by
  obtain ⟨hBg, hg, f0, f1, f2, ao, cap, f3, f4, f5, f6, f7⟩ := h.facts
  exact at_any g ao cap ps x _ hn hg f3 (fun k p h => by obtain ⟨b, q1, _, _, q2, q3, q4, q5, _⟩ := f7 k p h; exact ⟨b, q1, q2, q3, q4, q5⟩)

set_option maxHeartbeats 400000 in
theorem bad_no (B g : Nat) (m t : Int) (ps : List Peer) (x c : Int) (w : World) (hn : ps.length ≤ 100000)
    (hG : GuardAt w B g m t ps) (i : Nat) (p : Peer) (hp : ps[i]? = some p) (hx : atB ps 0 x = i) (hb : p.bad + 1 ≤ m) (h0 : 0 ≤ p.bad) (hm : m ≤ 64) :
    Calls Try.prog 7 #[.pointer (some ⟨g, 0, none⟩), .int .i64 x, .int .i64 c] w fun e w' => e = .returned (.bool false) ∧ Below B w w' ∧ GuardAt w' B g m t (ps.set i ⟨p.party, p.bad + 1, p.till⟩) := by
  have HX := Lib.hid hx
  clear hx
  have HG := Lib.hid hG
  obtain ⟨hBg, hg, -⟩ := hG.facts
  go_enter Try.func7, Try.ntmps7
  go_wp2_with fail
  refine (HG.out.ask x hn).mono ?_
  rw [HX.out]
  rintro e w1 ⟨rfl, hb1⟩
  obtain ⟨b, cap, e1, e2, e3, e4, -, -, e5, k0, k1, k2, k3, k4, k5, k6, k7, -, k9⟩ := (HG.out.grown hb1).found i p hp
  have H9 := Lib.hid (k9 (p.bad + 1))
  clear k9
  go_wp2_with fail
  go_quiet (fail)
  go_wp2
  go_ret
  exact ⟨rfl, below_drewN ((hb1.mono (by omega)).setCell e4 _) _, H9.out⟩

theorem GuardAt.parts {w : World} {B g : Nat} {m t : Int} {ps : List Peer} (h : GuardAt w B g m t ps) (b cap : Nat) (hk : w.cell? ⟨g, 2, none⟩ = some (.slice (some ⟨b, 0, none⟩) ps.length cap)) :
    w.ownsRow B 36 3 (.slice (some ⟨b, 0, none⟩) ps.length cap) ps.length (cellsOf ps) ∧
    ∀ w' ps', w'.heap[g]? = w.heap[g]? → ps'.length = ps.length → w'.ownsRow B 36 3 (.slice (some ⟨b, 0, none⟩) ps.length cap) ps.length (cellsOf ps') → GuardAt w' B g m t ps' := by
  obtain ⟨v, h1, h2, h3, h4⟩ := h
  rw [block_cell h1] at hk
  simp at hk
  subst hk
  exact ⟨h4, fun w' ps' a b c => ⟨_, a.trans h1, h2, h3, by rw [b]; exact c⟩⟩

theorem set_last3 {α : Type} (l : List α) (i j : Nat) (a b c : α) (h : i ≠ j) : ((l.set i a).set i b).set j c = (l.set i b).set j c ∧ ((l.set i a).set j c).set i b = (l.set i b).set j c := by
  constructor
  · rw [List.set_set]
  · rw [List.set_comm _ _ (Ne.symm h), List.set_set]

set_option maxHeartbeats 400000 in
theorem bad_yes (B g : Nat) (m t : Int) (ps : List Peer) (x c : Int) (w : World) (hn : ps.length ≤ 100000)
    (hG : GuardAt w B g m t ps) (i : Nat) (p : Peer) (hp : ps[i]? = some p) (hx : atB ps 0 x = i) (hb : ¬ p.bad + 1 ≤ m) (h0 : p.bad ≤ m) (hm0 : 0 ≤ m) (hm : m ≤ 64) (ht0 : 0 ≤ t) (ht : t ≤ 64) :
    Calls Try.prog 7 #[.pointer (some ⟨g, 0, none⟩), .int .i64 x, .int .i64 c] w fun e w' => e = .returned (.bool true) ∧ Below B w w' ∧ GuardAt w' B g m t (ps.set i ⟨p.party, 0, wthn c + t⟩) := by
  have HX := Lib.hid hx
  clear hx
  have HG := Lib.hid hG
  obtain ⟨hBg, hg, -⟩ := hG.facts
  have hw1 : 0 ≤ wthn c := by unfold wthn; omega
  have hw2 : wthn c ≤ 1048576 := by unfold wthn; omega
  have HP := Lib.hid hp
  go_enter Try.func7, Try.ntmps7
  go_wp2_with fail
  refine (HG.out.ask x hn).mono ?_
  rw [HX.out]
  rintro e w1 ⟨rfl, hb1⟩
  have hG1 := HG.out.grown hb1
  obtain ⟨b, cap, e1, e2, e3, e4, -, e6, e5, k0, k1, k2, k3, k4, k5, k6, k7, -, -⟩ := hG1.found i p hp
  obtain ⟨ho, hmk⟩ := hG1.parts b cap k2
  have hset := cellsOf_set ps i p 0 (wthn c + t) hp
  have finA : ∀ k, GuardAt ((((w1.setCell ⟨b, i * 3 + 1, none⟩ (.int .i64 (p.bad + 1))).drewN k).setCell ⟨b, i * 3 + 1, none⟩ (.int .i64 0)).setCell ⟨b, i * 3 + 2, none⟩ (.int .i64 (wthn c + t))) B g m t (ps.set i ⟨p.party, 0, wthn c + t⟩) := by
    intro k
    refine hmk _ _ ?_ (by simp) ?_
    · rw [heap_set_other (by exact e2), heap_set_other (by exact e2), World.heap_drewN, heap_set_other (by exact e2)]
    · rw [hset, ← (set_last3 (cellsOf ps) (i * 3 + 1) (i * 3 + 2) (.int .i64 (p.bad + 1)) (.int .i64 0) (.int .i64 (wthn c + t)) (by omega)).1]
      exact ((((ho.stored _ _).1 : (w1.setCell _ _).ownsRow _ _ _ _ _ _).stored _ _).1.stored _ _).1
  have finB : ∀ k, GuardAt ((((w1.setCell ⟨b, i * 3 + 1, none⟩ (.int .i64 (p.bad + 1))).drewN k).setCell ⟨b, i * 3 + 2, none⟩ (.int .i64 (wthn c + t))).setCell ⟨b, i * 3 + 1, none⟩ (.int .i64 0)) B g m t (ps.set i ⟨p.party, 0, wthn c + t⟩) := by
    intro k
    refine hmk _ _ ?_ (by simp) ?_
    · rw [heap_set_other (by exact e2), heap_set_other (by exact e2), World.heap_drewN, heap_set_other (by exact e2)]
    · rw [hset, ← (set_last3 (cellsOf ps) (i * 3 + 1) (i * 3 + 2) (.int .i64 (p.bad + 1)) (.int .i64 0) (.int .i64 (wthn c + t)) (by omega)).2]
      exact ((((ho.stored _ _).1 : (w1.setCell _ _).ownsRow _ _ _ _ _ _).stored _ _).1.stored _ _).1
  have FA := Lib.hid finA
  have FB := Lib.hid finB
  clear hG1 hp finA finB ho hmk hset
  have h00 : ((i : Int) < 0) = False := by simp
  go_wp2_with fail
  go_quiet (fail)
  go_wp2
  have hwr : IntKind.i64.wrap (wthn c + t) = wthn c + t := IntWalk.i64_in _ (by omega)
  go_region_with (go_at_call 12; refine (within_any c _).mono ?_; rintro e w' ⟨rfl, rfl⟩)
  all_goals
    go_wp2
    go_ret
    refine ⟨rfl, ?_, ?_⟩
    · exact ((below_drewN ((hb1.mono (by omega)).setCell e4 _) _).setCell e4 _).setCell e4 _
    · first | exact FA.out _ | exact FB.out _

end Go.Proofs.Ytopagbmgpecgeaa
