import Derived.Test.YtopagbmgpecgeaaA
import Derived.Deep.AppendLies
import Derived.Deep.QuietTactic
import Derived.BigQuiet
import Derived.Deep.RegionWith
namespace Go.Proofs.Ytopagbmgpecgeaa
open Go.RowKit

theorem bcell {W w1 : World} {B : Nat} (hb : Below B W w1) : (∀ b o, b < B → w1.cell? ⟨b, o, none⟩ = W.cell? ⟨b, o, none⟩) ∧ (∀ b o, b < B → w1.frozen? ⟨b, o, none⟩ = W.frozen? ⟨b, o, none⟩) :=
  ⟨fun b o h => hb.cell (p := ⟨b, o, none⟩) h, fun b o h => hb.frozen (p := ⟨b, o, none⟩) h⟩

def cellsOf (ps : List Peer) : List Value := ps.flatMap fun p => [.int .i64 p.party, .int .i64 p.bad, .int .i64 p.till]

theorem cellsOf_length (ps : List Peer) : (cellsOf ps).length = ps.length * 3 := by
  induction ps with
  | nil => rfl
  | cons p ps ih => simp only [cellsOf, List.flatMap_cons, List.length_append] at *; rw [ih]; simp; omega

theorem cellsOf_get (ps : List Peer) : ∀ k p, ps[k]? = some p → (cellsOf ps)[k * 3]? = some (.int .i64 p.party) ∧ (cellsOf ps)[k * 3 + 1]? = some (.int .i64 p.bad) ∧ (cellsOf ps)[k * 3 + 2]? = some (.int .i64 p.till) := by
  induction ps with
  | nil => intro k p h; simp at h
  | cons q ps ih =>
    intro k p h
    match k with
    | 0 => simp at h; subst h; exact ⟨rfl, rfl, rfl⟩
    | k + 1 =>
      have := ih k p (by simpa using h)
      rw [show (k + 1) * 3 = k * 3 + 3 by omega]
      exact this

/-- A guard lies at block g, its list in a block of its own, both from B on. -/
def GuardAt (w : World) (B g : Nat) (most ticks : Int) (ps : List Peer) : Prop :=
  ∃ v, w.heap[g]? = some (.cells #[.int .i64 most, .int .i64 ticks, v] 34 (0, 0)) ∧ B ≤ g ∧ v.ownBlock ≠ some g ∧ w.ownsRow B 36 3 v ps.length (cellsOf ps)

theorem block_cell {w : World} {b : Nat} {cs : Array Value} {T : TypeId} {fz : Nat × Nat} (h : w.heap[b]? = some (.cells cs T fz)) (o : Nat) : w.cell? ⟨b, o, none⟩ = cs[o]? := by
  simp [World.cell?, h]

theorem block_frozen {w : World} {b : Nat} {cs : Array Value} {T : TypeId} (h : w.heap[b]? = some (.cells cs T (0, 0))) (o : Nat) : w.frozen? ⟨b, o, none⟩ = false := by
  simp [World.frozen?, h]

theorem block_lt {w : World} {b : Nat} {o : Obj} (h : w.heap[b]? = some o) : b < w.heap.size := (Array.getElem?_eq_some_iff.1 h).1

theorem GuardAt.grown {w w' : World} {B g : Nat} {m t : Int} {ps : List Peer} (h : GuardAt w B g m t ps) (hb : Below w.heap.size w w') : GuardAt w' B g m t ps := by
  obtain ⟨v, h1, h2, h3, h4⟩ := h
  refine ⟨v, ?_, h2, h3, h4.kept (row := none) ⟨hb.os, hb.tape, hb.output, hb.size, fun k hk _ => hb.block k hk⟩ ?_⟩
  · rw [hb.block g (block_lt h1)]; exact h1
  · cases v.ownBlock <;> simp

/-- What the walk wants of a guard. -/
theorem GuardAt.facts {w : World} {B g : Nat} {m t : Int} {ps : List Peer} (h : GuardAt w B g m t ps) :
    B ≤ g ∧ g < w.heap.size ∧ w.cell? ⟨g, 0, none⟩ = some (.int .i64 m) ∧ w.cell? ⟨g, 1, none⟩ = some (.int .i64 t) ∧
    (∀ o, w.frozen? ⟨g, o, none⟩ = false) ∧
    ∃ ao cap, w.cell? ⟨g, 2, none⟩ = some (.slice ao ps.length cap) ∧ (.slice ao ps.length cap : Value).ownBlock ≠ some g ∧ w.ownsRow B 36 3 (.slice ao ps.length cap) ps.length (cellsOf ps) ∧
      w.heap[g]? = some (.cells #[.int .i64 m, .int .i64 t, .slice ao ps.length cap] 34 (0, 0)) ∧
      (∀ k p, ps[k]? = some p → ∃ b, b < w.heap.size ∧ b ≠ g ∧ B ≤ b ∧ ao = some ⟨b, 0, none⟩ ∧ w.cell? ⟨b, k * 3, none⟩ = some (.int .i64 p.party) ∧ w.cell? ⟨b, k * 3 + 1, none⟩ = some (.int .i64 p.bad) ∧ w.cell? ⟨b, k * 3 + 2, none⟩ = some (.int .i64 p.till) ∧ ∀ o, w.frozen? ⟨b, o, none⟩ = false) := by
  obtain ⟨v, h1, h2, h3, h4⟩ := h
  have hlt := block_lt h1
  refine ⟨h2, hlt, by rw [block_cell h1]; rfl, by rw [block_cell h1]; rfl, block_frozen h1, ?_⟩
  have h4' := h4
  rcases h4.2 with ⟨rfl, hn⟩ | ⟨b, cap, cur, rfl, hb, hbl, hr⟩
  · rw [hn] at h4' ⊢
    refine ⟨none, 0, by rw [block_cell h1]; rfl, h3, h4', h1, ?_⟩
    intro k p hk
    have : ps = [] := List.eq_nil_of_length_eq_zero hn
    subst this; simp at hk
  · refine ⟨some ⟨b, 0, none⟩, cap, by rw [block_cell h1]; rfl, h3, h4', h1, ?_⟩
    intro k p hk
    have hkl : k < ps.length := (List.getElem?_eq_some_iff.1 hk).1
    obtain ⟨e0, e1, e2⟩ := cellsOf_get ps k p hk
    refine ⟨b, block_lt hbl, by simpa [Value.ownBlock] using h3, hb, rfl, ?_, ?_, ?_, block_frozen hbl⟩
    · rw [h4.cellAt _ (by omega)]; exact e0
    · rw [h4.cellAt _ (by omega)]; exact e1
    · rw [h4.cellAt _ (by omega)]; exact e2

theorem Try.info36 : (Try.prog.info? 36).map (fun i => (i.zero, i.size, i.bytes)) = some (some (.agg #[.int .i64 0, .int .i64 0, .int .i64 0]), 3, 24) := by kernel_rfl

theorem heap_set_same {w : World} {b : Nat} {cs : Array Value} {T : TypeId} {fz : Nat × Nat} (h : w.heap[b]? = some (.cells cs T fz)) (o : Nat) (v : Value) :
    (w.setCell ⟨b, o, none⟩ v).heap[b]? = some (.cells (cs.setIfInBounds o v) T fz) := by
  simp [World.setCell, Array.getElem?_modify, h]

theorem heap_set_other {w : World} {a : Addr} {b : Nat} (h : b ≠ a.block) (v : Value) : (w.setCell a v).heap[b]? = w.heap[b]? := by
  simp only [World.setCell, Array.getElem?_modify]
  rw [if_neg (by omega)]

theorem owns_set_other {w : World} {B E k : Nat} {v : Value} {n : Nat} {xs : List Value} (h : w.ownsRow B E k v n xs) {a : Addr} (ha : v.ownBlock ≠ some a.block) (u : Value) : (w.setCell a u).ownsRow B E k v n xs := by
  refine h.kept (row := some a.block) ⟨rfl, rfl, rfl, by simp [World.setCell], fun k _ hk => heap_set_other (fun e => hk (by rw [e])) u⟩ (.inr ha)

theorem cellsOf_app (ps : List Peer) (x : Int) : cellsOf (ps ++ [⟨x, 1, 0⟩]) = (cellsOf ps ++ ([.int .i64 x, .int .i64 0, .int .i64 0] : List Value)).set (ps.length * 3 + 1) (.int .i64 1) := by
  rw [List.set_append_right _ _ (by rw [cellsOf_length]; omega), cellsOf_length, show ps.length * 3 + 1 - ps.length * 3 = 1 by omega]
  simp [cellsOf]

set_option maxHeartbeats 400000 in
theorem bad_new (B g : Nat) (m t : Int) (ps : List Peer) (x c : Int) (w : World) (hm : 1 ≤ m) (hn : ps.length ≤ 100000)
    (hG : GuardAt w B g m t ps) (hx : atB ps 0 x = -1) :
    Calls Try.prog 7 #[.pointer (some ⟨g, 0, none⟩), .int .i64 x, .int .i64 c] w fun e w' => e = .returned (.bool false) ∧ Below B w w' ∧ GuardAt w' B g m t (ps ++ [⟨x, 1, 0⟩]) := by
  obtain ⟨i0, hi, hz0, hz1, hz2⟩ := info_parts Try.info36
  have HX := Lib.hid hx
  clear hx
  have HG := Lib.hid hG
  obtain ⟨hBg, hg, f0, f1, f2, ao, cap, f3, f4, f5, f6, f7⟩ := hG.facts
  go_enter Try.func7, Try.ntmps7
  go_wp2_with fail
  refine (at_any g ao cap ps x _ hn hg f3 (fun k p h => by obtain ⟨b, q1, _, _, q2, q3, q4, q5, _⟩ := f7 k p h; exact ⟨b, q1, q2, q3, q4, q5⟩)).mono ?_
  rw [HX.out]
  clear f0 f1 f2 f3 f4 f5 f6 f7
  rintro e w1 ⟨rfl, hb1⟩
  obtain ⟨-, hg1, f0, f1, f2, ao, cap, f3, f4, f5, f6, -⟩ := (HG.out.grown hb1).facts
  have hsz := hb1.size
  have FO := Lib.hid f5
  have f8 := World.ownsRow.alloc f5 (.cells #[.int .i64 x, .int .i64 0, .int .i64 0] 36)
  clear f5
  go_wp2_with (at_builtin; refine wpList_append_lies _ rfl (.tmp 23) (.tmp 26) 32 rfl B 36 i0 (.agg #[.int .i64 0, .int .i64 0, .int .i64 0]) 3 24 Try.underlying32 hi hz0 hz1 hz2 rfl (by decide) _ ps.length (cellsOf ps) rfl f8 ⟨w1.heap.size, 0, none⟩ 1 1 [.int .i64 x, .int .i64 0, .int .i64 0] rfl rfl ?c1 ?c2 (by decide) ?c3 ?c4 ?c5 (w1.heap.size + 1) (by simp) ?c6)
  case c1 => intro j u hj; match j, hj with | 0, hj => simp at hj; subst hj; simp [Addr.add] | 1, hj => simp at hj; subst hj; simp [Addr.add] | 2, hj => simp at hj; subst hj; simp [Addr.add]
  case c2 => intro u hu; simp at hu; rcases hu with rfl | rfl <;> rfl
  case c3 => unfold maxLen; omega
  case c4 => omega
  case c5 => simp; omega
  case c6 =>
    intro b cap2 w2 hown hgrow hat hlt
    have hgb : g ≠ b := by
      rcases hat with h | h
      · intro e; subst e; exact f4 h
      · omega
    have k0 := hgrow.cell (a := ⟨g, 0, none⟩) ((World.cell?_alloc_past _ _ _ hg1).trans f0) (Ne.symm f4)
    have k1 := hgrow.cell (a := ⟨g, 1, none⟩) ((World.cell?_alloc_past _ _ _ hg1).trans f1) (Ne.symm f4)
    have k2 := hgrow.cell (a := ⟨g, 2, none⟩) ((World.cell?_alloc_past _ _ _ hg1).trans f3) (Ne.symm f4)
    have kf : ∀ o, w2.frozen? ⟨g, o, none⟩ = false := fun o => (World.frozen?_of_block (a := ⟨g, o, none⟩) (hgrow.block g (by simp; omega) (Ne.symm f4))).trans ((World.frozen?_alloc_past _ _ _ hg1).trans (f2 o))
    have k3 := kf 2
    have bf : ∀ o, w2.frozen? ⟨b, o, none⟩ = false := fun o => hown.frozenAt o
    have bc1 : w2.cell? ⟨b, ps.length * 3 + 1, none⟩ = some (.int .i64 0) := by
      rw [hown.cellAt _ (by omega), List.getElem?_append_right (by rw [cellsOf_length]; omega), cellsOf_length]
      rw [show ps.length * 3 + 1 - ps.length * 3 = 1 by omega]; rfl
    clear kf
    have hBb : B ≤ b := (hown.lt b rfl).1
    go_wp2_with fail
    go_quiet (fail)
    go_wp2
    go_ret
    have hB1 : B ≤ w1.heap.size := by omega
    refine ⟨rfl, below_drewN ((((((hb1.mono (by omega)).alloc hB1 _).grown hgrow (by simp; omega) (fun k h => (FO.out.lt k h).1)).setCell hBg _).setCell hBb _)) _, ?_⟩
    have w2g : w2.heap[g]? = some (.cells #[.int .i64 m, .int .i64 t, .slice ao ps.length cap] 34 (0, 0)) := by
      rw [hgrow.block g (by simp; omega) (Ne.symm f4)]; rw [Below.heap_alloc _ _ _ hg1]; exact f6
    refine ⟨.slice (some ⟨b, 0, none⟩) (ps.length + 1) cap2, ?_, hBg, by simpa [Value.ownBlock] using Ne.symm hgb, ?_⟩
    · rw [World.heap_drewN, heap_set_other (by exact hgb), heap_set_same w2g]; rfl
    · rw [cellsOf_app, List.length_append]
      exact ((owns_set_other hown (a := ⟨g, 2, none⟩) (by simpa [Value.ownBlock] using Ne.symm hgb) _).stored (ps.length * 3 + 1) (.int .i64 1)).1


theorem atB_found (ps : List Peer) : ∀ (k x : Int), atB ps k x ≠ -1 → 0 ≤ k → ∃ i : Nat, ∃ p, ps[i]? = some p ∧ p.party = x ∧ atB ps k x = k + i := by
  induction ps with
  | nil => intro k x h; simp [atB] at h
  | cons q ps ih =>
    intro k x h hk
    unfold atB at h ⊢
    split
    · exact ⟨0, q, rfl, by assumption, by simp⟩
    · rename_i hq
      rw [if_neg hq] at h
      obtain ⟨i, p, h1, h2, h3⟩ := ih (k + 1) x h (by omega)
      exact ⟨i + 1, p, by simpa using h1, h2, by rw [h3]; simp; omega⟩

theorem atB_ge (ps : List Peer) : ∀ (k x : Int), atB ps k x = -1 ∨ k ≤ atB ps k x := by
  induction ps with
  | nil => intro k x; simp [atB]
  | cons q ps ih =>
    intro k x
    unfold atB
    split
    · omega
    · have := ih (k + 1) x; omega

theorem cellsOf_set (ps : List Peer) : ∀ (i : Nat) (p : Peer) (b t : Int), ps[i]? = some p → cellsOf (ps.set i ⟨p.party, b, t⟩) = ((cellsOf ps).set (i * 3 + 1) (.int .i64 b)).set (i * 3 + 2) (.int .i64 t) := by
  induction ps with
  | nil => intro i p b t h; simp at h
  | cons q ps ih =>
    intro i p b t h
    match i with
    | 0 => simp at h; subst h; rfl
    | i + 1 =>
      have := ih i p b t (by simpa using h)
      rw [show (i + 1) * 3 + 1 = (i * 3 + 1) + 3 by omega, show (i + 1) * 3 + 2 = (i * 3 + 2) + 3 by omega]
      simp only [cellsOf, List.set_cons_succ, List.flatMap_cons] at this ⊢
      rw [this]
      rfl

/-- What Bad finds where the party is known: its place, its cells. -/
theorem GuardAt.found {w : World} {B g : Nat} {m t : Int} {ps : List Peer} (h : GuardAt w B g m t ps) (i : Nat) (p : Peer) (hp : ps[i]? = some p) :
    ∃ b cap, b ≠ g ∧ g ≠ b ∧ b < w.heap.size ∧ B ≤ b ∧ B ≤ g ∧ g < w.heap.size ∧ i < ps.length ∧ w.cell? ⟨g, 0, none⟩ = some (.int .i64 m) ∧ w.cell? ⟨g, 1, none⟩ = some (.int .i64 t) ∧ w.cell? ⟨g, 2, none⟩ = some (.slice (some ⟨b, 0, none⟩) ps.length cap) ∧
      w.cell? ⟨b, i * 3, none⟩ = some (.int .i64 p.party) ∧ w.cell? ⟨b, i * 3 + 1, none⟩ = some (.int .i64 p.bad) ∧ w.cell? ⟨b, i * 3 + 2, none⟩ = some (.int .i64 p.till) ∧
      w.frozen? ⟨b, i * 3 + 1, none⟩ = false ∧ w.frozen? ⟨b, i * 3 + 2, none⟩ = false ∧
      (∀ u v, GuardAt ((w.setCell ⟨b, i * 3 + 1, none⟩ (.int .i64 u)).setCell ⟨b, i * 3 + 2, none⟩ (.int .i64 v)) B g m t (ps.set i ⟨p.party, u, v⟩)) ∧
      (∀ u, GuardAt (w.setCell ⟨b, i * 3 + 1, none⟩ (.int .i64 u)) B g m t (ps.set i ⟨p.party, u, p.till⟩)) := by
  obtain ⟨hBg, hg, f0, f1, f2, ao, cap, f3, f4, f5, f6, f7⟩ := h.facts
  obtain ⟨b, q1, q2, q3, rfl, q4, q5, q6, q7⟩ := f7 i p hp
  have hil : i < ps.length := (List.getElem?_eq_some_iff.1 hp).1
  refine ⟨b, cap, q2, Ne.symm q2, q1, q3, hBg, hg, hil, f0, f1, f3, q4, q5, q6, q7 _, q7 _, fun u v => ?_, fun u => ?_⟩
  · refine ⟨.slice (some ⟨b, 0, none⟩) ps.length cap, ?_, hBg, f4, ?_⟩
    · rw [heap_set_other (by exact Ne.symm q2), heap_set_other (by exact Ne.symm q2)]; exact f6
    · rw [cellsOf_set ps i p u v hp, List.length_set]
      exact ((f5.stored _ _).1.stored _ _).1
  · refine ⟨.slice (some ⟨b, 0, none⟩) ps.length cap, ?_, hBg, f4, ?_⟩
    · rw [heap_set_other (by exact Ne.symm q2)]; exact f6
    · rw [cellsOf_set ps i p u p.till hp, List.length_set]
      have hset : ((cellsOf ps).set (i * 3 + 1) (.int .i64 u)).set (i * 3 + 2) (.int .i64 p.till) = (cellsOf ps).set (i * 3 + 1) (.int .i64 u) := by
        refine List.ext_getElem? fun j => ?_
        rw [List.getElem?_set]
        split
        · rename_i e
          subst e
          obtain ⟨_, _, e2⟩ := cellsOf_get ps i p hp
          rw [List.getElem?_set_ne (by omega), e2]
          simp only [List.length_set, cellsOf_length]
          rw [if_pos (by omega)]
        · rfl
      rw [hset]
      exact (f5.stored _ _).1

end Go.Proofs.Ytopagbmgpecgeaa
