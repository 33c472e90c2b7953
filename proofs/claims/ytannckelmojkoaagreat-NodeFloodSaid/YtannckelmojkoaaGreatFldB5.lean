/- Parts of the proof, one behind the other. -/
import Derived.Test.YtannckelmojkoaaGreatFldB4
import Derived.Test.YtannckelmojkoaaGreatRows
import Derived.WalkKit
import Derived.ProofKit
import Derived.OpenShut
import Derived.Carry
import Derived.Deep.Slices
import Derived.Deep.RegionHeld3
import Derived.Deep.DeepCutAuto
import Derived.Deep.CutBlock
import Derived.Outline

/- The slot's contracts, its blocks behind one name. -/
namespace Go.Proofs.YtannckelmojkoaaGreat
open Go.RowKit Go.Heap

structure Loc where
  s : Nat
  bp : Nat
  bc : Nat
  cp : Nat
  cq : Nat
  f : Nat

def Loc.M (L : Loc) : List Nat := [L.s, L.bp, L.bc]
abbrev Loc.ptr (L : Loc) : Value := .pointer (some ⟨L.s, 0, none⟩)

/-- The slot at L is st; its batches keep out of the blocks A. -/
def On (w : World) (L : Loc) (st : Sl) (A : List Nat) : Prop :=
  ∃ D, SlotAt w L.s L.bp L.bc L.cp L.cq L.f st D ∧ (∀ k ∈ D, k ∉ A) ∧ ∀ k ∈ A, k < w.heap.size

theorem On.upd {w w' : World} {L : Loc} {st : Sl} {A N : List Nat} (h : On w L st A) (hu : Upd N w w') (hN : ∀ k ∈ N, k ∉ L.M ∧ k ∈ A) : On w' L st A := by
  obtain ⟨D, h1, h2, h3⟩ := h
  have hm : ∀ k, k ∈ L.M → k ∉ N := fun k hk hn => (hN k hn).1 hk
  refine ⟨D, h1.upd hu (hm _ (by simp [Loc.M])) (hm _ (by simp [Loc.M])) (hm _ (by simp [Loc.M])) (fun k hk hn => h2 k hk (hN k hn).2), h2, fun k hk => Nat.lt_of_lt_of_le (h3 k hk) hu.size⟩

theorem On.upd0 {w w' : World} {L : Loc} {st : Sl} {A : List Nat} (h : On w L st A) (hu : Upd [] w w') : On w' L st A := h.upd hu (by simp)
theorem On.below {w w' : World} {L : Loc} {st : Sl} {A : List Nat} (h : On w L st A) (hb : Below w.heap.size w w') : On w' L st A := h.upd0 (Upd.of_below hb)
theorem On.alloc {w : World} {L : Loc} {st : Sl} {A : List Nat} (h : On w L st A) (o : Obj) : On (w.alloc o) L st A := h.upd0 ((Upd.refl _ _).alloc o)

theorem On.lt {w : World} {L : Loc} {st : Sl} {A : List Nat} (h : On w L st A) : ∀ k ∈ L.M, k < w.heap.size := by
  obtain ⟨D, h1, _, _⟩ := h
  obtain ⟨_, _, l1, l2, l3, _⟩ := h1.cells
  intro k hk
  simp [Loc.M] at hk
  rcases hk with rfl | rfl | rfl <;> assumption

/-- Keep out of more: of blocks that are there and are none of its own batches'. -/
theorem On.avoid {w : World} {L : Loc} {st : Sl} {A A' : List Nat} (h : On w L st A) (hs : ∀ k ∈ A', k ∈ A) : On w L st A' := by
  obtain ⟨D, h1, h2, h3⟩ := h
  exact ⟨D, h1, fun k hk hn => h2 k hk (hs k hn), fun k hk => h3 k (hs k hk)⟩

theorem grow_out {D D' A : List Nat} {w : World} (h2 : ∀ k ∈ D, k ∉ A) (h3 : ∀ k ∈ A, k < w.heap.size) (hD : ∀ k ∈ D', k ∈ D ∨ w.heap.size ≤ k) : ∀ k ∈ D', k ∉ A := by
  intro k hk hn
  rcases hD k hk with h | h
  · exact h2 k h hn
  · have := h3 k hn; omega

theorem on_new (f : Nat) (h1 : 1 ≤ f) (h2 : f ≤ 4) (w : World) :
    Calls Tryz.prog 151 #[.int .i64 f] w fun e w' => ∃ L : Loc, e = .returned (.tuple #[L.ptr, .int .i64 0]) ∧ L.f = f ∧ Upd [] w w' ∧ (∀ k ∈ L.M, w.heap.size ≤ k) ∧ ∀ A, (∀ k ∈ A, k < w'.heap.size) → On w' L (emptySl f) A := by
  refine (slot_new f h1 h2 w).mono ?_
  rintro e w' ⟨s, bp, bc, he, hu, g1, g2, g3, h⟩
  refine ⟨⟨s, bp, bc, 3 * f + 1, 3 * f + 1, f⟩, he, rfl, hu, by simp [Loc.M]; omega, fun A hA => ⟨[], h, by simp, hA⟩⟩

theorem on_pre {w : World} {L : Loc} {st : Sl} {A : List Nat} (h : On w L st A) (v : Value) (rs : List Rq) (hb : Bat w v rs) (hn : rs.length ≤ 100000) :
    Calls Tryz.prog 217 #[L.ptr, v] w fun e w' => e = .returned (.bool (!st.has)) ∧ Upd L.M w w' ∧ On w' L (if st.has then st else { st with has := true, batch := rs }) A := by
  obtain ⟨D, h1, h2, h3⟩ := h
  refine (slot_pre h1 v rs hb hn).mono ?_
  rintro e w' ⟨he, hu, D', hD, h⟩
  exact ⟨he, hu.mono (by intro k _ hk; simp at hk; simp [Loc.M, hk]), D', h, grow_out h2 h3 hD, fun k hk => Nat.lt_of_lt_of_le (h3 k hk) hu.size⟩

theorem on_vote {w : World} {L : Loc} {st : Sl} {A : List Nat} (h : On w L st A) (kind node sl : Int) (v : Value) (rs : List Rq) (hb : Bat w v rs) (hn : rs.length ≤ 100000) :
    Calls Tryz.prog 264 #[L.ptr, .int .i64 kind, .int .i64 node, .int .i64 sl, v] w fun e w' => e = .returned (.bool (canVote st kind node)) ∧ Upd L.M w w' ∧ On w' L (voteS st kind node sl rs) A := by
  obtain ⟨D, h1, h2, h3⟩ := h
  refine (slot_vote h1 kind node sl v rs hb hn).mono ?_
  rintro e w' ⟨he, hu, D', hD, h⟩
  exact ⟨he, hu.mono (by intro k _ hk; simp [Loc.M] at hk ⊢; exact .inr hk), D', h, grow_out h2 h3 hD, fun k hk => Nat.lt_of_lt_of_le (h3 k hk) hu.size⟩

theorem on_chosen {w : World} {L : Loc} {st : Sl} {A : List Nat} (h : On w L st A) :
    Calls Tryz.prog 215 #[L.ptr] w fun e w' => ∃ u, e = .returned (.tuple #[u, .bool st.has]) ∧ Upd [] w w' ∧ On w' L st A ∧ Bat w' u (chosenS st) ∧ ∀ k ∈ blkOf u, w.heap.size ≤ k := by
  have h0 := h
  obtain ⟨D, h1, h2, h3⟩ := h
  refine (slot_chosen h1).mono ?_
  rintro e w' ⟨u, he, hu, hb, hn⟩
  exact ⟨u, he, hu, h0.upd0 hu, hb, fun k hk => (hn k hk).1⟩

theorem on_prepared {w : World} {L : Loc} {st : Sl} {A : List Nat} (h : On w L st A) :
    Calls Tryz.prog 280 #[L.ptr] w fun e w' => ∃ u, e = .returned (.tuple #[u, .bool (preparedS L.f st).isSome]) ∧ Upd [] w w' ∧ On w' L st A ∧ Vts w' u ((preparedS L.f st).getD []) ∧ ∀ k ∈ blkOf u, w.heap.size ≤ k := by
  have h0 := h
  obtain ⟨D, h1, h2, h3⟩ := h
  refine (slot_prepared h1).mono ?_
  rintro e w' ⟨u, he, hb, hv, hn⟩
  exact ⟨u, he, Upd.of_below hb, h0.below hb, hv, hn⟩

theorem on_committed {w : World} {L : Loc} {st : Sl} {A : List Nat} (h : On w L st A) :
    Calls Tryz.prog 282 #[L.ptr] w fun e w' => ∃ v u, e = .returned (.tuple #[v, u, .bool (committedS L.f st).isSome]) ∧ Upd [] w w' ∧ On w' L st A ∧ Bat w' v (batchOf (committedS L.f st)) ∧ Vts w' u (votesOf (committedS L.f st)) ∧ (∀ k ∈ blkOf v, w.heap.size ≤ k) ∧ ∀ k ∈ blkOf u, w.heap.size ≤ k := by
  have h0 := h
  obtain ⟨D, h1, h2, h3⟩ := h
  refine (slot_committed h1).mono ?_
  rintro e w' ⟨v, u, he, hb, q1, q2, q3, q4⟩
  exact ⟨v, u, he, Upd.of_below hb, h0.below hb, q1, q2, q3, q4⟩

theorem on_reset {w : World} {L : Loc} {st : Sl} {A : List Nat} (h : On w L st A) :
    Calls Tryz.prog 214 #[L.ptr] w fun e w' => ∃ bp bc, e = .returned (.tuple #[]) ∧ Upd [L.s] w w' ∧ w.heap.size ≤ bp ∧ w.heap.size ≤ bc ∧ On w' ⟨L.s, bp, bc, 3 * L.f + 1, 3 * L.f + 1, L.f⟩ (emptySl L.f) A := by
  obtain ⟨D, h1, h2, h3⟩ := h
  refine (slot_reset h1).mono ?_
  rintro e w' ⟨bp, bc, he, hu, g1, g2, h⟩
  exact ⟨bp, bc, he, hu, g1, g2, [], h, by simp, fun k hk => Nat.lt_of_lt_of_le (h3 k hk) hu.size⟩

theorem on_clone {w : World} {L : Loc} {st : Sl} {A : List Nat} (h : On w L st A) (_hA : ∀ k ∈ L.M, k ∈ A) :
    Calls Tryz.prog 197 #[L.ptr] w fun e w' => ∃ L' : Loc, e = .returned L'.ptr ∧ L'.f = L.f ∧ Upd [] w w' ∧ On w' L st A ∧ (∀ k ∈ L'.M, w.heap.size ≤ k) ∧ On w' L' st A ∧ On w' L st (L'.M ++ A) := by
  have h0 := h
  obtain ⟨D, h1, h2, h3⟩ := h
  refine (slot_clone h1).mono ?_
  rintro e w' ⟨t, bp, bc, cp, cq, he, hb, g1, g2, g3, h⟩
  refine ⟨⟨t, bp, bc, cp, cq, L.f⟩, he, rfl, Upd.of_below hb, h0.below hb, by simp [Loc.M]; omega, ⟨D, h, h2, fun k hk => Nat.lt_of_lt_of_le (h3 k hk) hb.size⟩, ?_⟩
  have hl := h.cells
  obtain ⟨_, _, l1, l2, l3, _⟩ := hl
  refine ⟨D, h1.upd (Upd.of_below (M := []) hb) (by simp) (by simp) (by simp) (by simp), ?_, ?_⟩
  · intro k hk hn
    rcases List.mem_append.1 hn with hn | hn
    · have := h1.Dw k hk
      simp [Loc.M] at hn
      omega
    · exact h2 k hk hn
  · intro k hk
    rcases List.mem_append.1 hk with hk | hk
    · simp [Loc.M] at hk
      rcases hk with rfl | rfl | rfl <;> assumption
    · exact Nat.lt_of_lt_of_le (h3 k hk) hb.size

end Go.Proofs.YtannckelmojkoaaGreat

/- Helps of the statements: Within, Nodes, Quorum, Same. -/
namespace Go.Proofs.YtannckelmojkoaaGreat
open Go.RowKit Go.Heap

theorem tmod_in (v n : Int) (h : 1 ≤ n) : -n < v.tmod n ∧ v.tmod n < n := by
  have h1 := Int.tmod_lt_of_pos v (show 0 < n by omega)
  have h2 := Int.lt_tmod_of_pos v (show 0 < n by omega)
  exact ⟨h2, h1⟩

theorem tmod_emod (v n : Int) (h : 1 ≤ n) : v % n = if v.tmod n < 0 then v.tmod n + n else v.tmod n := by
  have h1 := Int.mul_tdiv_add_tmod v n
  have h2 := tmod_in v n h
  have h3 : v % n = v.tmod n % n := by
    conv => lhs; rw [← h1]
    rw [Int.mul_add_emod_self_left]
  rw [h3]
  split
  · rw [← Int.add_emod_right, Int.emod_eq_of_lt (by omega) (by omega)]
  · rw [Int.emod_eq_of_lt (by omega) (by omega)]

set_option maxHeartbeats 400000 in
theorem Within_any (v n : Int) (w : World) (h0 : 1 ≤ n) (h1 : n ≤ 1000000) :
    Calls Tryz.prog 16 #[.int .i64 v, .int .i64 n] w fun e w' => e = .returned (.int .i64 (v % n)) ∧ w = w' := by
  obtain ⟨b1, b2⟩ := tmod_in v n h0
  have H := Lib.hid (tmod_emod v n h0)
  go_enter Tryz.func16, Tryz.ntmps16
  go_wp2
  all_goals
    go_ret
    refine ⟨ret_int ?_, rfl⟩
    have h := H.out
    split at h <;> omega

theorem emod_in (v n : Int) (h : 1 ≤ n) : 0 ≤ v % n ∧ v % n < n := ⟨Int.emod_nonneg _ (by omega), Int.emod_lt_of_pos _ (by omega)⟩

/-- 1 + Within(f, 4) as a natural number from 1 to 4. -/
theorem f_of (v : Int) : ∃ f : Nat, 1 ≤ f ∧ f ≤ 4 ∧ 1 + v % 4 = f := by
  obtain ⟨h1, h2⟩ := emod_in v 4 (by omega)
  exact ⟨(1 + v % 4).toNat, by omega, by omega, by omega⟩

set_option maxHeartbeats 400000 in
theorem rnodes_any (f : Int) (w : World) (h1 : 1 ≤ f) (h2 : f ≤ 4) : Calls Tryz.prog 17 #[.int .i64 f] w fun e w' => e = .returned (.int .i64 (3 * f + 1)) ∧ w = w' := by
  go_enter Tryz.func17, Tryz.ntmps17
  go_wp2
  go_ret
  exact ⟨rfl, rfl⟩

set_option maxHeartbeats 400000 in
theorem rquorum_any (f : Int) (w : World) (h1 : 1 ≤ f) (h2 : f ≤ 4) : Calls Tryz.prog 21 #[.int .i64 f] w fun e w' => e = .returned (.int .i64 (2 * f + 1)) ∧ w = w' := by
  go_enter Tryz.func21, Tryz.ntmps21
  go_wp2
  go_ret
  exact ⟨rfl, rfl⟩

theorem Tryz.stoodVote : Tryz.prog.stoodInHeld 177 = false := by kernel_rfl
theorem Tryz.guardVote : Tryz.prog.eqGuardType Tryz.prog.depth 177 = false := by kernel_rfl

theorem run_equal_vote (a b c d : Int) (w : World) : (Op.equalIn 10000 177 (.agg #[.int .i64 a, .int .i64 b]) (.agg #[.int .i64 c, .int .i64 d])).run Tryz.prog w = .ok (decide ((a, b) = (c, d))) w := by
  simp [go_sem]
  by_cases h1 : a = c
  · by_cases h2 : b = d <;> simp [*]
  · simp [*]

theorem vts_cells {w : World} {b o : Nat} {rs : Vs} (hc : ∀ j, j < rs.length * 2 → w.cell? ⟨b, o + j, none⟩ = (vsCells rs)[j]?) (k : Nat) (p : Int × Int) (hp : rs[k]? = some p) :
    w.cell? ⟨b, o + k * 2, none⟩ = some (.int .i64 p.1) ∧ w.cell? ⟨b, o + k * 2 + 1, none⟩ = some (.int .i64 p.2) := by
  have hk := (List.getElem?_eq_some_iff.1 hp).1
  obtain ⟨e0, e1⟩ := vsCells_get rs k p hp
  exact ⟨(hc _ (by omega)).trans e0, (hc (k * 2 + 1) (by omega)).trans e1⟩

set_option maxHeartbeats 400000 in
theorem sameV_any (v u : Value) (rs ss : Vs) (w : World) (hn : rs.length ≤ 100000) (hm : ss.length ≤ 100000) (h : Vts w v rs) (h' : Vts w u ss) :
    Calls Tryz.prog 194 #[v, u] w fun e w' => e = .returned (.bool (decide (rs = ss))) ∧ Upd [] w w' := by
  obtain ⟨ao, cap, rfl, h1, h2, h3, h4, h5⟩ := h
  obtain ⟨bo, cap', rfl, k1, k2, k3, k4, k5⟩ := h'
  clear h1 h2 h3 h4 k1 k2 k3 k4
  have H5 := Lib.hid h5
  have K5 := Lib.hid k5
  clear h5 k5
  by_cases hlen : rs.length = ss.length
  · have HL := Lib.hid hlen
    have hlb : ((rs.length : Int) != (ss.length : Int)) = false := by simp [hlen]
    have hle1 : rs.length ≤ ss.length := by omega
    have hle2 : ss.length ≤ rs.length := by omega
    clear hlen
    go_enter Tryz.func194, Tryz.ntmps194
    go_wp2_with fail
    go_loopw [5] (fun i wr => ∃ k : Nat, k ≤ rs.length ∧ i = .int .i64 k ∧ rs.take k = ss.take k ∧ Below w.heap.size w wr) (fun i _ => rs.length - (intOf i).toNat)
    case atStart => exact ⟨0, by omega, rfl, by simp, Below.refl _ _⟩
    case round =>
      obtain ⟨k, hk, rfl, he, hb⟩ := hrel
      have HE := Lib.hid he
      clear he
      by_cases hlt : k < rs.length
      · obtain ⟨b, o, rfl, hbs, hc⟩ := H5.out (by omega)
        obtain ⟨b', o', rfl, hbs', hc'⟩ := K5.out (by omega)
        have hlt' : k < ss.length := by omega
        obtain ⟨q0, q1⟩ := vts_cells (cells_below hb hbs hc) k rs[k] (by simp)
        obtain ⟨p0, p1⟩ := vts_cells (cells_below hb hbs' hc') k ss[k] (by simp)
        clear hc hc'
        have hkI : (k : Int) < (ss.length : Int) := by omega
        have hkJ : (k : Int) < (rs.length : Int) := by omega
        by_cases he : rs[k] = ss[k]
        · have heq : ∀ wx, (Op.equalIn 10000 177 (.agg #[.int .i64 rs[k].1, .int .i64 rs[k].2]) (.agg #[.int .i64 ss[k].1, .int .i64 ss[k].2])).run Tryz.prog wx = .ok true wx := fun wx => by rw [run_equal_vote]; simp [he]
          have HEK := Lib.hid he
          clear he
          have hgd := Tryz.guardVote
          go_wp2_with fail
          go_quiet (fail)
          go_wp2_with fail
          go_roundw
          case rel => exact ⟨k + 1, by omega, by go_num, take_same HE.out hlt hlt' HEK.out, below_drewN hb _⟩
          case measure => simp [intOf]; omega
        · have heq : ∀ wx, (Op.equalIn 10000 177 (.agg #[.int .i64 rs[k].1, .int .i64 rs[k].2]) (.agg #[.int .i64 ss[k].1, .int .i64 ss[k].2])).run Tryz.prog wx = .ok false wx := fun wx => by rw [run_equal_vote]; simp; exact fun h1 h2 => he (Prod.ext h1 h2)
          have HEK := Lib.hid he
          clear he
          have hgd := Tryz.guardVote
          go_wp2_with fail
          go_quiet (fail)
          go_wp2_with fail
          go_ret
          refine ⟨ret_bool ?_, Upd.of_below (below_drewN hb _)⟩
          symm
          rw [decide_eq_false_iff_not]
          intro e
          subst e
          exact HEK.out rfl
      · go_wp2_with fail
        go_ret
        refine ⟨ret_bool ?_, Upd.of_below hb⟩
        symm
        rw [decide_eq_true_iff]
        have h1 := HE.out
        rw [List.take_of_length_le (by omega), List.take_of_length_le (by omega)] at h1
        exact h1
  · have hlb : ((rs.length : Int) != (ss.length : Int)) = true := by simp; omega
    have HL := Lib.hid hlen
    clear hlen
    go_enter Tryz.func194, Tryz.ntmps194
    go_wp2_with fail
    go_ret
    refine ⟨ret_bool ?_, Upd.refl _ _⟩
    symm
    rw [decide_eq_false_iff_not]
    intro e
    exact HL.out (by rw [e])

set_option maxHeartbeats 400000 in
theorem sameR_any (v u : Value) (rs ss : List Rq) (w : World) (hn : rs.length ≤ 100000) (hm : ss.length ≤ 100000) (h : Bat w v rs) (h' : Bat w u ss) :
    Calls Tryz.prog 193 #[v, u] w fun e w' => e = .returned (.bool (decide (rs = ss))) ∧ Upd [] w w' := by
  obtain ⟨ao, cap, rfl, h1, h2, h3, h4, h5⟩ := h
  obtain ⟨bo, cap', rfl, k1, k2, k3, k4, k5⟩ := h'
  clear h1 h2 h3 h4 k1 k2 k3 k4
  have H5 := Lib.hid h5
  have K5 := Lib.hid k5
  clear h5 k5
  by_cases hlen : rs.length = ss.length
  · have HL := Lib.hid hlen
    have hlb : ((rs.length : Int) != (ss.length : Int)) = false := by simp [hlen]
    have hle1 : rs.length ≤ ss.length := by omega
    have hle2 : ss.length ≤ rs.length := by omega
    clear hlen
    go_enter Tryz.func193, Tryz.ntmps193
    go_wp2_with fail
    go_loopw [5] (fun i wr => ∃ k : Nat, k ≤ rs.length ∧ i = .int .i64 k ∧ rs.take k = ss.take k ∧ Below w.heap.size w wr) (fun i _ => rs.length - (intOf i).toNat)
    case atStart => exact ⟨0, by omega, rfl, by simp, Below.refl _ _⟩
    case round =>
      obtain ⟨k, hk, rfl, he, hb⟩ := hrel
      have HE := Lib.hid he
      clear he
      by_cases hlt : k < rs.length
      · obtain ⟨b, o, rfl, hbs, hc⟩ := H5.out (by omega)
        obtain ⟨b', o', rfl, hbs', hc'⟩ := K5.out (by omega)
        have hlt' : k < ss.length := by omega
        obtain ⟨q0, q1, q2, q3, q4, q5⟩ := bat_cells (cells_below hb hbs hc) k rs[k] (by simp)
        obtain ⟨p0, p1, p2, p3, p4, p5⟩ := bat_cells (cells_below hb hbs' hc') k ss[k] (by simp)
        clear hc hc'
        have hkI : (k : Int) < (ss.length : Int) := by omega
        have hkJ : (k : Int) < (rs.length : Int) := by omega
        by_cases he : rs[k] = ss[k]
        · have heq : ∀ wx, (Op.equalIn 10000 38 (rqAgg rs[k]) (rqAgg ss[k])).run Tryz.prog wx = .ok true wx := fun wx => by rw [run_equal_req]; simp [he]
          have HEK := Lib.hid he
          clear he
          unfold rqAgg at heq
          have hgd := Tryz.guardReq
          go_wp2_with fail
          go_quiet (fail)
          go_wp2_with fail
          go_roundw
          case rel => exact ⟨k + 1, by omega, by go_num, take_same HE.out hlt hlt' HEK.out, below_drewN hb _⟩
          case measure => simp [intOf]; omega
        · have heq : ∀ wx, (Op.equalIn 10000 38 (rqAgg rs[k]) (rqAgg ss[k])).run Tryz.prog wx = .ok false wx := fun wx => by rw [run_equal_req]; simp [he]
          have HEK := Lib.hid he
          clear he
          unfold rqAgg at heq
          have hgd := Tryz.guardReq
          go_wp2_with fail
          go_quiet (fail)
          go_wp2_with fail
          go_ret
          refine ⟨ret_bool ?_, Upd.of_below (below_drewN hb _)⟩
          symm
          rw [decide_eq_false_iff_not]
          intro e
          subst e
          exact HEK.out rfl
      · go_wp2_with fail
        go_ret
        refine ⟨ret_bool ?_, Upd.of_below hb⟩
        symm
        rw [decide_eq_true_iff]
        have h1 := HE.out
        rw [List.take_of_length_le (by omega), List.take_of_length_le (by omega)] at h1
        exact h1
  · have hlb : ((rs.length : Int) != (ss.length : Int)) = true := by simp; omega
    have HL := Lib.hid hlen
    clear hlen
    go_enter Tryz.func193, Tryz.ntmps193
    go_wp2_with fail
    go_ret
    refine ⟨ret_bool ?_, Upd.refl _ _⟩
    symm
    rw [decide_eq_false_iff_not]
    intro e
    exact HL.out (by rw [e])

end Go.Proofs.YtannckelmojkoaaGreat

/- Slots and batches as resources. -/
namespace Go.Proofs.YtannckelmojkoaaGreat
open Go.RowKit Go.Heap

theorem VotesAt.dep {w w' : World} {b : Nat} {vs : List Vt} {D : List Nat} (h : VotesAt w b vs D) (hk : ∀ k, k = b ∨ k ∈ D → w'.heap[k]? = w.heap[k]?) (hs : w.heap.size ≤ w'.heap.size) : VotesAt w' b vs D := by
  obtain ⟨arr, h1, h2, h3⟩ := h
  refine ⟨arr, by rw [hk b (.inl rfl)]; exact h1, h2, fun i t hi => ?_⟩
  obtain ⟨v, a1, a2, a3, a4, a5⟩ := h3 i t hi
  exact ⟨v, a1, a2, a3, Reads.keep a4 (fun k hkb _ => hk k (.inr (a5 k hkb))) hs, a5⟩

theorem SlotAt.dep {w w' : World} {s bp bc cp cq f : Nat} {st : Sl} {D : List Nat} (h : SlotAt w s bp bc cp cq f st D) (hk : ∀ k, k ∈ [s, bp, bc] ∨ k ∈ D → w'.heap[k]? = w.heap[k]?) (hs : w.heap.size ≤ w'.heap.size) : SlotAt w' s bp bc cp cq f st D := by
  obtain ⟨v, a1, a2, a3⟩ := h.own
  exact { h with
    own := ⟨v, by rw [hk s (by simp)]; exact a1, Reads.keep a2 (fun k hkb _ => hk k (.inr (a3 k hkb))) hs, a3⟩
    ps := h.ps.dep (fun k hkb => hk k (hkb.imp (fun e => by simp [e]) id)) hs
    cs := h.cs.dep (fun k hkb => hk k (hkb.imp (fun e => by simp [e]) id)) hs
    Dw := fun k hkD => Nat.lt_of_lt_of_le (h.Dw k hkD) hs }

def slotR (L : Loc) (st : Sl) : Res where
  M := L.M
  Q := fun w D => SlotAt w L.s L.bp L.bc L.cp L.cq L.f st D
  dep := fun h hk hs => h.dep hk hs
  lt := fun {w D} h k hk => hk.elim (fun hk => On.lt (A := []) ⟨D, h, by simp, by simp⟩ k hk) (fun hk => h.Dw k hk)
  sep := fun h k hk hn => by
    simp [Loc.M] at hk
    rcases hk with rfl | rfl | rfl
    · exact h.Ds hn
    · exact h.Dp hn
    · exact h.Dc hn

/-- A batch that is only read. -/
def BatIn (w : World) (v : Value) (rs : List Rq) (D : List Nat) : Prop := ReadsIn w v 6 rs.length (rqsCells rs) D

theorem Bat.lies {w : World} {v : Value} {rs : List Rq} (h : Bat w v rs) : BatIn w v rs (blkIf rs.length v) := Reads.lies h
theorem BatIn.bat {w : World} {v : Value} {rs : List Rq} {D : List Nat} (h : BatIn w v rs D) : Bat w v rs := h.1

def batR (v : Value) (rs : List Rq) : Res := imm (fun w D => BatIn w v rs D) (fun h hk hs => ReadsIn.dep h hk hs)

theorem batR_out {v : Value} {rs : List Rq} {w : World} {A : List Nat} (h : (batR v rs).At w A) : Bat w v rs := let ⟨_, h, _⟩ := h; h.1.1

section
variable {B : Nat} {w0 W W' : World} {rs : List Res} {L : Loc} {st : Sl}

theorem own_on (h : Own B w0 W (slotR L st :: rs)) : On W L st (Ms (slotR L st :: rs)) := h.head

theorem own_small (h : Own B w0 W (slotR L st :: rs)) : st.batch.length ≤ 100000 ∧ (∀ t ∈ st.ps, t.batch.length ≤ 100000) ∧ (∀ t ∈ st.cs, t.batch.length ≤ 100000) ∧ st.ps.length = 3 * L.f + 1 ∧ st.cs.length = 3 * L.f + 1 := by
  obtain ⟨D, h1, _, _⟩ := own_on h
  exact ⟨h1.small.1, h1.small.2.1, h1.small.2.2, h1.pl, h1.cl⟩

theorem own_bat (h : Own B w0 W rs) {v : Value} {l : List Rq} (hb : Bat W v l) (hk : ∀ k ∈ blkIf l.length v, k < B ∨ w0.heap.size ≤ k ∧ k ∉ Ms rs) : Own B w0 W (batR v l :: rs) :=
  h.new (Upd.refl [] _) ⟨blkIf l.length v, ⟨hb.lies, Reads.lies_lt hb⟩, fun k hkD => (hk k hkD).elim (fun hl => h.elder hl) (·.2), fun k hkA => h.lt k hkA⟩ (by simp [batR, imm])

theorem own_new (f : Nat) (h1 : 1 ≤ f) (h2 : f ≤ 4) (h : Own B w0 W rs) :
    Calls Tryz.prog 151 #[.int .i64 f] W fun e w' => ∃ L : Loc, e = .returned (.tuple #[L.ptr, .int .i64 0]) ∧ L.f = f ∧ Upd [] W w' ∧ Own B w0 w' (slotR L (emptySl f) :: rs) := by
  refine (on_new f h1 h2 W).mono ?_
  rintro e w' ⟨L, he, hf, hu, hM, hon⟩
  exact ⟨L, he, hf, hu, h.new (r := slotR L (emptySl f)) hu (hon (Ms rs) (fun k hk => Nat.lt_of_lt_of_le (h.lt k hk) hu.size)) hM⟩

theorem own_pre (h : Own B w0 W (slotR L st :: rs)) (v : Value) (l : List Rq) (hb : Bat W v l) (hn : l.length ≤ 100000) :
    Calls Tryz.prog 217 #[L.ptr, v] W fun e w' => e = .returned (.bool (!st.has)) ∧ Upd L.M W w' ∧ Own B w0 w' (slotR L (if st.has then st else { st with has := true, batch := l }) :: rs) := by
  refine (on_pre (own_on h) v l hb hn).mono ?_
  rintro e w' ⟨he, hu, hon⟩
  exact ⟨he, hu, h.step (r' := slotR L _) hu hon (fun k hk => .inl hk)⟩

theorem own_vote (h : Own B w0 W (slotR L st :: rs)) (kind node sl : Int) (v : Value) (l : List Rq) (hb : Bat W v l) (hn : l.length ≤ 100000) :
    Calls Tryz.prog 264 #[L.ptr, .int .i64 kind, .int .i64 node, .int .i64 sl, v] W fun e w' => e = .returned (.bool (canVote st kind node)) ∧ Upd L.M W w' ∧ Own B w0 w' (slotR L (voteS st kind node sl l) :: rs) := by
  refine (on_vote (own_on h) kind node sl v l hb hn).mono ?_
  rintro e w' ⟨he, hu, hon⟩
  exact ⟨he, hu, h.step (r' := slotR L _) hu hon (fun k hk => .inl hk)⟩

theorem own_reset (h : Own B w0 W (slotR L st :: rs)) :
    Calls Tryz.prog 214 #[L.ptr] W fun e w' => ∃ L' : Loc, e = .returned (.tuple #[]) ∧ L'.f = L.f ∧ L'.s = L.s ∧ Upd L.M W w' ∧ Own B w0 w' (slotR L' (emptySl L.f) :: rs) := by
  obtain ⟨D, h1, h2, h3⟩ := own_on h
  refine (slot_reset h1).mono ?_
  rintro e w' ⟨bp, bc, he, hu, g1, g2, h4⟩
  have hu' : Upd L.M W w' := hu.mono (by intro k _ hk; simp at hk; simp [Loc.M, hk])
  refine ⟨⟨L.s, bp, bc, 3 * L.f + 1, 3 * L.f + 1, L.f⟩, he, rfl, rfl, hu', h.step (r' := slotR ⟨L.s, bp, bc, 3 * L.f + 1, 3 * L.f + 1, L.f⟩ (emptySl L.f)) hu' ⟨[], h4, by simp, fun k hk => Nat.lt_of_lt_of_le (h3 k hk) hu.size⟩ (fun k hk => ?_)⟩
  simp [slotR, Loc.M] at hk ⊢
  omega

theorem own_clone (h : Own B w0 W (slotR L st :: rs)) :
    Calls Tryz.prog 197 #[L.ptr] W fun e w' => ∃ L' : Loc, e = .returned L'.ptr ∧ L'.f = L.f ∧ Upd [] W w' ∧ Own B w0 w' (slotR L' st :: slotR L st :: rs) := by
  obtain ⟨D, h1, h2, h3⟩ := own_on h
  refine (slot_clone h1).mono ?_
  rintro e w' ⟨t, bp, bc, cp, cq, he, hb, g1, g2, g3, h4⟩
  have hu : Upd [] W w' := Upd.of_below hb
  exact ⟨⟨t, bp, bc, cp, cq, L.f⟩, he, rfl, hu, h.new (r := slotR ⟨t, bp, bc, cp, cq, L.f⟩ st) hu ⟨D, h4, h2, fun k hk => Nat.lt_of_lt_of_le (h3 k hk) hu.size⟩ (by simp [slotR, Loc.M]; omega)⟩

theorem own_chosen (h : Own B w0 W (slotR L st :: rs)) :
    Calls Tryz.prog 215 #[L.ptr] W fun e w' => ∃ u, e = .returned (.tuple #[u, .bool st.has]) ∧ Upd [] W w' ∧ Bat w' u (chosenS st) ∧ ∀ k ∈ blkOf u, W.heap.size ≤ k := by
  refine (on_chosen (own_on h)).mono ?_
  rintro e w' ⟨u, he, hu, _, hb, hn⟩
  exact ⟨u, he, hu, hb, hn⟩

theorem own_prepared (h : Own B w0 W (slotR L st :: rs)) :
    Calls Tryz.prog 280 #[L.ptr] W fun e w' => ∃ u, e = .returned (.tuple #[u, .bool (preparedS L.f st).isSome]) ∧ Upd [] W w' ∧ Vts w' u ((preparedS L.f st).getD []) ∧ ∀ k ∈ blkOf u, W.heap.size ≤ k := by
  refine (on_prepared (own_on h)).mono ?_
  rintro e w' ⟨u, he, hu, _, hb, hn⟩
  exact ⟨u, he, hu, hb, hn⟩

theorem own_committed (h : Own B w0 W (slotR L st :: rs)) :
    Calls Tryz.prog 282 #[L.ptr] W fun e w' => ∃ v u, e = .returned (.tuple #[v, u, .bool (committedS L.f st).isSome]) ∧ Upd [] W w' ∧ Bat w' v (batchOf (committedS L.f st)) ∧ Vts w' u (votesOf (committedS L.f st)) ∧ (∀ k ∈ blkOf v, W.heap.size ≤ k) ∧ ∀ k ∈ blkOf u, W.heap.size ≤ k := by
  refine (on_committed (own_on h)).mono ?_
  rintro e w' ⟨v, u, he, hu, _, q1, q2, q3, q4⟩
  exact ⟨v, u, he, hu, q1, q2, q3, q4⟩

end
end Go.Proofs.YtannckelmojkoaaGreat

namespace Go.Proofs.YtannckelmojkoaaGreat
open Go.ChangeShapes Go.WideShapes Go.ChangeAt Go.RowKit

theorem Tryz.own : ownKnob Tryz.prog.godebug = none := by kernel_rfl
theorem Tryz.laidOut : laidOutB Tryz.prog = true := by kernel_rfl

theorem trodAll_below {H : Type} {enc : TypeId × Value → H} {P : Program} (hl : laidOutB P = true) {W W' : World} (hb : Below W.heap.size W W') :
    ∀ (ts : List TypeId) (vs : List Value) (ds : List (DataW H)) (ps : List MemPlace), (∀ t ∈ ts, P.readableRec t = true ∧ t < P.types.size) → (∀ x ∈ ps, x.block < W.heap.size) →
      DataW.TrodAll enc P W 0 (fun _ => true) true ts vs ds ps → DataW.TrodAll enc P W' 0 (fun b => decide (b < W.heap.size)) true ts vs ds ps
  | [], [], [], _, _, _, h => h
  | t :: ts, v :: vs, d :: ds, ps, hr, hp, ⟨p, q, h1, h2, he⟩ => by
    subst he
    exact ⟨p, q, Below.trod hl (hr t (by simp)).1 (hr t (by simp)).2 h1 hb (fun x hx => hp x (by simp [hx])), trodAll_below hl hb ts vs ds q (fun t ht => hr t (by simp [ht])) (fun x hx => hp x (by simp [hx])) h2, rfl⟩
  | [], [], _ :: _, _, _, _, h => h.elim
  | [], _ :: _, _, _, _, _, h => by cases ‹List (DataW H)› <;> exact h.elim
  | _ :: _, [], _, _, _, _, h => by cases ‹List (DataW H)› <;> exact h.elim
  | _ :: _, _ :: _, [], _, _, _, h => h.elim

/-- A law that returns true and writes nothing that was there. -/
theorem law_post {H : Type} {enc : TypeId × Value → H} {P : Program} {f : Func} {s : ChangeSpec} (hl : laidOutB P = true) (hv : s.vars = []) (tb : TypeId) (hres : f.resultTypes = #[tb]) (hu : P.underlying tb = some .bool)
    (hr : ∀ t ∈ f.params.toList, P.readableRec t = true ∧ t < P.types.size) {W W' : World} {args : Array Value} {ds gs : List (DataW H)} {before : List MemPlace} (hW : DataW.Whole enc P f.params.toList s.vars false W args.toList ds gs before)
    (hb : Below W.heap.size W W') (hfn : s.fn H (ds ++ gs) = { results := [.lit (.bool true)], args := ds }) : s.post enc P f false true false false W args (.bool true) W' := by
  have hW0 := hW
  obtain ⟨p, q, hA, hV, he, hz, hn⟩ := hW
  rw [hv] at hV
  obtain ⟨hgs, hq⟩ := trodVars_none hV
  subst hgs; subst hq; subst he
  rw [List.append_nil] at hz hW0
  refine ⟨ds, [], p, [], p, [], hW0, ?_, ?_, ?_, hb.frame _, fun h => by cases h⟩
  · rw [hfn, hres]
    exact trodAll_cons_mk (shut_bool hu _) trodAll_mk0
  · rw [hfn]
    exact trodAll_below hl hb _ _ _ _ hr (fun x hx => hW0.lt x hx) hA
  · rw [hv, hfn]
    rfl

end Go.Proofs.YtannckelmojkoaaGreat

/- A slice that came in, element by element: its cells as a list. No program. -/
namespace Go.Heap
open Go Go.ChangeShapes Go.WideShapes Go.ChangeAt Go.RowKit Go.Deep

theorem flat_length {α : Type} {cells : α → List Value} {sz : Nat} (hl : ∀ x, (cells x).length = sz) : ∀ xs : List α, (xs.flatMap cells).length = xs.length * sz
  | [] => by simp
  | x :: xs => by rw [List.flatMap_cons, List.length_append, hl, flat_length hl xs, List.length_cons, Nat.succ_mul]; omega

theorem flat_get {α : Type} {cells : α → List Value} {sz : Nat} (hl : ∀ x, (cells x).length = sz) : ∀ (xs : List α) (i r : Nat) (x : α), xs[i]? = some x → r < sz → (xs.flatMap cells)[i * sz + r]? = (cells x)[r]?
  | [], i, r, x, h, _ => by simp at h
  | y :: ys, 0, r, x, h, hr => by
    simp only [List.getElem?_cons_zero, Option.some.injEq] at h
    subst h
    rw [List.flatMap_cons, List.getElem?_append_left (by rw [hl]; omega), Nat.zero_mul, Nat.zero_add]
  | y :: ys, i + 1, r, x, h, hr => by
    rw [List.flatMap_cons, List.getElem?_append_right (by rw [hl, Nat.succ_mul]; omega), hl]
    rw [show (i + 1) * sz + r - sz = i * sz + r by rw [Nat.succ_mul]; omega]
    exact flat_get hl ys i r x (by simpa using h) hr

section
variable {H : Type} {enc : TypeId × Value → H} {W : World} {P : Program} {base : Nat} {spare : Nat → Bool} {held : Bool}

theorem slice_reads {t e : TypeId} {sz fuel : Nat} {v : Value} {x : DataW H × List MemPlace} {α : Type} {cells : α → List Value} {Q : α → Prop} (ht : P.underlying t = some (.slice e)) (hC : P.cellsOf e = sz) (hsz : 0 < sz) (hlen : ∀ a, (cells a).length = sz)
    (hel : ∀ n cs' y, cs'.length = sz → DataW.trod enc P W base spare held n e cs' = some y → ∃ a, cs' = cells a ∧ Q a) (h : DataW.trod enc P W base spare held fuel t [v] = some x) :
    ∃ xs : List α, Reads W v sz xs.length (xs.flatMap cells) ∧ ∀ a ∈ xs, Q a := by
  rcases open_slice ht h with ⟨hcs, _⟩ | ⟨a, len, cap, m, n, D, Pl, hcs, hb, hl, hm, hmm, _, hi⟩
  · simp only [List.cons.injEq, and_true] at hcs
    subst hcs
    exact ⟨[], Reads.nil _ _, by simp⟩
  · simp only [List.cons.injEq, and_true] at hcs
    subst hcs
    have hmle : len ≤ m := by rw [hmm]; split <;> omega
    have each : ∀ i, ∃ b : Option α, i < len → ∃ a', b = some a' ∧ Q a' ∧ ∀ j, j < sz → W.cell? ((a.add (i * sz)).add j) = (cells a')[j]? := by
      intro i
      by_cases hil : i < len
      · obtain ⟨cs', hc, ht'⟩ := hi i (by omega)
        rw [hC] at hc
        obtain ⟨_, hcl, hat⟩ := World.cells?_some hc
        obtain ⟨a', ha, hq⟩ := hel n cs' _ hcl ht'
        subst ha
        exact ⟨some a', fun _ => ⟨a', rfl, hq, hat⟩⟩
      · exact ⟨none, fun h => absurd h hil⟩
    obtain ⟨F, hF⟩ := Classical.axiomOfChoice each
    by_cases hz : len = 0
    · subst hz
      exact ⟨[], ⟨some a, cap, rfl, by omega, hm, by simp, (fun e => by cases e), fun h => absurd h (by simp)⟩, by simp⟩
    · obtain ⟨a0, _⟩ := hF 0 (by omega)
      have : Nonempty α := ⟨a0⟩
      let G : Nat → α := fun i => (F i).getD a0
      have hG : ∀ i, i < len → Q (G i) ∧ ∀ j, j < sz → W.cell? ((a.add (i * sz)).add j) = (cells (G i))[j]? := by
        intro i hil
        obtain ⟨a', e, q1, q2⟩ := hF i hil
        simp only [G, e, Option.getD_some]
        exact ⟨q1, q2⟩
      have hspot : a.spot = none := by
        have h0 := (hG 0 (by omega)).2 0 hsz
        rw [List.getElem?_eq_getElem (by rw [hlen]; exact hsz)] at h0
        have := World.cell?_spot h0
        simpa [Addr.add] using this
      obtain ⟨b, o, spot⟩ := a
      simp only at hspot
      subst hspot
      have hll : ((List.range len).map G).length = len := by simp
      refine ⟨(List.range len).map G, ⟨some ⟨b, o, none⟩, cap, by rw [hll], by rw [hll]; exact hl, hm, by rw [flat_length hlen], (fun e => by cases e), fun _ => ⟨b, o, rfl, ?_, fun j hj => ?_⟩⟩, ?_⟩
      · have h0 := (hG 0 (by omega)).2 0 hsz
        rw [List.getElem?_eq_getElem (by rw [hlen]; exact hsz), add_plain, add_plain] at h0
        by_cases hbl : b < W.heap.size
        · exact hbl
        · have : W.heap[b]? = none := by simp; omega
          simp [World.cell?, this] at h0
      · rw [hll] at hj
        have hd := Nat.div_add_mod j sz
        have hmod := Nat.mod_lt j hsz
        have hi' : j / sz < len := Nat.div_lt_of_lt_mul (by rw [Nat.mul_comm]; exact hj)
        have h1 := (hG (j / sz) hi').2 (j % sz) hmod
        rw [add_plain, add_plain] at h1
        have hjj : j = j / sz * sz + j % sz := by rw [Nat.mul_comm]; omega
        rw [hjj, ← Nat.add_assoc, h1, flat_get hlen _ (j / sz) (j % sz) (G (j / sz)) (by simp [hi']) hmod]
      · intro x hx
        simp only [List.mem_map, List.mem_range] at hx
        obtain ⟨i, hil, rfl⟩ := hx
        exact (hG i hil).1

end
end Go.Heap

/- Instances: what they are, in plain Lean; and how they lie in memory. -/
namespace Go.Proofs.YtannckelmojkoaaGreat
open Go.RowKit Go.Heap

/-! ### Plain -/

/-- A certificate. -/
structure Cp where
  view : Int
  inst : Int
  seq : Int
  rs : List Rq
  vs : Vs
deriving DecidableEq

/-- A slot of an instance. -/
structure Pl where
  sl : Sl
  told : Bool
  has : Bool
  ct : Cp
  done : Bool
  dw : Cp

structure In where
  f : Nat
  num : Int
  ahead : Int
  view : Int
  on : Bool
  l : List Pl

def noCp : Cp := ⟨0, 0, 0, [], []⟩
def emptyPl (f : Nat) : Pl := ⟨emptySl f, false, false, noCp, false, noCp⟩
def newI (f : Nat) (num ahead : Int) : In := ⟨f, num, ahead, 0, true, List.replicate 16 (emptyPl f)⟩

def In.upd (st : In) (k : Nat) (g : Pl → Pl) : In := { st with l := st.l.modify k g }
/-- The place of a number; none: there is none. -/
def idx (seq : Int) : Option Nat := if 1 ≤ seq ∧ seq ≤ 16 then some (seq.toNat - 1) else none
def plAt (st : In) (seq : Int) : Option Pl := (idx seq).bind fun k => st.l[k]?
def doneI (st : In) : Nat := (st.l.takeWhile (·.done)).length

def preB (st : In) (seq : Int) : Bool := match plAt st seq with | none => false | some p => st.on && decide (seq ≤ doneI st + st.ahead) && !p.sl.has
def slPre (rs : List Rq) (s : Sl) : Sl := if s.has then s else { s with has := true, batch := rs }
def preI (st : In) (seq : Int) (rs : List Rq) : In :=
  match idx seq with
  | none => st
  | some k => if preB st seq then st.upd k fun p => { p with sl := slPre rs p.sl } else st

def voteB (st : In) (kind seq node : Int) : Bool := match plAt st seq with | none => false | some p => st.on && canVote p.sl kind node
def voteI (st : In) (kind seq node sl : Int) (rs : List Rq) : In :=
  match idx seq with
  | none => st
  | some k => if st.on then st.upd k fun p => { p with sl := voteS p.sl kind node sl rs } else st

def prepI (st : In) (seq : Int) : Option Cp :=
  match plAt st seq with
  | none => none
  | some p => if st.on && !p.told then (preparedS st.f p.sl).map fun vs => ⟨st.view, st.num, seq, p.sl.batch, vs⟩ else none
def preparedI (st : In) (seq : Int) : In :=
  match idx seq, prepI st seq with
  | some k, some c => st.upd k fun p => { p with told := true, has := true, ct := c }
  | _, _ => st

def commI (st : In) (seq : Int) : Option Cp :=
  match plAt st seq with
  | none => none
  | some p => if p.done then none else (committedS st.f p.sl).map fun r => ⟨st.view, st.num, seq, r.1, r.2⟩
def commitsI (st : In) (seq : Int) : In :=
  match idx seq, commI st seq with
  | some k, some c => st.upd k fun p => { p with done := true, dw := c }
  | _, _ => st

def adoptB (st : In) (c : Cp) : Bool := match plAt st c.seq with | none => false | some p => !p.done && decide (c.inst = st.num)
def adoptI (st : In) (c : Cp) : In :=
  match idx c.seq with
  | none => st
  | some k => if adoptB st c then st.upd k fun p => { p with done := true, dw := c } else st

def committedI (st : In) (seq : Int) : Option Cp := match plAt st seq with | none => none | some p => if p.done then some p.dw else none
def leaveB (st : In) (v : Int) : Bool := decide (st.view < v) && decide (v ≤ 12)
def leaveI (st : In) (v : Int) : In := if leaveB st v then { st with view := v, on := false, l := st.l.map fun p => { p with sl := emptySl st.f, told := false } } else st
def instB (st : In) (n : Nat) : Bool := !st.on && decide (n ≤ 16)
def preAll : List (List Rq) → List Pl → List Pl
  | b :: bs, p :: ps => { p with sl := slPre b p.sl } :: preAll bs ps
  | _, ps => ps
def installI (st : In) (bs : List (List Rq)) : In := if instB st bs.length then { st with on := true, l := preAll bs st.l } else st
def certsI (st : In) : List Cp := (st.l.filter (·.has)).map (·.ct)
def chosenI (st : In) (seq : Int) : List Rq × Bool := match plAt st seq with | none => ([], false) | some p => (chosenS p.sl, p.sl.has)
/-- Behind the last place in which something is chosen. -/
def lastHas : List Pl → Nat
  | [] => 0
  | p :: l => if 0 < lastHas l then lastHas l + 1 else if p.sl.has then 1 else 0
def nextI (st : In) : Nat := lastHas st.l + 1
theorem lastHas_of : ∀ (l : List Pl) (k : Nat), k ≤ l.length → (∀ j (hj : j < l.length), k ≤ j → l[j].sl.has = false) → (∀ j (hj : j < l.length), k = j + 1 → l[j].sl.has = true) → lastHas l = k
  | [], k, h, _, _ => by simp at h; subst h; rfl
  | p :: l, k, h, h1, h2 => by
    match k with
    | 0 =>
      have e := lastHas_of l 0 (by simp) (fun j hj _ => h1 (j + 1) (by simpa using hj) (by omega)) (fun j _ e => by omega)
      have := h1 0 (by simp) (by omega)
      simp at this
      simp [lastHas, e, this]
    | k + 1 =>
      have e := lastHas_of l k (by simpa using h) (fun j hj hk => h1 (j + 1) (by simpa using hj) (by omega)) (fun j hj e => h2 (j + 1) (by simpa using hj) (by omega))
      by_cases hk : k = 0
      · subst hk
        have := h2 0 (by simp) rfl
        simp at this
        simp [lastHas, e, this]
      · simp [lastHas, e]; omega
def usedP (r : Rq) (p : Pl) : Bool := (p.sl.has && decide (r ∈ chosenS p.sl)) || (p.done && decide (r ∈ p.dw.rs))
def usedI (st : In) (r : Rq) : Bool := st.l.any (usedP r)

theorem idx_lt {seq : Int} {k : Nat} (h : idx seq = some k) : k < 16 ∧ seq = (k : Int) + 1 := by
  unfold idx at h
  split at h
  · simp only [Option.some.injEq] at h; omega
  · cases h
theorem idx_of {seq : Int} (h1 : 1 ≤ seq) (h2 : seq ≤ 16) : idx seq = some (seq.toNat - 1) := by unfold idx; rw [if_pos ⟨h1, h2⟩]
theorem idx_none {seq : Int} (h : idx seq = none) : seq < 1 ∨ 16 < seq := by
  unfold idx at h
  split at h
  · cases h
  · omega

/-! ### In memory -/

structure Ct where
  view : Int
  inst : Int
  seq : Int
  vb : Value
  vv : Value
  rs : List Rq
  vs : Vs
def Ct.cp (c : Ct) : Cp := ⟨c.view, c.inst, c.seq, c.rs, c.vs⟩
def ctCells (c : Ct) : List Value := [.int .i64 c.view, .int .i64 c.inst, .int .i64 c.seq, c.vb, c.vv]
abbrev ctAgg (c : Ct) : Value := .agg #[.int .i64 c.view, .int .i64 c.inst, .int .i64 c.seq, c.vb, c.vv]

structure Pm where
  lc : Loc
  sl : Sl
  told : Bool
  has : Bool
  ct : Ct
  done : Bool
  dw : Ct
def Pm.pl (p : Pm) : Pl := ⟨p.sl, p.told, p.has, p.ct.cp, p.done, p.dw.cp⟩
def pmCells (p : Pm) : List Value := [p.lc.ptr, .bool p.told, .bool p.has, .int .i64 p.ct.view, .int .i64 p.ct.inst, .int .i64 p.ct.seq, p.ct.vb, p.ct.vv, .bool p.done, .int .i64 p.dw.view, .int .i64 p.dw.inst, .int .i64 p.dw.seq, p.dw.vb, p.dw.vv]
theorem pmCells_len (p : Pm) : (pmCells p).length = 14 := rfl

structure Ins where
  i : Nat
  b : Nat
  cap : Nat
  f : Nat
  num : Int
  ahead : Int
  view : Int
  on : Bool
  l : List Pm
def Ins.st (x : Ins) : In := ⟨x.f, x.num, x.ahead, x.view, x.on, x.l.map Pm.pl⟩
abbrev Ins.ptr (x : Ins) : Value := .pointer (some ⟨x.i, 0, none⟩)
abbrev insO (f : Nat) (num ahead view : Int) (on : Bool) (v : Value) : Obj := .cells #[.int .i64 f, .int .i64 num, .int .i64 ahead, .int .i64 view, .bool on, v] 214 (0, 0)
abbrev Ins.o (x : Ins) : Obj := insO x.f x.num x.ahead x.view x.on (.slice (some ⟨x.b, 0, none⟩) 16 x.cap)

def VtsIn (w : World) (v : Value) (l : Vs) (D : List Nat) : Prop := ReadsIn w v 2 l.length (vsCells l) D
structure CtIn (w : World) (c : Ct) (D : List Nat) : Prop where
  b : BatIn w c.vb c.rs D
  bn : c.rs.length ≤ 100000
  v : VtsIn w c.vv c.vs D
  vn : c.vs.length ≤ 100000

theorem CtIn.dep {w w' : World} {c : Ct} {D : List Nat} (h : CtIn w c D) (hk : ∀ k ∈ D, w'.heap[k]? = w.heap[k]?) (hs : w.heap.size ≤ w'.heap.size) : CtIn w' c D := ⟨ReadsIn.dep h.b hk hs, h.bn, ReadsIn.dep h.v hk hs, h.vn⟩
theorem CtIn.mono {w : World} {c : Ct} {D D' : List Nat} (h : CtIn w c D) (hs : ∀ k ∈ D, k ∈ D') : CtIn w c D' := ⟨ReadsIn.mono h.b hs, h.bn, ReadsIn.mono h.v hs, h.vn⟩

structure InsOk (x : Ins) : Prop where
  n : x.l.length = 16
  f1 : 1 ≤ x.f
  f2 : x.f ≤ 4
  lf : ∀ p ∈ x.l, p.lc.f = x.f
  c1 : 16 ≤ x.cap
  a1 : 1 ≤ x.ahead
  a2 : x.ahead ≤ 16
  vw : 0 ≤ x.view ∧ x.view ≤ 12

/-- What an instance's certificates lead to; and its measures. -/
def certsR (x : Ins) : Res := imm (fun w D => InsOk x ∧ ∀ p ∈ x.l, CtIn w p.ct D ∧ CtIn w p.dw D) (fun h hk hs => ⟨h.1, fun p hp => ⟨(h.2 p hp).1.dep hk hs, (h.2 p hp).2.dep hk hs⟩⟩)
def pmR (p : Pm) : Res := slotR p.lc p.sl
def insHd (x : Ins) : List Res := [blk x.i x.o, segR x.b 241 (x.l.flatMap pmCells), certsR x]
def instR (x : Ins) : Res := joinR (insHd x ++ x.l.map pmR)

section
variable {B : Nat} {w0 W W' : World} {ss : List Res} {x : Ins}

/-- An instance that lies open. -/
abbrev OwnI (B : Nat) (w0 W : World) (x : Ins) (ss : List Res) : Prop := Own B w0 W (insHd x ++ (x.l.map pmR ++ ss))

theorem own_open (h : Own B w0 W (instR x :: ss)) : OwnI B w0 W x ss := by
  have := Own.open h
  rwa [List.append_assoc] at this
theorem own_shut (h : OwnI B w0 W x ss) : Own B w0 W (instR x :: ss) := by
  have h2 : Own B w0 W ((insHd x ++ x.l.map pmR) ++ ss) := by rwa [List.append_assoc]
  exact h2.shut

theorem oi_ok (h : OwnI B w0 W x ss) : InsOk x := by
  obtain ⟨D, ⟨⟨h1, _⟩, _⟩, _, _⟩ := (h.all (certsR x) (by simp [insHd])).1
  exact h1

theorem own_ok (h : Own B w0 W (instR x :: ss)) : InsOk x := oi_ok (own_open h)

theorem oi_blk (h : OwnI B w0 W x ss) : W.heap[x.i]? = some x.o := blk_out (h.all (blk x.i x.o) (by simp [insHd])).1
theorem oi_cells (h : OwnI B w0 W x ss) : W.cell? ⟨x.i, 0, none⟩ = some (.int .i64 x.f) ∧ W.cell? ⟨x.i, 1, none⟩ = some (.int .i64 x.num) ∧ W.cell? ⟨x.i, 2, none⟩ = some (.int .i64 x.ahead) ∧ W.cell? ⟨x.i, 3, none⟩ = some (.int .i64 x.view) ∧
    W.cell? ⟨x.i, 4, none⟩ = some (.bool x.on) ∧ W.cell? ⟨x.i, 5, none⟩ = some (.slice (some ⟨x.b, 0, none⟩) 16 x.cap) ∧ x.i < W.heap.size ∧ x.b < W.heap.size := by
  have hb := oi_blk h
  exact ⟨by rw [block_cell hb]; rfl, by rw [block_cell hb]; rfl, by rw [block_cell hb]; rfl, by rw [block_cell hb]; rfl, by rw [block_cell hb]; rfl, by rw [block_cell hb]; rfl, block_lt hb,
    (segR_at (h.all (segR x.b 241 (x.l.flatMap pmCells)) (by simp [insHd])).1).1⟩

theorem flat14 (l : List Pm) (k r : Nat) (hk : k < l.length) (hr : r < 14) : (l.flatMap pmCells)[k * 14 + r]? = (pmCells l[k])[r]? ∧ k * 14 + r < (l.flatMap pmCells).length := by
  have hl : (l.flatMap pmCells).length = l.length * 14 := flat_length (cells := pmCells) (sz := 14) (fun _ => rfl) l
  exact ⟨flat_get (cells := pmCells) (sz := 14) (fun _ => rfl) l k r l[k] (by simp) hr, by rw [hl]; omega⟩

theorem oi_at (h : OwnI B w0 W x ss) (k : Nat) (hk : k < x.l.length) (r : Nat) (hr : r < 14) : W.cell? ⟨x.b, k * 14 + r, none⟩ = (pmCells x.l[k])[r]? := by
  obtain ⟨-, h2, -⟩ := segR_at (h.all (segR x.b 241 (x.l.flatMap pmCells)) (by simp [insHd])).1
  obtain ⟨e1, e2⟩ := flat14 x.l k r hk hr
  rw [h2 _ e2, e1]

theorem oi_fz (h : OwnI B w0 W x ss) : (∀ o, W.frozen? ⟨x.b, o, none⟩ = false) ∧ ∀ o, W.frozen? ⟨x.i, o, none⟩ = false :=
  ⟨(segR_at (h.all (segR x.b 241 (x.l.flatMap pmCells)) (by simp [insHd])).1).2.2, fun o => block_frozen (oi_blk h) o⟩

/-- The k-th slot comes to the head. -/
theorem oi_pick (h : OwnI B w0 W x ss) (k : Nat) (hk : k < x.l.length) : Own B w0 W (pmR x.l[k] :: (insHd x ++ ((x.l.eraseIdx k).map pmR ++ ss))) := Own.pick h k hk

/-- The k-th slot is another one, or in another state. -/
theorem oi_unpick (k : Nat) (hk : k < x.l.length) (p : Pm) (h : Own B w0 W (pmR p :: (insHd x ++ ((x.l.eraseIdx k).map pmR ++ ss)))) (hc : pmCells p = pmCells x.l[k]) (hct : p.ct = x.l[k].ct ∧ p.dw = x.l[k].dw) (hf : p.lc.f = x.l[k].lc.f) :
    OwnI B w0 W { x with l := x.l.set k p } ss := by
  have h1 := Own.unpick (f := pmR) (x := p) k hk h
  have hcells : (x.l.set k p).flatMap pmCells = x.l.flatMap pmCells := by
    apply List.ext_getElem?
    intro j
    have hl : (x.l.flatMap pmCells).length = x.l.length * 14 := flat_length (cells := pmCells) (sz := 14) (fun _ => rfl) x.l
    have hl' : ((x.l.set k p).flatMap pmCells).length = x.l.length * 14 := by rw [flat_length (cells := pmCells) (sz := 14) (fun _ => rfl)]; simp
    by_cases hj : j < x.l.length * 14
    · have h0 : j / 14 < x.l.length := by omega
      have e1 := (flat14 x.l (j / 14) (j % 14) h0 (by omega)).1
      have e2 := (flat14 (x.l.set k p) (j / 14) (j % 14) (by simpa using h0) (by omega)).1
      rw [show j / 14 * 14 + j % 14 = j by omega] at e1 e2
      rw [e1, e2]
      by_cases hjk : k = j / 14
      · subst hjk
        rw [List.getElem_set_self, hc]
      · rw [List.getElem_set_ne hjk]
    · rw [List.getElem?_eq_none (by omega), List.getElem?_eq_none (by omega)]
  have hcr : Own B w0 W (insHd { x with l := x.l.set k p } ++ ((x.l.set k p).map pmR ++ ss)) := by
    have h2 : Own B w0 W (certsR x :: blk x.i x.o :: segR x.b 241 (x.l.flatMap pmCells) :: ((x.l.set k p).map pmR ++ ss)) := h1.perm (List.perm_middle (l₁ := [_, _]))
    have h3 := h2.alter (r' := certsR { x with l := x.l.set k p }) (by
      obtain ⟨D, ⟨⟨q1, q2⟩, q3⟩, q4, q5⟩ := h2.head
      refine ⟨D, ⟨⟨⟨by simpa using q1.n, q1.f1, q1.f2, fun p' hp' => ?_, q1.c1, q1.a1, q1.a2, q1.vw⟩, fun p' hp' => ?_⟩, q3⟩, q4, q5⟩
      · rcases List.mem_or_eq_of_mem_set hp' with hp' | rfl
        · exact q1.lf p' hp'
        · rw [hf]; exact q1.lf _ (by simp)
      · rcases List.mem_or_eq_of_mem_set hp' with hp' | rfl
        · exact q2 p' hp'
        · rw [hct.1, hct.2]; exact q2 _ (by simp)) (by simp [certsR, imm])
    have h4 : Own B w0 W ([blk x.i x.o, segR x.b 241 (x.l.flatMap pmCells), certsR { x with l := x.l.set k p }] ++ ((x.l.set k p).map pmR ++ ss)) := h3.perm (List.perm_middle (l₁ := [_, _])).symm
    unfold insHd
    rw [hcells]
    exact h4
  exact hcr

end
end Go.Proofs.YtannckelmojkoaaGreat

/- inst: at, Done, View, Installed. -/
namespace Go.Proofs.YtannckelmojkoaaGreat
open Go.RowKit Go.Heap

set_option maxHeartbeats 400000 in
theorem at_no (i b cap : Nat) (seq : Int) (w : World) (h : seq < 1 ∨ 16 < seq) (h5 : w.cell? ⟨i, 5, none⟩ = some (.slice (some ⟨b, 0, none⟩) 16 cap)) :
    Calls Tryz.prog 195 #[.pointer (some ⟨i, 0, none⟩), .int .i64 seq] w fun e w' => e = .returned (.pointer none) ∧ w = w' := by
  by_cases h1 : seq < 1
  · have hb : decide (seq < 1) = true := by simp; omega
    go_enter Tryz.func195, Tryz.ntmps195
    go_wp2_with fail
    go_ret
    exact ⟨rfl, rfl⟩
  · have hb : decide (seq < 1) = false := by simp; omega
    have h2 : 16 < seq := by omega
    go_enter Tryz.func195, Tryz.ntmps195
    go_wp2_with fail
    go_ret
    exact ⟨rfl, rfl⟩

set_option maxHeartbeats 400000 in
theorem at_yes (i b cap : Nat) (seq : Int) (w : World) (h1 : 1 ≤ seq) (h2 : seq ≤ 16) (h5 : w.cell? ⟨i, 5, none⟩ = some (.slice (some ⟨b, 0, none⟩) 16 cap)) :
    Calls Tryz.prog 195 #[.pointer (some ⟨i, 0, none⟩), .int .i64 seq] w fun e w' => e = .returned (.pointer (some ⟨b, (seq.toNat - 1) * 14, none⟩)) ∧ w = w' := by
  have hb : decide (seq < 1) = false := by simp; omega
  have hb2 : decide (16 < seq) = false := by simp; omega
  go_enter Tryz.func195, Tryz.ntmps195
  go_wp2_with fail
  go_ret
  exact ⟨rfl, rfl⟩

theorem take_while (l : List Pl) (n : Nat) (h : ∀ j (hj : j < l.length), j < n → l[j].done = true) (hn : n ≤ l.length) (he : ∀ (hj : n < l.length), l[n].done = false) : (l.takeWhile (·.done)).length = n := by
  induction l generalizing n with
  | nil => simp at hn; simp [hn]
  | cons p l ih =>
    match n with
    | 0 =>
      have := he (by simp)
      simp at this
      simp [List.takeWhile, this]
    | n + 1 =>
      have hp := h 0 (by simp) (by omega)
      simp at hp
      rw [List.takeWhile_cons, if_pos hp, List.length_cons, ih n (fun j hj hjn => by have := h (j + 1) (by simp; omega) (by omega); simpa using this) (by simpa using hn) (fun hj => by have := he (by simp; omega); simpa using this)]

section
variable {B : Nat} {w0 W W' : World} {ss : List Res} {x : Ins}

theorem oi_drew (h : OwnI B w0 W x ss) : OwnI B w0 W.drew x ss := Own.drew h

theorem oi_done (h : OwnI B w0 W x ss) (k : Nat) (hk : k < x.l.length) : W.cell? ⟨x.b, k * 14 + 8, none⟩ = some (.bool x.l[k].done) := oi_at h k hk 8 (by omega)
theorem oi_told (h : OwnI B w0 W x ss) (k : Nat) (hk : k < x.l.length) : W.cell? ⟨x.b, k * 14 + 1, none⟩ = some (.bool x.l[k].told) := oi_at h k hk 1 (by omega)
theorem oi_has (h : OwnI B w0 W x ss) (k : Nat) (hk : k < x.l.length) : W.cell? ⟨x.b, k * 14 + 2, none⟩ = some (.bool x.l[k].has) := oi_at h k hk 2 (by omega)
theorem oi_ptr (h : OwnI B w0 W x ss) (k : Nat) (hk : k < x.l.length) : W.cell? ⟨x.b, k * 14, none⟩ = some x.l[k].lc.ptr := oi_at h k hk 0 (by omega)

def DoneP (w : World) (n : Nat) (e : Ending) (w' : World) : Prop := e = .returned (.int .i64 n) ∧ w = w'

set_option maxHeartbeats 400000 in
theorem done_open (h : OwnI B w0 W x ss) : Calls Tryz.prog 156 #[x.ptr] W (DoneP W (doneI x.st)) := by
  obtain ⟨c0, c1, c2, c3, c4, c5, l1, l2⟩ := oi_cells h
  have hn := (oi_ok h).n
  have HN := Lib.hid hn
  have HD := Lib.hid (fun n h1 h2 h3 => take_while (x.l.map Pm.pl) n h1 h2 h3)
  have H := Lib.hid h
  clear h c0 c1 c2 c3 c4 hn
  go_enter Tryz.func156, Tryz.ntmps156
  go_wp2_with fail
  go_loop [3] (fun n => ∃ k : Nat, k ≤ 16 ∧ n = .int .i64 k ∧ Hid (∀ j (hj : j < x.l.length), j < k → x.l[j].done = true)) (fun n => 16 - (intOf n).toNat)
  case atStart => exact ⟨0, by omega, rfl, Lib.hid (by intro j _ hj; omega)⟩
  case round =>
    obtain ⟨k, hk, rfl, HA⟩ := hrel
    by_cases hlt : k < 16
    · have hkI : (k : Int) < 16 := by omega
      have hkl : k < x.l.length := by rw [HN.out]; exact hlt
      have cd := oi_done H.out k hkl
      cases hd : x.l[k].done
      · rw [hd] at cd
        have HDK := Lib.hid hd
        clear hd
        go_wp2_with fail
        go_ret
        refine ⟨ret_int ?_, rfl⟩
        rw [show doneI x.st = k from HD.out k (fun j hj hjk => by simpa [Pm.pl] using HA.out j (by simpa using hj) hjk) (by simp; omega) (fun hj => by simpa [Pm.pl] using HDK.out)]
      · rw [hd] at cd
        have HDK := Lib.hid hd
        clear hd
        go_wp2_with fail
        go_round
        case rel =>
          refine ⟨k + 1, by omega, by go_num, Lib.hid (fun j hj hjk => ?_)⟩
          by_cases e : j = k
          · subst e; exact HDK.out
          · exact HA.out j hj (by omega)
        case measure => simp [intOf]; omega
    · have hk16 : k = 16 := by omega
      subst hk16
      go_wp2_with fail
      go_ret
      refine ⟨ret_int ?_, rfl⟩
      rw [show doneI x.st = 16 from HD.out 16 (fun j hj hjk => by simpa [Pm.pl] using HA.out j (by simpa using hj) hjk) (by simp [HN.out]) (fun hj => by simp [HN.out] at hj)]
      rfl

theorem ins_done (h : Own B w0 W (instR x :: ss)) {i : Nat} (hi : x.i = i) : Calls Tryz.prog 156 #[.pointer (some ⟨i, 0, none⟩)] W (DoneP W (doneI x.st)) := by
  subst hi; exact done_open (own_open h)

set_option maxHeartbeats 400000 in
theorem ins_installed (h : Own B w0 W (instR x :: ss)) {i : Nat} (hi : x.i = i) : Calls Tryz.prog 73 #[.pointer (some ⟨i, 0, none⟩)] W fun e w' => e = .returned (.bool x.on) ∧ W = w' := by
  subst hi
  obtain ⟨c0, c1, c2, c3, c4, c5, l1, l2⟩ := oi_cells (own_open h)
  clear h c0 c1 c2 c3 c5
  go_enter Tryz.func73, Tryz.ntmps73
  go_wp2_with fail
  go_ret
  exact ⟨rfl, rfl⟩

end
end Go.Proofs.YtannckelmojkoaaGreat

/- inst: Chosen, Vote, Pre. -/
namespace Go.Proofs.YtannckelmojkoaaGreat
open Go.RowKit Go.Heap

section
variable {B : Nat} {w0 W W' : World} {ss : List Res} {x : Ins}

theorem plAt_some {seq : Int} {k : Nat} (h : InsOk x) (hk : idx seq = some k) : ∃ hk' : k < x.l.length, plAt x.st seq = some x.l[k].pl := by
  have hk' : k < x.l.length := by rw [h.n]; exact (idx_lt hk).1
  exact ⟨hk', by simp [plAt, hk, Ins.st, hk']⟩
theorem plAt_none {seq : Int} {st : In} (hk : idx seq = none) : plAt st seq = none := by simp [plAt, hk]

abbrev Ins.sl (x : Ins) (k : Nat) (p : Pm) : Ins := { x with l := x.l.set k p }
theorem st_set (x : Ins) (k : Nat) (hk : k < x.l.length) (p : Pm) (g : Pl → Pl) (hp : p.pl = g x.l[k].pl) : (x.sl k p).st = x.st.upd k g := by
  simp only [Ins.st, In.upd, In.mk.injEq, true_and]
  apply List.ext_getElem?
  intro j
  rw [List.map_set, List.getElem?_modify, List.getElem?_set]
  by_cases e : k = j
  · subst e
    simp [hk, hp]
  · simp [e]

def ChosenP (W : World) (r : List Rq × Bool) (e : Ending) (w' : World) : Prop := ∃ u, e = .returned (.tuple #[u, .bool r.2]) ∧ Upd [] W w' ∧ Bat w' u r.1 ∧ ∀ k ∈ blkOf u, W.heap.size ≤ k

set_option maxHeartbeats 400000 in
theorem ins_chosen (h : Own B w0 W (instR x :: ss)) {i : Nat} (hi : x.i = i) (seq : Int) : Calls Tryz.prog 220 #[.pointer (some ⟨i, 0, none⟩), .int .i64 seq] W (ChosenP W (chosenI x.st seq)) := by
  subst hi
  have ho := own_open h
  obtain ⟨-, -, -, -, -, c5, l1, l2⟩ := oi_cells ho
  cases hk : idx seq with
  | none =>
    have hs := idx_none hk
    have HE := Lib.hid (show chosenI x.st seq = ([], false) by simp [chosenI, plAt_none hk])
    have HA := Lib.hid (at_no x.i x.b x.cap seq W hs c5)
    clear ho h hk hs c5
    go_enter Tryz.func220, Tryz.ntmps220
    go_wp2_with fail
    refine HA.out.mono ?_
    rintro e w' ⟨rfl, rfl⟩
    go_wp2_with fail
    go_ret2
    rw [HE.out]
    exact ⟨.slice none 0 0, rfl, Upd.refl _ _, Reads.nil _ _, by simp [blkOf]⟩
  | some k =>
    obtain ⟨hl, hp⟩ := plAt_some (oi_ok ho) hk
    have HE := Lib.hid (show chosenI x.st seq = (chosenS x.l[k].sl, x.l[k].sl.has) by simp [chosenI, hp, Pm.pl])
    obtain ⟨i1, i2⟩ := idx_lt hk
    have HA := Lib.hid (at_yes x.i x.b x.cap seq W (by omega) (by omega) c5)
    have hks : seq.toNat - 1 = k := by omega
    rw [hks] at HA
    have cp := oi_ptr ho k hl
    have HC := Lib.hid (own_chosen (oi_pick ho k hl))
    clear ho h hk c5 hp i2 hks
    go_enter Tryz.func220, Tryz.ntmps220
    go_wp2_with fail
    refine HA.out.mono ?_
    rintro e w' ⟨rfl, rfl⟩
    go_wp2_with fail
    refine HC.out.mono ?_
    rintro e w' ⟨u, rfl, hu, hb, hn⟩
    have HU := Lib.hid hu
    have HB := Lib.hid hb
    have HN := Lib.hid hn
    clear hu hb hn
    go_wp2_with fail
    go_ret2
    rw [HE.out]
    exact ⟨u, rfl, HU.out, HB.out, HN.out⟩

/-- What a call leaves: an instance that is so. -/
def InsP (B : Nat) (w0 _W : World) (i : Nat) (st : In) (ss : List Res) (r : Value) (e : Ending) (w' : World) : Prop := e = .returned r ∧ ∃ x' : Ins, x'.i = i ∧ x'.st = st ∧ Own B w0 w' (instR x' :: ss)

theorem insP_same (h : Own B w0 W (instR x :: ss)) {st : In} (hst : st = x.st) {r : Value} : InsP B w0 W x.i st ss r (.returned r) W := ⟨rfl, x, rfl, hst.symm, h⟩

theorem vote_off {seq : Int} {st : In} (hk : idx seq = none) (kind node sl : Int) (l : List Rq) : voteB st kind seq node = false ∧ voteI st kind seq node sl l = st := by
  simp [voteB, voteI, plAt_none hk, hk]

set_option maxHeartbeats 400000 in
theorem ins_vote (h : Own B w0 W (instR x :: ss)) {i : Nat} (hi : x.i = i) (kind seq node sl : Int) (v : Value) (l : List Rq) (hb : Bat W v l) (hn : l.length ≤ 100000) :
    Calls Tryz.prog 236 #[.pointer (some ⟨i, 0, none⟩), .int .i64 kind, .int .i64 seq, .int .i64 node, .int .i64 sl, v] W (InsP B w0 W i (voteI x.st kind seq node sl l) ss (.bool (voteB x.st kind seq node))) := by
  subst hi
  have ho := own_open h
  obtain ⟨-, -, -, -, c4, c5, l1, l2⟩ := oi_cells ho
  cases hk : idx seq with
  | none =>
    have hs := idx_none hk
    have HE := Lib.hid (vote_off (st := x.st) hk kind node sl l)
    have HA := Lib.hid (at_no x.i x.b x.cap seq W hs c5)
    have H := Lib.hid h
    clear ho h hk hs c4 c5 hb
    go_enter Tryz.func236, Tryz.ntmps236
    go_wp2_with fail
    refine HA.out.mono ?_
    rintro e w' ⟨rfl, rfl⟩
    go_wp2_with fail
    go_ret
    rw [HE.out.1]
    exact insP_same H.out HE.out.2
  | some k =>
    obtain ⟨hl, hp⟩ := plAt_some (oi_ok ho) hk
    obtain ⟨i1, i2⟩ := idx_lt hk
    have HA := Lib.hid (at_yes x.i x.b x.cap seq W (by omega) (by omega) c5)
    have hks : seq.toNat - 1 = k := by omega
    rw [hks] at HA
    have cp := oi_ptr ho k hl
    by_cases hon : x.on = true
    · rw [hon] at c4
      have HB := Lib.hid (show voteB x.st kind seq node = canVote x.l[k].sl kind node by simp only [voteB, hp, Pm.pl]; simp [Ins.st, hon])
      have HI := Lib.hid (show voteI x.st kind seq node sl l = x.st.upd k fun p => { p with sl := voteS p.sl kind node sl l } by simp only [voteI, hk]; simp [Ins.st, hon])
      have HC := Lib.hid (own_vote (oi_pick ho k hl) kind node sl v l hb hn)
      clear ho h hk c5 hp i2 hks hon hb
      go_enter Tryz.func236, Tryz.ntmps236
      go_wp2_with fail
      refine HA.out.mono ?_
      rintro e w' ⟨rfl, rfl⟩
      go_wp2_with fail
      refine HC.out.mono ?_
      rintro e w' ⟨rfl, -, h2⟩
      have H2 := Lib.hid h2
      clear h2
      go_wp2_with fail
      go_ret
      rw [HB.out, HI.out]
      exact ⟨rfl, x.sl k { x.l[k] with sl := voteS x.l[k].sl kind node sl l }, rfl, st_set x k hl _ _ rfl, own_shut (oi_unpick k hl _ H2.out rfl ⟨rfl, rfl⟩ rfl)⟩
    · have hon' : x.on = false := by simpa using hon
      rw [hon'] at c4
      have HB := Lib.hid (show voteB x.st kind seq node = false by simp only [voteB, hp]; simp [Ins.st, hon'])
      have HI := Lib.hid (show voteI x.st kind seq node sl l = x.st by simp only [voteI, hk]; simp [Ins.st, hon'])
      have H := Lib.hid h
      clear ho h hk c5 hp i2 hks hon hb hon'
      go_enter Tryz.func236, Tryz.ntmps236
      go_wp2_with fail
      refine HA.out.mono ?_
      rintro e w' ⟨rfl, rfl⟩
      go_wp2_with fail
      go_ret
      rw [HB.out]
      exact insP_same H.out HI.out

end
end Go.Proofs.YtannckelmojkoaaGreat
