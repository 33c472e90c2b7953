/- slot.Clone. -/
import Derived.Test.YtdeadekeffficaaSlot4
import Derived.Deep.RegionHeld3
namespace Go.Proofs.Ytdeadekeffficaa
open Go.RowKit Go.Heap

/-- What Clone leaves: a new block t, and the two lists of votes in new blocks. -/
def ClonePost (w : World) (ap ac : List Value) (f : Nat) (hh : Bool) (v : Value) (e : Ending) (w' : World) : Prop :=
  ∃ t gp gc cp cq, e = .returned (.pointer (some ⟨t, 0, none⟩)) ∧ Below w.heap.size w w' ∧ w.heap.size ≤ gp ∧ gp < gc ∧ gc < t ∧
    w'.heap[t]? = some (.cells #[.int .i64 f, .bool hh, v, .slice (some ⟨gp, 0, none⟩) (3 * f + 1) cp, .slice (some ⟨gc, 0, none⟩) (3 * f + 1) cq] 105 (0, 0)) ∧
    w'.ownsRow w.heap.size 109 3 (.slice (some ⟨gp, 0, none⟩) (3 * f + 1) cp) (3 * f + 1) ap ∧ w'.ownsRow w.heap.size 109 3 (.slice (some ⟨gc, 0, none⟩) (3 * f + 1) cq) (3 * f + 1) ac

set_option maxHeartbeats 3200000 in
set_option maxRecDepth 100000 in
theorem clone_walk {w : World} {s bp bc f : Nat} (hf : f ≤ 4) (hh : Bool) (v : Value) (ao : Option Addr) (n cap : Nat) (hv : v = .slice ao n cap) (ap ac : List Value) (cp cq : Nat) (h1 : ap.length = (3 * f + 1) * 3) (h2 : ac.length = (3 * f + 1) * 3)
    (hs : w.heap[s]? = some (.cells #[.int .i64 f, .bool hh, v, .slice (some ⟨bp, 0, none⟩) (3 * f + 1) cp, .slice (some ⟨bc, 0, none⟩) (3 * f + 1) cq] 105 (0, 0)))
    (_lp : bp < w.heap.size) (lc : bc < w.heap.size) (hp : ∀ W : World, W.heap[bp]? = w.heap[bp]? → ∀ j u, ap[j]? = some u → W.cell? ((⟨bp, 0, none⟩ : Addr).add j) = some u) (hc : ∀ W : World, W.heap[bc]? = w.heap[bc]? → ∀ j u, ac[j]? = some u → W.cell? ((⟨bc, 0, none⟩ : Addr).add j) = some u) (o1 : ∀ u ∈ ap, u.oneCell' = true) (o2 : ∀ u ∈ ac, u.oneCell' = true) :
    Calls Try.prog 31 #[.pointer (some ⟨s, 0, none⟩)] w (ClonePost w ap ac f hh v) := by
  obtain ⟨i0, hi, hz0, hz1, hz2⟩ := info_parts Try.infoSv
  subst hv
  have c0 : w.cell? ⟨s, 0, none⟩ = some (.int .i64 f) := by rw [block_cell hs]; rfl
  have c1 : w.cell? ⟨s, 1, none⟩ = some (.bool hh) := by rw [block_cell hs]; rfl
  have c2 : w.cell? ⟨s, 2, none⟩ = some (.slice ao n cap) := by rw [block_cell hs]; rfl
  have c3 : w.cell? ⟨s, 3, none⟩ = some (.slice (some ⟨bp, 0, none⟩) (3 * f + 1) cp) := by rw [block_cell hs]; rfl
  have c4 : w.cell? ⟨s, 4, none⟩ = some (.slice (some ⟨bc, 0, none⟩) (3 * f + 1) cq) := by rw [block_cell hs]; rfl
  have ls := block_lt hs
  have HP := Lib.hid hp
  have HC := Lib.hid hc
  clear hp hc
  have O1 := Lib.hid o1
  have O2 := Lib.hid o2
  have HS := Lib.hid hs
  clear hs o1 o2
  have L1 := Lib.hid h1
  have L2 := Lib.hid h2
  clear h1 h2
  go_enter Try.func31, Try.ntmps31
  go_wp2_with fail
  go_region_held3? (fun w' => w'.cell? ⟨s, 0, none⟩ = some (.int .i64 f) ∧ w'.cell? ⟨s, 1, none⟩ = some (.bool hh) ∧ w'.cell? ⟨s, 2, none⟩ = some (.slice ao n cap) ∧
      w'.cell? ⟨s, 3, none⟩ = some (.slice (some ⟨bp, 0, none⟩) (3 * f + 1) cp) ∧ w'.cell? ⟨s, 4, none⟩ = some (.slice (some ⟨bc, 0, none⟩) (3 * f + 1) cq))
    (first
      | go_keep
      | (go_split_ands
         have hz1 := hgrow.size
         simp only [hs_drew] at hz1
         refine ⟨?_, ?_, ?_, ?_, ?_⟩ <;> (rw [hgrow2.cell_far _ (by show s < w1.heap.size; omega) (by simp [Value.ownBlock])]; assumption))
      | (go_split_ands
         refine ⟨?_, ?_, ?_, ?_, ?_⟩ <;> (rw [hgrow.cell_far _ (by simp; omega) (by simp [Value.ownBlock])]; assumption)))
    (first
      | (refine step_append_lies _ (by rfl) (.const (.slice none 0 0)) (.tmp 18) _ (by rfl) w.heap.size 109 i0 (.agg #[.bool false, .int .i64 0, .slice none 0 0]) 3 40 Try.underlying103 hi hz0 hz1 hz2 rfl (by omega) _ 0 [] (by rfl) (World.ownsRow_nil _ _ _ _) ⟨bp, 0, none⟩ (3 * f + 1) cp ap (by rfl) L1.out (HP.out _ rfl) O1.out (by omega) (by unfold maxLen; omega) (by omega) (by simp) w.heap.size (by simp) ?_; intro g1 cap1 w1 hown1 hgrow hat hlt)
      | (refine step_append_lies _ (by rfl) (.const (.slice none 0 0)) (.tmp 23) _ (by rfl) w.heap.size 109 i0 (.agg #[.bool false, .int .i64 0, .slice none 0 0]) 3 40 Try.underlying103 hi hz0 hz1 hz2 rfl (by omega) _ 0 [] (by rfl) (World.ownsRow_nil _ _ _ _) ⟨bc, 0, none⟩ (3 * f + 1) cq ac (by rfl) L2.out (HC.out _ (hgrow.block bc (by simp; omega) (by simp [Value.ownBlock]))) O2.out (by omega) (by unfold maxLen; omega) (by omega) (by have := hgrow.size; simp at this; omega) w1.heap.size rfl ?_; intro g2 cap2 w2 hown2 hgrow2 hat2 hlt2))
  have E1 := Lib.hid hown1
  have E2 := Lib.hid hown2
  clear hown1 hown2
  go_wp2
  go_ret
  have hg1 : g1 = w.heap.size := by
    rcases hat with h | h
    · cases h
    · exact h
  have hg2 : g2 = w1.heap.size := by
    rcases hat2 with h | h
    · cases h
    · exact h
  refine ⟨w2.heap.size, g1, g2, cap1, cap2, rfl, ?_, by omega, ?_, ?_, ?_, ?_, ?_⟩
  · have a1 : Below w.heap.size w w1 := ((Below.refl _ _).drew).grown hgrow (Nat.le_refl _) (by intro k hk; cases hk)
    exact (a1.grown hgrow2 a1.size (by intro k hk; cases hk)).alloc (Nat.le_trans a1.size hgrow2.size) _
  · rw [hg2, hg1]; have := hgrow.size; simp only [hs_drew] at this; omega
  · exact hlt2
  · exact heap_alloc_new w2 _
  · have a1 : Upd [] w1 w2 := (Upd.refl _ _).grown hgrow2 (by intro k hk; cases hk)
    have := (owns_upd E1.out a1 (by simp)).alloc (.cells #[.int .i64 f, .bool hh, .slice ao n cap, .slice (some ⟨g1, 0, none⟩) (3 * f + 1) cap1, .slice (some ⟨g2, 0, none⟩) (3 * f + 1) cap2] 105)
    simpa using this
  · have := E2.out.alloc (.cells #[.int .i64 f, .bool hh, .slice ao n cap, .slice (some ⟨g1, 0, none⟩) (3 * f + 1) cap1, .slice (some ⟨g2, 0, none⟩) (3 * f + 1) cap2] 105)
    simpa using this

theorem idx3 (j : Nat) : ∃ i r, r < 3 ∧ j = i * 3 + r := ⟨j / 3, j % 3, Nat.mod_lt _ (by omega), by omega⟩

/-- The cells of a list of votes, as a list. -/
theorem votes_list {w : World} {b : Nat} {vs : List Vt} {D : List Nat} (h : VotesAt w b vs D) :
    ∃ xs : List Value, xs.length = vs.length * 3 ∧ b < w.heap.size ∧ (∀ u ∈ xs, u.oneCell' = true) ∧ (∀ W : World, W.heap[b]? = w.heap[b]? → ∀ j u, xs[j]? = some u → W.cell? ((⟨b, 0, none⟩ : Addr).add j) = some u) ∧
      ∀ i t, vs[i]? = some t → ∃ v, xs[i * 3]? = some (.bool t.has) ∧ xs[i * 3 + 1]? = some (.int .i64 t.sl) ∧ xs[i * 3 + 2]? = some v ∧ Bat w v t.batch ∧ ∀ k ∈ blkOf v, k ∈ D := by
  obtain ⟨arr, a1, a2, a3⟩ := h
  have hget : ∀ j, j < vs.length * 3 → (arr.toList.take (vs.length * 3))[j]? = arr[j]? := by
    intro j hj
    rw [List.getElem?_take, if_pos hj, Array.getElem?_toList]
  have hfa : ∀ i t, vs[i]? = some t → ∃ v, (arr.toList.take (vs.length * 3))[i * 3]? = some (.bool t.has) ∧ (arr.toList.take (vs.length * 3))[i * 3 + 1]? = some (.int .i64 t.sl) ∧ (arr.toList.take (vs.length * 3))[i * 3 + 2]? = some v ∧ Bat w v t.batch ∧ ∀ k ∈ blkOf v, k ∈ D := by
    intro i t hi
    have hil := (List.getElem?_eq_some_iff.1 hi).1
    obtain ⟨v, c1, c2, c3, c4, c5⟩ := a3 i t hi
    exact ⟨v, by rw [hget _ (by omega)]; exact c1, by rw [hget _ (by omega)]; exact c2, by rw [hget _ (by omega)]; exact c3, c4, c5⟩
  refine ⟨arr.toList.take (vs.length * 3), by simp; omega, block_lt a1, ?_, ?_, hfa⟩
  · intro u hu
    obtain ⟨j, hj⟩ := List.getElem?_of_mem hu
    have hjl : j < vs.length * 3 := by
      have := (List.getElem?_eq_some_iff.1 hj).1
      rw [List.length_take] at this
      omega
    obtain ⟨i, r, hr, rfl⟩ := idx3 j
    have hil : i < vs.length := by omega
    obtain ⟨v, c1, c2, c3, c4, _⟩ := hfa i vs[i] (by simp [hil])
    match r, hr with
    | 0, _ => rw [Nat.add_zero, c1] at hj; cases hj; rfl
    | 1, _ => rw [c2] at hj; cases hj; rfl
    | 2, _ =>
      rw [c3] at hj
      cases hj
      obtain ⟨ao, cap, rfl⟩ := bat_form c4
      rfl
  · intro W hW j u hj
    have hjl : j < vs.length * 3 := by
      have := (List.getElem?_eq_some_iff.1 hj).1
      rw [List.length_take] at this
      omega
    rw [addr_add, Nat.zero_add, block_cell (hW.trans a1), ← hget j hjl]
    exact hj

theorem votes_of_own {w w' : World} {B g n cap : Nat} {xs : List Value} {vs : List Vt} {D : List Nat} (hn : vs.length = n) (h : w'.ownsRow B 109 3 (.slice (some ⟨g, 0, none⟩) n cap) n xs) (hu : Upd [] w w')
    (hf : ∀ i t, vs[i]? = some t → ∃ v, xs[i * 3]? = some (.bool t.has) ∧ xs[i * 3 + 1]? = some (.int .i64 t.sl) ∧ xs[i * 3 + 2]? = some v ∧ Bat w v t.batch ∧ ∀ k ∈ blkOf v, k ∈ D) : VotesAt w' g vs D := by
  rcases h.2 with ⟨h', _⟩ | ⟨g', cap', cur, h', hb, hg, hnc, hcm, hcs, htake⟩
  · simp at h'
  · simp only [Value.slice.injEq, Option.some.injEq, Addr.mk.injEq, and_true, true_and] at h'
    obtain ⟨rfl, rfl⟩ := h'
    refine ⟨cur, hg, by rw [hcs, hn]; exact Nat.mul_le_mul_right _ hnc, fun i t hi => ?_⟩
    have hil := (List.getElem?_eq_some_iff.1 hi).1
    obtain ⟨v, c1, c2, c3, c4, c5⟩ := hf i t hi
    have hget : ∀ j, j < n * 3 → cur[j]? = xs[j]? := by
      intro j hj
      rw [← htake, List.getElem?_take, if_pos hj, Array.getElem?_toList]
    exact ⟨v, by rw [hget _ (by omega)]; exact c1, by rw [hget _ (by omega)]; exact c2, by rw [hget _ (by omega)]; exact c3, c4.upd hu (by simp), c5⟩

theorem slot_clone {w : World} {s bp bc cp cq f : Nat} {st : Sl} {D : List Nat} (h : SlotAt w s bp bc cp cq f st D) :
    Calls Try.prog 31 #[.pointer (some ⟨s, 0, none⟩)] w fun e w' => ∃ t bp' bc' cp' cq', e = .returned (.pointer (some ⟨t, 0, none⟩)) ∧ Below w.heap.size w w' ∧ w.heap.size ≤ t ∧ w.heap.size ≤ bp' ∧ w.heap.size ≤ bc' ∧ SlotAt w' t bp' bc' cp' cq' f st D := by
  obtain ⟨v, o1, o2, o3⟩ := h.own
  obtain ⟨ao, cap, hv⟩ := bat_form o2
  obtain ⟨xp, p1, p2, p3, p4, p5⟩ := votes_list h.ps
  obtain ⟨xc, c1, c2, c3, c4, c5⟩ := votes_list h.cs
  refine (clone_walk h.f2 st.has v ao st.batch.length cap hv xp xc cp cq (by rw [p1, h.pl]) (by rw [c1, h.cl]) o1 p2 c2 p4 c4 p3 c3).mono ?_
  rintro e w' ⟨t, gp, gc, cp', cq', he, hb, g1, g2, g3, ht, op, oc⟩
  have hu : Upd [] w w' := Upd.of_below hb
  have hlt : ∀ k ∈ D, k < w.heap.size := h.Dw
  refine ⟨t, gp, gc, cp', cq', he, hb, by omega, g1, by omega, ?_⟩
  exact {
    f1 := h.f1, f2 := h.f2
    own := ⟨v, ht, o2.upd hu (by simp), o3⟩
    ps := votes_of_own h.pl op hu p5
    cs := votes_of_own h.cl oc hu c5
    pl := h.pl, cl := h.cl
    sp := by omega, sc := by omega, pc := by omega
    Ds := fun hk => by have := hlt _ hk; omega
    Dp := fun hk => by have := hlt _ hk; omega
    Dc := fun hk => by have := hlt _ hk; omega
    Dw := fun k hk => Nat.lt_of_lt_of_le (hlt k hk) hb.size
    small := h.small }

end Go.Proofs.Ytdeadekeffficaa
