/- The slot's contracts, its blocks behind one name. -/
import Derived.Test.YtdeadekeffficaaSlot5
namespace Go.Proofs.Ytdeadekeffficaa
open Go.RowKit Go.Heap

structure Loc where
  s : Nat
  bp : Nat
  bc : Nat
  cp : Nat
  cq : Nat
  f : Nat

def Loc.M (L : Loc) : List Nat := [L.s, L.bp, L.bc]
abbrev Loc.ptr (L : Loc) : Value := .pointer (some ⟨L.s, 0, none⟩)

/-- The slot at L is st; its batches keep out of the blocks A. -/
def On (w : World) (L : Loc) (st : Sl) (A : List Nat) : Prop :=
  ∃ D, SlotAt w L.s L.bp L.bc L.cp L.cq L.f st D ∧ (∀ k ∈ D, k ∉ A) ∧ ∀ k ∈ A, k < w.heap.size

theorem On.upd {w w' : World} {L : Loc} {st : Sl} {A N : List Nat} (h : On w L st A) (hu : Upd N w w') (hN : ∀ k ∈ N, k ∉ L.M ∧ k ∈ A) : On w' L st A := by
  obtain ⟨D, h1, h2, h3⟩ := h
  have hm : ∀ k, k ∈ L.M → k ∉ N := fun k hk hn => (hN k hn).1 hk
  refine ⟨D, h1.upd hu (hm _ (by simp [Loc.M])) (hm _ (by simp [Loc.M])) (hm _ (by simp [Loc.M])) (fun k hk hn => h2 k hk (hN k hn).2), h2, fun k hk => Nat.lt_of_lt_of_le (h3 k hk) hu.size⟩

theorem On.upd0 {w w' : World} {L : Loc} {st : Sl} {A : List Nat} (h : On w L st A) (hu : Upd [] w w') : On w' L st A := h.upd hu (by simp)
theorem On.below {w w' : World} {L : Loc} {st : Sl} {A : List Nat} (h : On w L st A) (hb : Below w.heap.size w w') : On w' L st A := h.upd0 (Upd.of_below hb)
theorem On.alloc {w : World} {L : Loc} {st : Sl} {A : List Nat} (h : On w L st A) (o : Obj) : On (w.alloc o) L st A := h.upd0 ((Upd.refl _ _).alloc o)

theorem On.lt {w : World} {L : Loc} {st : Sl} {A : List Nat} (h : On w L st A) : ∀ k ∈ L.M, k < w.heap.size := by
  obtain ⟨D, h1, _, _⟩ := h
  obtain ⟨_, _, l1, l2, l3, _⟩ := h1.cells
  intro k hk
  simp [Loc.M] at hk
  rcases hk with rfl | rfl | rfl <;> assumption

/-- Keep out of more: of blocks that are there and are none of its own batches'. -/
theorem On.avoid {w : World} {L : Loc} {st : Sl} {A A' : List Nat} (h : On w L st A) (hs : ∀ k ∈ A', k ∈ A) : On w L st A' := by
  obtain ⟨D, h1, h2, h3⟩ := h
  exact ⟨D, h1, fun k hk hn => h2 k hk (hs k hn), fun k hk => h3 k (hs k hk)⟩

theorem grow_out {D D' A : List Nat} {w : World} (h2 : ∀ k ∈ D, k ∉ A) (h3 : ∀ k ∈ A, k < w.heap.size) (hD : ∀ k ∈ D', k ∈ D ∨ w.heap.size ≤ k) : ∀ k ∈ D', k ∉ A := by
  intro k hk hn
  rcases hD k hk with h | h
  · exact h2 k h hn
  · have := h3 k hn; omega

theorem on_new (f : Nat) (h1 : 1 ≤ f) (h2 : f ≤ 4) (w : World) :
    Calls Try.prog 18 #[.int .i64 f] w fun e w' => ∃ L : Loc, e = .returned (.tuple #[L.ptr, .int .i64 0]) ∧ L.f = f ∧ Upd [] w w' ∧ (∀ k ∈ L.M, w.heap.size ≤ k) ∧ ∀ A, (∀ k ∈ A, k < w'.heap.size) → On w' L (emptySl f) A := by
  refine (slot_new f h1 h2 w).mono ?_
  rintro e w' ⟨s, bp, bc, he, hu, g1, g2, g3, h⟩
  refine ⟨⟨s, bp, bc, 3 * f + 1, 3 * f + 1, f⟩, he, rfl, hu, by simp [Loc.M]; omega, fun A hA => ⟨[], h, by simp, hA⟩⟩

theorem on_pre {w : World} {L : Loc} {st : Sl} {A : List Nat} (h : On w L st A) (v : Value) (rs : List Rq) (hb : Bat w v rs) (hn : rs.length ≤ 100000) :
    Calls Try.prog 20 #[L.ptr, v] w fun e w' => e = .returned (.bool (!st.has)) ∧ Upd L.M w w' ∧ On w' L (if st.has then st else { st with has := true, batch := rs }) A := by
  obtain ⟨D, h1, h2, h3⟩ := h
  refine (slot_pre h1 v rs hb hn).mono ?_
  rintro e w' ⟨he, hu, D', hD, h⟩
  exact ⟨he, hu.mono (by intro k _ hk; simp at hk; simp [Loc.M, hk]), D', h, grow_out h2 h3 hD, fun k hk => Nat.lt_of_lt_of_le (h3 k hk) hu.size⟩

theorem on_vote {w : World} {L : Loc} {st : Sl} {A : List Nat} (h : On w L st A) (kind node sl : Int) (v : Value) (rs : List Rq) (hb : Bat w v rs) (hn : rs.length ≤ 100000) :
    Calls Try.prog 22 #[L.ptr, .int .i64 kind, .int .i64 node, .int .i64 sl, v] w fun e w' => e = .returned (.bool (canVote st kind node)) ∧ Upd L.M w w' ∧ On w' L (voteS st kind node sl rs) A := by
  obtain ⟨D, h1, h2, h3⟩ := h
  refine (slot_vote h1 kind node sl v rs hb hn).mono ?_
  rintro e w' ⟨he, hu, D', hD, h⟩
  exact ⟨he, hu.mono (by intro k _ hk; simp [Loc.M] at hk ⊢; exact .inr hk), D', h, grow_out h2 h3 hD, fun k hk => Nat.lt_of_lt_of_le (h3 k hk) hu.size⟩

theorem on_voted {w : World} {L : Loc} {st : Sl} {A : List Nat} (h : On w L st A) (kind node : Int) :
    Calls Try.prog 28 #[L.ptr, .int .i64 kind, .int .i64 node] w fun e w' => e = .returned (.bool (votedB (listOf st kind) node)) ∧ w = w' :=
  let ⟨_, h1, _, _⟩ := h
  slot_voted h1 kind node

theorem on_chosen {w : World} {L : Loc} {st : Sl} {A : List Nat} (h : On w L st A) :
    Calls Try.prog 29 #[L.ptr] w fun e w' => ∃ u, e = .returned (.tuple #[u, .bool st.has]) ∧ Upd [] w w' ∧ On w' L st A ∧ Bat w' u (chosenS st) ∧ ∀ k ∈ blkOf u, w.heap.size ≤ k := by
  have h0 := h
  obtain ⟨D, h1, h2, h3⟩ := h
  refine (slot_chosen h1).mono ?_
  rintro e w' ⟨u, he, hu, hb, hn⟩
  exact ⟨u, he, hu, h0.upd0 hu, hb, fun k hk => (hn k hk).1⟩

theorem on_prepared {w : World} {L : Loc} {st : Sl} {A : List Nat} (h : On w L st A) :
    Calls Try.prog 23 #[L.ptr] w fun e w' => ∃ u, e = .returned (.tuple #[u, .bool (preparedS L.f st).isSome]) ∧ Upd [] w w' ∧ On w' L st A ∧ Vts w' u ((preparedS L.f st).getD []) ∧ ∀ k ∈ blkOf u, w.heap.size ≤ k := by
  have h0 := h
  obtain ⟨D, h1, h2, h3⟩ := h
  refine (slot_prepared h1).mono ?_
  rintro e w' ⟨u, he, hb, hv, hn⟩
  exact ⟨u, he, Upd.of_below hb, h0.below hb, hv, hn⟩

theorem on_committed {w : World} {L : Loc} {st : Sl} {A : List Nat} (h : On w L st A) :
    Calls Try.prog 24 #[L.ptr] w fun e w' => ∃ v u, e = .returned (.tuple #[v, u, .bool (committedS L.f st).isSome]) ∧ Upd [] w w' ∧ On w' L st A ∧ Bat w' v (batchOf (committedS L.f st)) ∧ Vts w' u (votesOf (committedS L.f st)) ∧ (∀ k ∈ blkOf v, w.heap.size ≤ k) ∧ ∀ k ∈ blkOf u, w.heap.size ≤ k := by
  have h0 := h
  obtain ⟨D, h1, h2, h3⟩ := h
  refine (slot_committed h1).mono ?_
  rintro e w' ⟨v, u, he, hb, q1, q2, q3, q4⟩
  exact ⟨v, u, he, Upd.of_below hb, h0.below hb, q1, q2, q3, q4⟩

theorem on_reset {w : World} {L : Loc} {st : Sl} {A : List Nat} (h : On w L st A) :
    Calls Try.prog 33 #[L.ptr] w fun e w' => ∃ bp bc, e = .returned (.tuple #[]) ∧ Upd [L.s] w w' ∧ w.heap.size ≤ bp ∧ w.heap.size ≤ bc ∧ On w' ⟨L.s, bp, bc, 3 * L.f + 1, 3 * L.f + 1, L.f⟩ (emptySl L.f) A := by
  obtain ⟨D, h1, h2, h3⟩ := h
  refine (slot_reset h1).mono ?_
  rintro e w' ⟨bp, bc, he, hu, g1, g2, h⟩
  exact ⟨bp, bc, he, hu, g1, g2, [], h, by simp, fun k hk => Nat.lt_of_lt_of_le (h3 k hk) hu.size⟩

theorem on_clone {w : World} {L : Loc} {st : Sl} {A : List Nat} (h : On w L st A) (_hA : ∀ k ∈ L.M, k ∈ A) :
    Calls Try.prog 31 #[L.ptr] w fun e w' => ∃ L' : Loc, e = .returned L'.ptr ∧ L'.f = L.f ∧ Upd [] w w' ∧ On w' L st A ∧ (∀ k ∈ L'.M, w.heap.size ≤ k) ∧ On w' L' st A ∧ On w' L st (L'.M ++ A) := by
  have h0 := h
  obtain ⟨D, h1, h2, h3⟩ := h
  refine (slot_clone h1).mono ?_
  rintro e w' ⟨t, bp, bc, cp, cq, he, hb, g1, g2, g3, h⟩
  refine ⟨⟨t, bp, bc, cp, cq, L.f⟩, he, rfl, Upd.of_below hb, h0.below hb, by simp [Loc.M]; omega, ⟨D, h, h2, fun k hk => Nat.lt_of_lt_of_le (h3 k hk) hb.size⟩, ?_⟩
  have hl := h.cells
  obtain ⟨_, _, l1, l2, l3, _⟩ := hl
  refine ⟨D, h1.upd (Upd.of_below (M := []) hb) (by simp) (by simp) (by simp) (by simp), ?_, ?_⟩
  · intro k hk hn
    rcases List.mem_append.1 hn with hn | hn
    · have := h1.Dw k hk
      simp [Loc.M] at hn
      omega
    · exact h2 k hk hn
  · intro k hk
    rcases List.mem_append.1 hk with hk | hk
    · simp [Loc.M] at hk
      rcases hk with rfl | rfl | rfl <;> assumption
    · exact Nat.lt_of_lt_of_le (h3 k hk) hb.size

end Go.Proofs.Ytdeadekeffficaa
