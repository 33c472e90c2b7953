/- Slots and batches as resources. -/
import Derived.Test.YtdeadekeffficaaRes
import Derived.Test.YtdeadekeffficaaKeep
namespace Go.Proofs.Ytdeadekeffficaa
open Go.RowKit Go.Heap

theorem VotesAt.dep {w w' : World} {b : Nat} {vs : List Vt} {D : List Nat} (h : VotesAt w b vs D) (hk : ∀ k, k = b ∨ k ∈ D → w'.heap[k]? = w.heap[k]?) (hs : w.heap.size ≤ w'.heap.size) : VotesAt w' b vs D := by
  obtain ⟨arr, h1, h2, h3⟩ := h
  refine ⟨arr, by rw [hk b (.inl rfl)]; exact h1, h2, fun i t hi => ?_⟩
  obtain ⟨v, a1, a2, a3, a4, a5⟩ := h3 i t hi
  exact ⟨v, a1, a2, a3, Reads.keep a4 (fun k hkb _ => hk k (.inr (a5 k hkb))) hs, a5⟩

theorem SlotAt.dep {w w' : World} {s bp bc cp cq f : Nat} {st : Sl} {D : List Nat} (h : SlotAt w s bp bc cp cq f st D) (hk : ∀ k, k ∈ [s, bp, bc] ∨ k ∈ D → w'.heap[k]? = w.heap[k]?) (hs : w.heap.size ≤ w'.heap.size) : SlotAt w' s bp bc cp cq f st D := by
  obtain ⟨v, a1, a2, a3⟩ := h.own
  exact { h with
    own := ⟨v, by rw [hk s (by simp)]; exact a1, Reads.keep a2 (fun k hkb _ => hk k (.inr (a3 k hkb))) hs, a3⟩
    ps := h.ps.dep (fun k hkb => hk k (hkb.imp (fun e => by simp [e]) id)) hs
    cs := h.cs.dep (fun k hkb => hk k (hkb.imp (fun e => by simp [e]) id)) hs
    Dw := fun k hkD => Nat.lt_of_lt_of_le (h.Dw k hkD) hs }

def slotR (L : Loc) (st : Sl) : Res where
  M := L.M
  Q := fun w D => SlotAt w L.s L.bp L.bc L.cp L.cq L.f st D
  dep := fun h hk hs => h.dep hk hs
  lt := fun {w D} h k hk => hk.elim (fun hk => On.lt (A := []) ⟨D, h, by simp, by simp⟩ k hk) (fun hk => h.Dw k hk)
  sep := fun h k hk hn => by
    simp [Loc.M] at hk
    rcases hk with rfl | rfl | rfl
    · exact h.Ds hn
    · exact h.Dp hn
    · exact h.Dc hn

/-- A batch that is only read. -/
def BatIn (w : World) (v : Value) (rs : List Rq) (D : List Nat) : Prop := ReadsIn w v 6 rs.length (rqsCells rs) D

theorem Bat.lies {w : World} {v : Value} {rs : List Rq} (h : Bat w v rs) : BatIn w v rs (blkIf rs.length v) := Reads.lies h
theorem BatIn.bat {w : World} {v : Value} {rs : List Rq} {D : List Nat} (h : BatIn w v rs D) : Bat w v rs := h.1

def batR (v : Value) (rs : List Rq) : Res := imm (fun w D => BatIn w v rs D) (fun h hk hs => ReadsIn.dep h hk hs)

theorem batR_out {v : Value} {rs : List Rq} {w : World} {A : List Nat} (h : (batR v rs).At w A) : Bat w v rs := let ⟨_, h, _⟩ := h; h.1.1

section
variable {B : Nat} {w0 W W' : World} {rs : List Res} {L : Loc} {st : Sl}

theorem own_on (h : Own B w0 W (slotR L st :: rs)) : On W L st (Ms (slotR L st :: rs)) := h.head

theorem own_small (h : Own B w0 W (slotR L st :: rs)) : st.batch.length ≤ 100000 ∧ (∀ t ∈ st.ps, t.batch.length ≤ 100000) ∧ (∀ t ∈ st.cs, t.batch.length ≤ 100000) ∧ st.ps.length = 3 * L.f + 1 ∧ st.cs.length = 3 * L.f + 1 := by
  obtain ⟨D, h1, _, _⟩ := own_on h
  exact ⟨h1.small.1, h1.small.2.1, h1.small.2.2, h1.pl, h1.cl⟩

theorem own_bat (h : Own B w0 W rs) {v : Value} {l : List Rq} (hb : Bat W v l) (hk : ∀ k ∈ blkIf l.length v, k < B ∨ w0.heap.size ≤ k ∧ k ∉ Ms rs) : Own B w0 W (batR v l :: rs) :=
  h.new (Upd.refl [] _) ⟨blkIf l.length v, ⟨hb.lies, Reads.lies_lt hb⟩, fun k hkD => (hk k hkD).elim (fun hl => h.elder hl) (·.2), fun k hkA => h.lt k hkA⟩ (by simp [batR, imm])

theorem own_new (f : Nat) (h1 : 1 ≤ f) (h2 : f ≤ 4) (h : Own B w0 W rs) :
    Calls Try.prog 18 #[.int .i64 f] W fun e w' => ∃ L : Loc, e = .returned (.tuple #[L.ptr, .int .i64 0]) ∧ L.f = f ∧ Upd [] W w' ∧ Own B w0 w' (slotR L (emptySl f) :: rs) := by
  refine (on_new f h1 h2 W).mono ?_
  rintro e w' ⟨L, he, hf, hu, hM, hon⟩
  exact ⟨L, he, hf, hu, h.new (r := slotR L (emptySl f)) hu (hon (Ms rs) (fun k hk => Nat.lt_of_lt_of_le (h.lt k hk) hu.size)) hM⟩

theorem own_pre (h : Own B w0 W (slotR L st :: rs)) (v : Value) (l : List Rq) (hb : Bat W v l) (hn : l.length ≤ 100000) :
    Calls Try.prog 20 #[L.ptr, v] W fun e w' => e = .returned (.bool (!st.has)) ∧ Upd L.M W w' ∧ Own B w0 w' (slotR L (if st.has then st else { st with has := true, batch := l }) :: rs) := by
  refine (on_pre (own_on h) v l hb hn).mono ?_
  rintro e w' ⟨he, hu, hon⟩
  exact ⟨he, hu, h.step (r' := slotR L _) hu hon (fun k hk => .inl hk)⟩

theorem own_vote (h : Own B w0 W (slotR L st :: rs)) (kind node sl : Int) (v : Value) (l : List Rq) (hb : Bat W v l) (hn : l.length ≤ 100000) :
    Calls Try.prog 22 #[L.ptr, .int .i64 kind, .int .i64 node, .int .i64 sl, v] W fun e w' => e = .returned (.bool (canVote st kind node)) ∧ Upd L.M W w' ∧ Own B w0 w' (slotR L (voteS st kind node sl l) :: rs) := by
  refine (on_vote (own_on h) kind node sl v l hb hn).mono ?_
  rintro e w' ⟨he, hu, hon⟩
  exact ⟨he, hu, h.step (r' := slotR L _) hu hon (fun k hk => .inl hk)⟩

theorem own_reset (h : Own B w0 W (slotR L st :: rs)) :
    Calls Try.prog 33 #[L.ptr] W fun e w' => ∃ L' : Loc, e = .returned (.tuple #[]) ∧ L'.f = L.f ∧ L'.s = L.s ∧ Upd L.M W w' ∧ Own B w0 w' (slotR L' (emptySl L.f) :: rs) := by
  obtain ⟨D, h1, h2, h3⟩ := own_on h
  refine (slot_reset h1).mono ?_
  rintro e w' ⟨bp, bc, he, hu, g1, g2, h4⟩
  have hu' : Upd L.M W w' := hu.mono (by intro k _ hk; simp at hk; simp [Loc.M, hk])
  refine ⟨⟨L.s, bp, bc, 3 * L.f + 1, 3 * L.f + 1, L.f⟩, he, rfl, rfl, hu', h.step (r' := slotR ⟨L.s, bp, bc, 3 * L.f + 1, 3 * L.f + 1, L.f⟩ (emptySl L.f)) hu' ⟨[], h4, by simp, fun k hk => Nat.lt_of_lt_of_le (h3 k hk) hu.size⟩ (fun k hk => ?_)⟩
  simp [slotR, Loc.M] at hk ⊢
  omega

theorem own_clone (h : Own B w0 W (slotR L st :: rs)) :
    Calls Try.prog 31 #[L.ptr] W fun e w' => ∃ L' : Loc, e = .returned L'.ptr ∧ L'.f = L.f ∧ Upd [] W w' ∧ Own B w0 w' (slotR L' st :: slotR L st :: rs) := by
  obtain ⟨D, h1, h2, h3⟩ := own_on h
  refine (slot_clone h1).mono ?_
  rintro e w' ⟨t, bp, bc, cp, cq, he, hb, g1, g2, g3, h4⟩
  have hu : Upd [] W w' := Upd.of_below hb
  exact ⟨⟨t, bp, bc, cp, cq, L.f⟩, he, rfl, hu, h.new (r := slotR ⟨t, bp, bc, cp, cq, L.f⟩ st) hu ⟨D, h4, h2, fun k hk => Nat.lt_of_lt_of_le (h3 k hk) hu.size⟩ (by simp [slotR, Loc.M]; omega)⟩

theorem own_voted (h : Own B w0 W (slotR L st :: rs)) (kind node : Int) :
    Calls Try.prog 28 #[L.ptr, .int .i64 kind, .int .i64 node] W fun e w' => e = .returned (.bool (votedB (listOf st kind) node)) ∧ W = w' := on_voted (own_on h) kind node

theorem own_chosen (h : Own B w0 W (slotR L st :: rs)) :
    Calls Try.prog 29 #[L.ptr] W fun e w' => ∃ u, e = .returned (.tuple #[u, .bool st.has]) ∧ Upd [] W w' ∧ Bat w' u (chosenS st) ∧ ∀ k ∈ blkOf u, W.heap.size ≤ k := by
  refine (on_chosen (own_on h)).mono ?_
  rintro e w' ⟨u, he, hu, _, hb, hn⟩
  exact ⟨u, he, hu, hb, hn⟩

theorem own_prepared (h : Own B w0 W (slotR L st :: rs)) :
    Calls Try.prog 23 #[L.ptr] W fun e w' => ∃ u, e = .returned (.tuple #[u, .bool (preparedS L.f st).isSome]) ∧ Upd [] W w' ∧ Vts w' u ((preparedS L.f st).getD []) ∧ ∀ k ∈ blkOf u, W.heap.size ≤ k := by
  refine (on_prepared (own_on h)).mono ?_
  rintro e w' ⟨u, he, hu, _, hb, hn⟩
  exact ⟨u, he, hu, hb, hn⟩

theorem own_committed (h : Own B w0 W (slotR L st :: rs)) :
    Calls Try.prog 24 #[L.ptr] W fun e w' => ∃ v u, e = .returned (.tuple #[v, u, .bool (committedS L.f st).isSome]) ∧ Upd [] W w' ∧ Bat w' v (batchOf (committedS L.f st)) ∧ Vts w' u (votesOf (committedS L.f st)) ∧ (∀ k ∈ blkOf v, W.heap.size ≤ k) ∧ ∀ k ∈ blkOf u, W.heap.size ≤ k := by
  refine (on_committed (own_on h)).mono ?_
  rintro e w' ⟨v, u, he, hu, _, q1, q2, q3, q4⟩
  exact ⟨v, u, he, hu, q1, q2, q3, q4⟩

end
end Go.Proofs.Ytdeadekeffficaa
