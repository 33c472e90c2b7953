/- Resources: parts of memory that are owned apart, and what they share. No program. -/
import Derived.Test.YtdeadekeffficaaHeap
namespace Go.Heap
open Go Go.RowKit

/-- A part of memory: the blocks M that it owns, and what it says (Q) of a world, where what it shares lies in the blocks D. -/
structure Res where
  M : List Nat
  Q : World → List Nat → Prop
  dep : ∀ {w w' : World} {D : List Nat}, Q w D → (∀ k, k ∈ M ∨ k ∈ D → w'.heap[k]? = w.heap[k]?) → w.heap.size ≤ w'.heap.size → Q w' D
  lt : ∀ {w : World} {D : List Nat}, Q w D → ∀ k, k ∈ M ∨ k ∈ D → k < w.heap.size
  sep : ∀ {w : World} {D : List Nat}, Q w D → ∀ k ∈ M, k ∉ D

/-- It holds, and what it shares lies outside of A. -/
def Res.At (r : Res) (w : World) (A : List Nat) : Prop := ∃ D, r.Q w D ∧ (∀ k ∈ D, k ∉ A) ∧ ∀ k ∈ A, k < w.heap.size

section
variable {r r' s : Res} {w w' W W' w0 : World} {A A' N : List Nat} {rs ss : List Res} {B : Nat}

theorem Res.At.upd (h : r.At w A) (hu : Upd N w w') (hN : ∀ k ∈ N, k < w.heap.size → k ∉ r.M ∧ k ∈ A) : r.At w' A := by
  obtain ⟨D, h1, h2, h3⟩ := h
  refine ⟨D, r.dep h1 (fun k hk => hu.block k (r.lt h1 k hk) (fun hn => ?_)) hu.size, h2, fun k hk => Nat.lt_of_lt_of_le (h3 k hk) hu.size⟩
  obtain ⟨q1, q2⟩ := hN k hn (r.lt h1 k hk)
  rcases hk with hk | hk
  · exact q1 hk
  · exact h2 k hk q2

theorem Res.At.upd0 (h : r.At w A) (hu : Upd [] w w') : r.At w' A := h.upd hu (by simp)

theorem Res.At.avoid (h : r.At w A) (hs : ∀ k ∈ A', k ∈ A) : r.At w A' := by
  obtain ⟨D, h1, h2, h3⟩ := h
  exact ⟨D, h1, fun k hk hn => h2 k hk (hs k hn), fun k hk => h3 k (hs k hk)⟩

/-- Keep out of more: of what is new, and of its own. -/
theorem Res.At.more (h : r.At w A) (hu : Upd N w w') (hN : ∀ k ∈ N, k < w.heap.size → k ∉ r.M ∧ k ∈ A) (hA : ∀ k ∈ A', k < w'.heap.size ∧ (k ∈ A ∨ k ∈ r.M ∨ w.heap.size ≤ k)) : r.At w' A' := by
  obtain ⟨D', k1, k2, k3⟩ := h.upd hu hN
  obtain ⟨D, h1, h2, h3⟩ := h
  have h1' := r.dep h1 (w' := w') (fun k hk => hu.block k (r.lt h1 k hk) (fun hn => by
    obtain ⟨q1, q2⟩ := hN k hn (r.lt h1 k hk)
    exact hk.elim q1 (fun hk => h2 k hk q2))) hu.size
  refine ⟨D, h1', fun k hk hn => ?_, fun k hk => (hA k hk).1⟩
  rcases (hA k hn).2 with hq | hq | hq
  · exact h2 k hk hq
  · exact r.sep h1 k hq hk
  · have := r.lt h1 k (.inr hk); omega

theorem Res.At.lt (h : r.At w A) : ∀ k ∈ r.M, k < w.heap.size := by
  obtain ⟨D, h1, _, _⟩ := h
  exact fun k hk => r.lt h1 k (.inl hk)

def Ms (rs : List Res) : List Nat := rs.flatMap Res.M
theorem Ms_cons (r : Res) (rs : List Res) (k : Nat) : k ∈ Ms (r :: rs) ↔ k ∈ r.M ∨ k ∈ Ms rs := by simp [Ms]
theorem mem_Ms {r : Res} (h : r ∈ rs) {k : Nat} (hk : k ∈ r.M) : k ∈ Ms rs := by simp only [Ms, List.mem_flatMap]; exact ⟨r, h, hk⟩
theorem Ms_iff (rs : List Res) (k : Nat) : k ∈ Ms rs ↔ ∃ r ∈ rs, k ∈ r.M := by simp [Ms]

/-- From w0 on: below B all is as it was; what is there from B on belongs to rs, each for itself. -/
structure Own (B : Nat) (w0 W : World) (rs : List Res) : Prop where
  below : Below B w0 W
  size : B ≤ W.heap.size
  all : ∀ r ∈ rs, r.At W (Ms rs) ∧ ∀ k ∈ r.M, B ≤ k
  apart : rs.Pairwise fun r s => ∀ k ∈ r.M, k ∉ s.M

theorem Own.lt (h : Own B w0 W rs) : ∀ k ∈ Ms rs, k < W.heap.size := by
  intro k hk
  obtain ⟨r, hr, hk⟩ := (Ms_iff _ _).1 hk
  exact (h.all r hr).1.lt k hk

theorem Own.fresh (h : Own B w0 W rs) {k : Nat} (hk : W.heap.size ≤ k) : k ∉ Ms rs := fun hn => by have := h.lt k hn; omega
theorem Own.elder (h : Own B w0 W rs) {k : Nat} (hk : k < B) : k ∉ Ms rs := fun hn => by
  obtain ⟨r, hr, hm⟩ := (Ms_iff _ _).1 hn
  have := (h.all r hr).2 k hm
  omega

theorem Own.start (hb : Below B w0 W) (hB : B ≤ W.heap.size) : Own B w0 W [] := ⟨hb, hB, by simp, .nil⟩

theorem Own.upd0 (h : Own B w0 W rs) (hu : Upd [] W W') : Own B w0 W' rs :=
  ⟨h.below.trans (hu.below.mono h.size), Nat.le_trans h.size hu.size, fun r hr => ⟨(h.all r hr).1.upd0 hu, (h.all r hr).2⟩, h.apart⟩

theorem Own.alloc (h : Own B w0 W rs) (o : Obj) : Own B w0 (W.alloc o) rs := h.upd0 ((Upd.refl _ _).alloc o)
theorem Own.drew (h : Own B w0 W rs) : Own B w0 W.drew rs := h.upd0 (Upd.refl _ _).drew
theorem Own.to (h : Own B w0 W rs) (hb : Below W.heap.size W W') : Own B w0 W' rs := h.upd0 (Upd.of_below hb)

theorem Own.head (h : Own B w0 W (r :: rs)) : r.At W (Ms (r :: rs)) := (h.all r (by simp)).1

/-- A step of the first one. -/
theorem Own.step (h : Own B w0 W (r :: rs)) (hu : Upd r.M W W') (hr : r'.At W' (Ms (r :: rs))) (hM : ∀ k ∈ r'.M, k ∈ r.M ∨ W.heap.size ≤ k) : Own B w0 W' (r' :: rs) := by
  have hap := List.pairwise_cons.1 h.apart
  have hB := (h.all r (by simp)).2
  have hlt : ∀ k ∈ Ms (r' :: rs), k < W'.heap.size := by
    intro k hk
    rcases (Ms_cons _ _ _).1 hk with hk | hk
    · exact hr.lt k hk
    · exact Nat.lt_of_lt_of_le (h.lt k ((Ms_cons _ _ _).2 (.inr hk))) hu.size
  refine ⟨h.below.trans (hu.belowB h.size hB), Nat.le_trans h.size hu.size, fun s hs => ?_, ?_⟩
  · rcases List.mem_cons.1 hs with rfl | hs
    · refine ⟨hr.more (Upd.refl [] _) (by simp) (fun k hk => ⟨hlt k hk, ?_⟩), fun k hk => ?_⟩
      · rcases (Ms_cons _ _ _).1 hk with hk | hk
        · exact .inr (.inl hk)
        · exact .inl ((Ms_cons _ _ _).2 (.inr hk))
      · rcases hM k hk with hk | hk
        · exact hB k hk
        · exact Nat.le_trans h.size hk
    · obtain ⟨q1, q2⟩ := h.all s (List.mem_cons_of_mem _ hs)
      refine ⟨q1.more hu (fun k hk _ => ⟨hap.1 s hs k hk, (Ms_cons _ _ _).2 (.inl hk)⟩) (fun k hk => ⟨hlt k hk, ?_⟩), q2⟩
      rcases (Ms_cons _ _ _).1 hk with hk | hk
      · rcases hM k hk with hk | hk
        · exact .inl ((Ms_cons _ _ _).2 (.inl hk))
        · exact .inr (.inr hk)
      · exact .inl ((Ms_cons _ _ _).2 (.inr hk))
  · rw [List.pairwise_cons]
    refine ⟨fun s hs k hk hn => ?_, hap.2⟩
    rcases hM k hk with hk | hk
    · exact hap.1 s hs k hk hn
    · have := h.lt k ((Ms_cons _ _ _).2 (.inr (mem_Ms hs hn))); omega

/-- A new one. -/
theorem Own.new (h : Own B w0 W rs) (hu : Upd [] W W') (hr : r.At W' (Ms rs)) (hM : ∀ k ∈ r.M, W.heap.size ≤ k) : Own B w0 W' (r :: rs) := by
  have h' := h.upd0 hu
  have hlt : ∀ k ∈ Ms (r :: rs), k < W'.heap.size := by
    intro k hk
    rcases (Ms_cons _ _ _).1 hk with hk | hk
    · exact hr.lt k hk
    · exact h'.lt k hk
  refine ⟨h'.below, h'.size, fun s hs => ?_, ?_⟩
  · rcases List.mem_cons.1 hs with rfl | hs
    · exact ⟨hr.more (Upd.refl [] _) (by simp) (fun k hk => ⟨hlt k hk, ((Ms_cons _ _ _).1 hk).elim (fun h => .inr (.inl h)) .inl⟩), fun k hk => Nat.le_trans h.size (hM k hk)⟩
    · obtain ⟨q1, q2⟩ := h.all s hs
      exact ⟨q1.more hu (by simp) (fun k hk => ⟨hlt k hk, ((Ms_cons _ _ _).1 hk).elim (fun h => .inr (.inr (hM k h))) .inl⟩), q2⟩
  · rw [List.pairwise_cons]
    exact ⟨fun s hs k hk hn => by have := hM k hk; have := h.lt k (mem_Ms hs hn); omega, h.apart⟩

/-- One of them may be said otherwise, at the same world. -/
theorem Own.alter (h : Own B w0 W (r :: rs)) (hr : r'.At W (Ms (r :: rs))) (hM : ∀ k ∈ r'.M, k ∈ r.M) : Own B w0 W (r' :: rs) :=
  h.step ((Upd.refl [] _).mono (by simp)) hr (fun k hk => .inl (hM k hk))

/-- Some of them, in any order. -/
theorem Own.perm (h : Own B w0 W rs) (hp : rs.Perm ss) : Own B w0 W ss := by
  refine ⟨h.below, h.size, fun r hr => ?_, ?_⟩
  · obtain ⟨q1, q2⟩ := h.all r (hp.mem_iff.2 hr)
    refine ⟨q1.avoid (fun k hk => ?_), q2⟩
    obtain ⟨s, hs, hk⟩ := (Ms_iff _ _).1 hk
    exact mem_Ms (hp.mem_iff.2 hs) hk
  · exact hp.pairwise h.apart (fun hab k hk hn => hab k hn hk)

theorem Own.drop (h : Own B w0 W (r :: rs)) : Own B w0 W rs :=
  ⟨h.below, h.size, fun s hs => ⟨(h.all s (List.mem_cons_of_mem _ hs)).1.avoid (fun _k hk => (Ms_cons _ _ _).2 (.inr hk)), (h.all s (List.mem_cons_of_mem _ hs)).2⟩, (List.pairwise_cons.1 h.apart).2⟩

theorem Own.perm3 {r1 r2 r3 : Res} (h : Own B w0 W (r :: r1 :: r2 :: r3 :: rs)) : Own B w0 W (r1 :: r2 :: r3 :: r :: rs) :=
  h.perm ((List.Perm.swap _ _ _).trans (((List.Perm.swap _ _ _).trans ((List.Perm.swap _ _ _).cons _)).cons _))
theorem Own.perm3' {r1 r2 r3 : Res} (h : Own B w0 W (r1 :: r2 :: r3 :: r :: rs)) : Own B w0 W (r :: r1 :: r2 :: r3 :: rs) :=
  h.perm ((List.Perm.swap _ _ _).trans (((List.Perm.swap _ _ _).trans ((List.Perm.swap _ _ _).cons _)).cons _)).symm
theorem Own.swap (h : Own B w0 W (r :: s :: rs)) : Own B w0 W (s :: r :: rs) := h.perm (.swap _ _ _)
theorem Own.rot' {t : Res} (h : Own B w0 W (r :: s :: t :: rs)) : Own B w0 W (s :: t :: r :: rs) := h.perm ((List.Perm.swap _ _ _).trans ((List.Perm.swap _ _ _).cons _))
theorem Own.rot {t : Res} (h : Own B w0 W (r :: s :: t :: rs)) : Own B w0 W (t :: r :: s :: rs) := h.perm (((List.Perm.swap _ _ _).cons _).trans (.swap _ _ _))
/-- Two become one. -/
theorem Own.join (h : Own B w0 W (r :: s :: rs)) (hr : r'.At W (Ms (r :: s :: rs))) (hM : ∀ k ∈ r'.M, k ∈ r.M ∨ k ∈ s.M) : Own B w0 W (r' :: rs) := by
  have hap := List.pairwise_cons.1 h.apart
  have hap2 := List.pairwise_cons.1 hap.2
  have hs := h.drop.drop
  have hsub : ∀ k ∈ Ms (r' :: rs), k ∈ Ms (r :: s :: rs) := by
    intro k hk
    rcases (Ms_cons _ _ _).1 hk with hk | hk
    · rcases hM k hk with hk | hk
      · exact (Ms_cons _ _ _).2 (.inl hk)
      · exact (Ms_cons _ _ _).2 (.inr ((Ms_cons _ _ _).2 (.inl hk)))
    · exact (Ms_cons _ _ _).2 (.inr ((Ms_cons _ _ _).2 (.inr hk)))
  refine ⟨h.below, h.size, fun t ht => ?_, ?_⟩
  · rcases List.mem_cons.1 ht with rfl | ht
    · refine ⟨hr.avoid hsub, fun k hk => ?_⟩
      rcases hM k hk with hk | hk
      · exact (h.all r (by simp)).2 k hk
      · exact (h.all s (by simp)).2 k hk
    · obtain ⟨q1, q2⟩ := h.all t (by simp [ht])
      exact ⟨q1.avoid hsub, q2⟩
  · rw [List.pairwise_cons]
    refine ⟨fun t ht k hk => ?_, hap2.2⟩
    rcases hM k hk with hk | hk
    · exact hap.1 t (by simp [ht]) k hk
    · exact hap2.1 t ht k hk

/-! ### A block that is known whole; a slice that is only read -/

/-- Block b is the object o. -/
def blk (b : Nat) (o : Obj) : Res where
  M := [b]
  Q := fun w D => w.heap[b]? = some o ∧ D = []
  dep := fun ⟨h, e⟩ hk _ => ⟨(hk _ (by simp)).trans h, e⟩
  lt := fun ⟨h, e⟩ k hk => by subst e; simp at hk; subst hk; exact block_lt h
  sep := fun ⟨_, e⟩ k _ hn => by rw [e] at hn; simp at hn

theorem blk_out {b : Nat} {o : Obj} (h : (blk b o).At w A) : w.heap[b]? = some o := let ⟨_, h, _⟩ := h; h.1
theorem blk_at {b : Nat} {o : Obj} (h : w.heap[b]? = some o) (hA : ∀ k ∈ A, k < w.heap.size) : (blk b o).At w A := ⟨[], ⟨h, rfl⟩, by simp, hA⟩

theorem Own.blk_out {b : Nat} {o : Obj} (h : Own B w0 W (blk b o :: rs)) : W.heap[b]? = some o := Heap.blk_out h.head

/-- A new block. -/
theorem Own.box (h : Own B w0 W rs) (o : Obj) : Own B w0 (W.alloc o) (blk W.heap.size o :: rs) :=
  h.new ((Upd.refl _ _).alloc o) (blk_at (heap_alloc_new W o) (fun k hk => by have := h.lt k hk; simp; omega)) (by simp [blk])

theorem Own.store {b : Nat} {o : Obj} (h : Own B w0 W (blk b o :: rs)) (i : Nat) (v : Value) : Own B w0 (W.setCell ⟨b, i, none⟩ v) (blk b (setIn i v o) :: rs) := by
  have hu : Upd [b] W (W.setCell ⟨b, i, none⟩ v) := (Upd.refl _ _).setCell (.inl (by simp)) v
  refine h.step (r' := blk b (setIn i v o)) hu (blk_at ?_ (fun k hk => by rw [hs_set]; exact h.lt k hk)) (fun k hk => .inl hk)
  rw [hp_same rfl, h.blk_out]; rfl

/-- A block is written by a call that names it. -/
theorem Own.turn {b : Nat} {o o' : Obj} (h : Own B w0 W (blk b o :: rs)) (hu : Upd [b] W W') (hb : W'.heap[b]? = some o') : Own B w0 W' (blk b o' :: rs) :=
  h.step (r' := blk b o') hu (blk_at hb (fun k hk => Nat.lt_of_lt_of_le (h.lt k hk) hu.size)) (fun _k hk => .inl hk)

/-- A slice that is only read: its cells lie in D. -/
def ReadsIn (w : World) (v : Value) (sz n : Nat) (xs : List Value) (D : List Nat) : Prop := Reads w v sz n xs ∧ (0 < n → ∀ k ∈ blkOf v, k ∈ D)

theorem ReadsIn.mono {v : Value} {sz n : Nat} {xs : List Value} {D D' : List Nat} (h : ReadsIn w v sz n xs D) (hs : ∀ k ∈ D, k ∈ D') : ReadsIn w v sz n xs D' := ⟨h.1, fun hn k hk => hs k (h.2 hn k hk)⟩

theorem ReadsIn.nil (w : World) (sz : Nat) (D : List Nat) : ReadsIn w (.slice none 0 0) sz 0 [] D := ⟨Reads.nil _ _, fun h => by omega⟩

theorem ReadsIn.dep {v : Value} {sz n : Nat} {xs : List Value} {D : List Nat} (h : ReadsIn w v sz n xs D) (hk : ∀ k ∈ D, w'.heap[k]? = w.heap[k]?) (hs : w.heap.size ≤ w'.heap.size) : ReadsIn w' v sz n xs D := by
  obtain ⟨⟨ao, cap, rfl, h1, h2, h3, h4, h5⟩, h6⟩ := h
  refine ⟨⟨ao, cap, rfl, h1, h2, h3, h4, fun hn => ?_⟩, h6⟩
  obtain ⟨b, o, rfl, hb, hc⟩ := h5 hn
  refine ⟨b, o, rfl, by omega, fun j hj => ?_⟩
  rw [World.cell?_of_block (w := w) (hk b (h6 hn b (by simp [blkOf])))]
  exact hc j hj

theorem Reads.lt {v : Value} {sz n : Nat} {xs : List Value} (h : Reads w v sz n xs) (hn : 0 < n) : ∀ k ∈ blkOf v, k < w.heap.size := by
  obtain ⟨ao, cap, rfl, _, _, _, _, h5⟩ := h
  obtain ⟨b, o, rfl, hb, _⟩ := h5 hn
  intro k hk
  simp [blkOf] at hk
  omega

/-- Blocks of a slice that has something in it. -/
def blkIf (n : Nat) (v : Value) : List Nat := if 0 < n then blkOf v else []
theorem Reads.lies {v : Value} {sz n : Nat} {xs : List Value} (h : Reads w v sz n xs) : ReadsIn w v sz n xs (blkIf n v) := ⟨h, fun hn k hk => by unfold blkIf; rw [if_pos hn]; exact hk⟩
theorem Reads.lies_lt {v : Value} {sz n : Nat} {xs : List Value} (h : Reads w v sz n xs) : ∀ k ∈ blkIf n v, k < w.heap.size := by
  intro k hk
  unfold blkIf at hk
  split at hk
  · exact h.lt (by assumption) k hk
  · simp at hk
theorem blkIf_sub {n : Nat} {v : Value} {k : Nat} (h : k ∈ blkIf n v) : k ∈ blkOf v := by unfold blkIf at h; split at h; exact h; simp at h

/-- Something that is only read. -/
def imm (Q : World → List Nat → Prop) (dep : ∀ {w w' : World} {D : List Nat}, Q w D → (∀ k ∈ D, w'.heap[k]? = w.heap[k]?) → w.heap.size ≤ w'.heap.size → Q w' D) : Res where
  M := []
  Q := fun w D => Q w D ∧ ∀ k ∈ D, k < w.heap.size
  dep := fun ⟨h, e⟩ hk hs => ⟨dep h (fun k hkD => hk k (.inr hkD)) hs, fun k hk => Nat.lt_of_lt_of_le (e k hk) hs⟩
  lt := fun ⟨_, e⟩ k hk => e k (by simpa using hk)
  sep := fun _ k hk => by simp at hk

end
end Go.Heap
