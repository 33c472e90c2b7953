/- More resources: several as one; rows of cells; rows that grow. No program. -/
import Derived.Test.YtdeadekeffficaaRes
namespace Go.Heap
open Go Go.RowKit

section
variable {r r' s : Res} {w w' W W' w0 : World} {A A' N : List Nat} {rs ss : List Res} {B : Nat}

theorem Ms_append (rs ss : List Res) (k : Nat) : k ∈ Ms (rs ++ ss) ↔ k ∈ Ms rs ∨ k ∈ Ms ss := by simp [Ms]

/-- Several resources as one. -/
def joinR (rs : List Res) : Res where
  M := Ms rs
  Q := fun w D => (∀ r ∈ rs, ∃ D', r.Q w D' ∧ ∀ k ∈ D', k ∈ D) ∧ rs.Pairwise (fun (r s : Res) => ∀ k ∈ r.M, k ∉ s.M) ∧ ∀ k ∈ D, k < w.heap.size ∧ k ∉ Ms rs
  dep := fun ⟨h1, h2, h3⟩ hk hs => ⟨fun r hr => by
    obtain ⟨D', q1, q2⟩ := h1 r hr
    exact ⟨D', r.dep q1 (fun k hkk => hk k (hkk.imp (fun h => mem_Ms hr h) (q2 k))) hs, q2⟩, h2, fun k hkD => ⟨Nat.lt_of_lt_of_le (h3 k hkD).1 hs, (h3 k hkD).2⟩⟩
  lt := fun ⟨h1, _, h3⟩ k hk => by
    rcases hk with hk | hk
    · obtain ⟨r, hr, hk⟩ := (Ms_iff _ _).1 hk
      obtain ⟨D', q1, _⟩ := h1 r hr
      exact r.lt q1 k (.inl hk)
    · exact (h3 k hk).1
  sep := fun ⟨_, _, h3⟩ k hk hn => (h3 k hn).2 hk

theorem Own.open (h : Own B w0 W (joinR rs :: ss)) : Own B w0 W (rs ++ ss) := by
  obtain ⟨D, ⟨h1, h2, h3⟩, h4, h5⟩ := h.head
  have hm : ∀ k, k ∈ Ms (rs ++ ss) ↔ k ∈ Ms (joinR rs :: ss) := fun k => by rw [Ms_append, Ms_cons]; rfl
  have hap := List.pairwise_cons.1 h.apart
  refine ⟨h.below, h.size, fun r hr => ?_, ?_⟩
  · rcases List.mem_append.1 hr with hr | hr
    · obtain ⟨D', q1, q2⟩ := h1 r hr
      exact ⟨⟨D', q1, fun k hk hn => h4 k (q2 k hk) ((hm k).1 hn), fun k hk => h5 k ((hm k).1 hk)⟩, fun k hk => (h.all _ List.mem_cons_self).2 k (mem_Ms hr hk)⟩
    · obtain ⟨q1, q2⟩ := h.all r (List.mem_cons_of_mem _ hr)
      exact ⟨q1.avoid (fun k hk => (hm k).1 hk), q2⟩
  · rw [List.pairwise_append]
    exact ⟨h2, hap.2, fun r hr s hs k hk => hap.1 s hs k (mem_Ms hr hk)⟩

theorem Own.shut (h : Own B w0 W (rs ++ ss)) : Own B w0 W (joinR rs :: ss) := by
  have hm : ∀ k, k ∈ Ms (rs ++ ss) ↔ k ∈ Ms (joinR rs :: ss) := fun k => by rw [Ms_append, Ms_cons]; rfl
  obtain ⟨p1, p2, p3⟩ := List.pairwise_append.1 h.apart
  have hD : ∀ k, k ∈ (List.range W.heap.size).filter (fun k => decide (k ∉ Ms (rs ++ ss))) ↔ k < W.heap.size ∧ k ∉ Ms (rs ++ ss) := fun k => by simp
  refine ⟨h.below, h.size, fun r hr => ?_, ?_⟩
  · rcases List.mem_cons.1 hr with rfl | hr
    · refine ⟨⟨_, ⟨fun r hr => ?_, p1, fun k hk => ⟨((hD k).1 hk).1, fun hn => ((hD k).1 hk).2 ((Ms_append _ _ _).2 (.inl hn))⟩⟩, fun k hk hn => ((hD k).1 hk).2 ((hm k).2 hn), fun k hk => h.lt k ((hm k).2 hk)⟩, fun k hk => ?_⟩
      · obtain ⟨⟨D', q1, q2, q3⟩, _⟩ := h.all r (List.mem_append_left _ hr)
        exact ⟨D', q1, fun k hk => (hD k).2 ⟨r.lt q1 k (.inr hk), q2 k hk⟩⟩
      · obtain ⟨s, hs, hk⟩ := (Ms_iff _ _).1 hk
        exact (h.all s (List.mem_append_left _ hs)).2 k hk
    · obtain ⟨q1, q2⟩ := h.all r (List.mem_append_right _ hr)
      exact ⟨q1.avoid (fun k hk => (hm k).2 hk), q2⟩
  · rw [List.pairwise_cons]
    exact ⟨fun s hs k hk => by
      obtain ⟨r, hr, hk⟩ := (Ms_iff _ _).1 hk
      exact p3 r hr s hs k hk, p2⟩

/-! ### The k-th of a row of resources -/

theorem perm_at {α : Type} (l : List α) (k : Nat) (hk : k < l.length) : l.Perm (l[k] :: l.eraseIdx k) := by
  conv => lhs; rw [← List.take_append_drop k l, ← List.getElem_cons_drop hk]
  rw [List.eraseIdx_eq_take_drop_succ]
  exact List.perm_middle

theorem perm_set {α : Type} (l : List α) (k : Nat) (hk : k < l.length) (x : α) : (l.set k x).Perm (x :: l.eraseIdx k) := by
  have h := perm_at (l.set k x) k (by simpa using hk)
  rwa [List.getElem_set_self, List.eraseIdx_set_eq] at h

/-- The k-th of the resources behind the first ones comes to the head. -/
theorem Own.pick {α : Type} {f : α → Res} {l : List α} {hd : List Res} (h : Own B w0 W (hd ++ (l.map f ++ ss))) (k : Nat) (hk : k < l.length) : Own B w0 W (f l[k] :: (hd ++ ((l.eraseIdx k).map f ++ ss))) := by
  refine h.perm (List.Perm.trans (List.Perm.append_left hd (List.Perm.append_right ss ((perm_at l k hk).map f))) ?_)
  exact List.perm_middle

theorem Own.unpick {α : Type} {f : α → Res} {l : List α} {hd : List Res} {x : α} (k : Nat) (hk : k < l.length) (h : Own B w0 W (f x :: (hd ++ ((l.eraseIdx k).map f ++ ss)))) : Own B w0 W (hd ++ ((l.set k x).map f ++ ss)) := by
  refine h.perm (List.Perm.trans List.perm_middle.symm ?_)
  exact List.Perm.append_left hd (List.Perm.append_right ss ((perm_set l k hk x).map f).symm)

/-- A slice that is only read, as a resource. -/
def redR (v : Value) (sz n : Nat) (xs : List Value) : Res := imm (fun w D => ReadsIn w v sz n xs D) (fun h hk hs => ReadsIn.dep h hk hs)
theorem redR_out {v : Value} {sz n : Nat} {xs : List Value} (h : (redR v sz n xs).At w A) : Reads w v sz n xs := let ⟨_, h, _⟩ := h; h.1.1
theorem Own.red {v : Value} {sz n : Nat} {xs : List Value} (h : Own B w0 W rs) (hr : Reads W v sz n xs) (hk : ∀ k ∈ blkIf n v, k ∉ Ms rs) : Own B w0 W (redR v sz n xs :: rs) :=
  h.new (Upd.refl [] _) ⟨blkIf n v, ⟨hr.lies, Reads.lies_lt hr⟩, hk, fun k hkA => h.lt k hkA⟩ (by simp [redR, imm])

/-! ### A block whose first cells are known -/

def segR (b : Nat) (T : TypeId) (vals : List Value) : Res where
  M := [b]
  Q := fun w D => (∃ cur, w.heap[b]? = some (.cells cur T (0, 0)) ∧ vals.length ≤ cur.size ∧ ∀ j, j < vals.length → cur[j]? = vals[j]?) ∧ D = []
  dep := fun ⟨⟨cur, h1, h2⟩, e⟩ hk _ => ⟨⟨cur, (hk _ (by simp)).trans h1, h2⟩, e⟩
  lt := fun ⟨⟨cur, h1, h2⟩, e⟩ k hk => by subst e; simp at hk; subst hk; exact block_lt h1
  sep := fun ⟨_, e⟩ k _ hn => by rw [e] at hn; simp at hn

theorem segR_at {b : Nat} {T : TypeId} {vals : List Value} (h : (segR b T vals).At w A) : b < w.heap.size ∧ (∀ j, j < vals.length → w.cell? ⟨b, j, none⟩ = vals[j]?) ∧ ∀ o, w.frozen? ⟨b, o, none⟩ = false := by
  obtain ⟨D, ⟨⟨cur, h1, h2, h3⟩, -⟩, -, -⟩ := h
  exact ⟨block_lt h1, fun j hj => by rw [block_cell h1]; exact h3 j hj, block_frozen h1⟩

theorem Own.put {b : Nat} {T : TypeId} {vals : List Value} (h : Own B w0 W (segR b T vals :: rs)) (i : Nat) (v : Value) : Own B w0 (W.setCell ⟨b, i, none⟩ v) (segR b T (vals.set i v) :: rs) := by
  have hu : Upd [b] W (W.setCell ⟨b, i, none⟩ v) := (Upd.refl _ _).setCell (.inl (by simp)) v
  obtain ⟨D, ⟨⟨cur, h1, h2, h3⟩, rfl⟩, h4, h5⟩ := h.head
  refine h.step (r' := segR b T (vals.set i v)) hu ⟨[], ⟨⟨cur.setIfInBounds i v, by rw [hp_same rfl, h1]; rfl, by simpa using h2, fun j hj => ?_⟩, rfl⟩, by simp, fun k hk => by rw [hs_set]; exact h5 k hk⟩ (fun k hk => .inl hk)
  have hj : j < vals.length := by simpa using hj
  by_cases hij : i = j
  · subst hij
    rw [Array.getElem?_setIfInBounds_self, List.getElem?_set_self hj, if_pos (by omega)]
  · rw [Array.getElem?_setIfInBounds_ne hij, List.getElem?_set_ne hij]
    exact h3 j hj

/-- A row that the caller's appends make. -/
def ownR (E sz : Nat) (v : Value) (n : Nat) (xs : List Value) : Res where
  M := blkOf v
  Q := fun w D => w.ownsRow 0 E sz v n xs ∧ D = []
  dep := fun {w w' D} ⟨h, e⟩ hk _ => by
    refine ⟨⟨h.1, ?_⟩, e⟩
    rcases h.2 with hn | ⟨g, cap, cur, rfl, hb, hg, rest⟩
    · exact .inl hn
    · exact .inr ⟨g, cap, cur, rfl, hb, by rw [hk g (.inl (by simp [blkOf]))]; exact hg, rest⟩
  lt := fun {w D} ⟨h, e⟩ k hk => by
    subst e
    rcases h.2 with ⟨rfl, _⟩ | ⟨g, cap, cur, rfl, hb, hg, rest⟩
    · simp [blkOf] at hk
    · simp [blkOf] at hk; subst hk; exact block_lt hg
  sep := fun ⟨_, e⟩ k _ hn => by rw [e] at hn; simp at hn

variable {E sz n m : Nat} {v : Value} {xs ys : List Value}
theorem ownR_owns (h : (ownR E sz v n xs).At w A) : w.ownsRow 0 E sz v n xs := let ⟨_, h, _⟩ := h; h.1

theorem owns_zero {B : Nat} (h : w.ownsRow B E sz v n xs) : w.ownsRow 0 E sz v n xs := ⟨h.1, h.2.imp id fun ⟨g, cap, cur, e, _, h⟩ => ⟨g, cap, cur, e, Nat.zero_le _, h⟩⟩

theorem Own.row0 (h : Own B w0 W rs) : Own B w0 W (ownR E sz (.slice none 0 0) 0 [] :: rs) :=
  h.new (Upd.refl [] _) ⟨[], ⟨World.ownsRow_nil _ _ _ _, rfl⟩, by simp, fun k hk => h.lt k hk⟩ (by simp [ownR, blkOf])

/-- Something was appended to it. -/
theorem Own.grow {g cap : Nat} (h : Own B w0 W (ownR E sz v n xs :: rs)) (hg : W.grownBy W' v.ownBlock) (hat : v.ownBlock = some g ∨ g = W.heap.size) (ho : W'.ownsRow 0 E sz (.slice (some ⟨g, 0, none⟩) m cap) m ys) : Own B w0 W' (ownR E sz (.slice (some ⟨g, 0, none⟩) m cap) m ys :: rs) := by
  have hown := ownR_owns h.head
  have hv : ∀ k, v.ownBlock = some k → k ∈ blkOf v := by
    intro k hk
    rcases hown.2 with ⟨rfl, _⟩ | ⟨g', cap', cur, rfl, _⟩
    · simp [Value.ownBlock] at hk
    · simp [Value.ownBlock] at hk; subst hk; simp [blkOf]
  have hu : Upd (blkOf v) W W' := (Upd.refl _ _).grown hg (fun k hk => .inl (hv k hk))
  refine h.step (r' := ownR E sz (.slice (some ⟨g, 0, none⟩) m cap) m ys) hu ⟨[], ⟨ho, rfl⟩, by simp, fun k hk => Nat.lt_of_lt_of_le (h.lt k hk) hu.size⟩ (fun k hk => ?_)
  simp [ownR, blkOf] at hk
  subst hk
  rcases hat with hat | hat
  · exact .inl (hv _ hat)
  · exact .inr (by omega)

theorem Own.row1 {W' : World} (h : Own B w0 W rs) (hu : Upd [] W W') (ho : W'.ownsRow W.heap.size E sz v n xs) : Own B w0 W' (ownR E sz v n xs :: rs) :=
  h.new hu ⟨[], ⟨owns_zero ho, rfl⟩, by simp, fun k hk => Nat.lt_of_lt_of_le (h.lt k hk) hu.size⟩ (fun k hk => by
    rcases ho.2 with ⟨rfl, _⟩ | ⟨g, cap, cur, rfl, hb, _⟩
    · simp [ownR, blkOf] at hk
    · simp [ownR, blkOf] at hk; omega)

/-- Such a row is a block whose first cells are known. -/
theorem ownR_seg {g cap : Nat} (h : (ownR E sz (.slice (some ⟨g, 0, none⟩) n cap) n xs).At w A) : (segR g E xs).At w A := by
  obtain ⟨D, ⟨h1, rfl⟩, h2, h3⟩ := h
  rcases h1.2 with ⟨h', _⟩ | ⟨g', cap', cur, h', hb, hg, hnc, hcm, hcs, htake⟩
  · simp at h'
  · simp only [Value.slice.injEq, Option.some.injEq, Addr.mk.injEq, and_true, true_and] at h'
    obtain ⟨rfl, rfl⟩ := h'
    refine ⟨[], ⟨⟨cur, hg, by rw [h1.1, hcs]; exact Nat.mul_le_mul_right _ hnc, fun j hj => ?_⟩, rfl⟩, by simp, h3⟩
    rw [← htake, List.getElem?_take_of_lt (by rw [h1.1] at hj; exact hj)]
    simp

end

/-! ### Lists of cells -/

theorem flat_set {α : Type} {cells : α → List Value} {sz : Nat} (hl : ∀ x, (cells x).length = sz) : ∀ (xs : List α) (i r : Nat) (x y : α) (v : Value), xs[i]? = some x → r < sz → cells y = (cells x).set r v → (xs.flatMap cells).set (i * sz + r) v = (xs.set i y).flatMap cells
  | [], i, r, x, y, v, h, _, _ => by simp at h
  | z :: xs, 0, r, x, y, v, h, hr, hy => by
    simp at h
    subst h
    simp only [List.flatMap_cons, List.set_cons_zero, Nat.zero_mul, Nat.zero_add]
    rw [List.set_append_left _ _ (by rw [hl]; exact hr), hy]
  | z :: xs, i + 1, r, x, y, v, h, hr, hy => by
    simp only [List.flatMap_cons, List.set_cons_succ]
    rw [List.set_append_right _ _ (by rw [hl, Nat.succ_mul]; omega), hl, show (i + 1) * sz + r - sz = i * sz + r by rw [Nat.succ_mul]; omega, flat_set hl xs i r x y v (by simpa using h) hr hy]

end Go.Heap
