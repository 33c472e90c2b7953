/- psephoslaw14.do: an act of both. -/
import Derived.Test.YtdeadekeffficaaPlD
import Derived.Deep.RegionHeld3
import Derived.Deep.DeepCutAuto
import Derived.Deep.CutBlock
import Derived.Outline
namespace Go.Proofs.Ytdeadekeffficaa
open Go.RowKit Go.Heap

abbrev actO (a : Ac) : Obj := .cells #[.int .i64 a.act, .int .i64 a.kind, .int .i64 a.node, .int .i64 a.sl, .int .i64 a.which, a.b] 50 (0, 0)

theorem act_box {w : World} {b : Nat} {a : Ac} (h : w.heap[b]? = some (actO a)) : w.cell? ⟨b, 0, none⟩ = some (.int .i64 a.act) ∧ w.cell? ⟨b, 1, none⟩ = some (.int .i64 a.kind) ∧ w.cell? ⟨b, 2, none⟩ = some (.int .i64 a.node) ∧
    w.cell? ⟨b, 3, none⟩ = some (.int .i64 a.sl) ∧ w.cell? ⟨b, 4, none⟩ = some (.int .i64 a.which) ∧ w.cell? ⟨b, 5, none⟩ = some a.b :=
  ⟨by rw [block_cell h]; rfl, by rw [block_cell h]; rfl, by rw [block_cell h]; rfl, by rw [block_cell h]; rfl, by rw [block_cell h]; rfl, by rw [block_cell h]; rfl⟩

theorem act_bat {B : Nat} {w0 W : World} {rs : List Res} {v : Value} {l : List Rq} (h : Own B w0 W rs) (hB : B = w0.heap.size) (hb : Bat w0 v l) : Bat W v l := by
  subst hB
  exact hb.upd (Upd.of_below (M := []) h.below) (by simp)

theorem batchS_le (a : Ac) : (batchS a).length ≤ 3 := by
  unfold batchS
  split
  · simp
  · split
    · simp
    · simp; omega

theorem own_cp {B : Nat} {w0 W W' : World} {r1 r2 r3 r4 : Res} {rs : List Res} {v : Value} {l : List Rq} (h : Own B w0 W (r1 :: r2 :: r3 :: r4 :: rs)) (hu : Upd [] W W') (ho : W'.ownsRow W.heap.size 32 6 v l.length (rqsCells l)) :
    Own B w0 W' (r1 :: r2 :: r3 :: cpR v l :: r4 :: rs) := by
  have h1 : Own B w0 W' (cpR v l :: r1 :: r2 :: r3 :: r4 :: rs) := h.new hu ⟨[], ⟨⟨ho.1, ho.2.imp id fun ⟨g, cap, cur, e, hb, hg⟩ => ⟨g, cap, cur, e, Nat.zero_le _, hg⟩⟩, rfl⟩, by simp, fun k hk => Nat.lt_of_lt_of_le (h.lt k hk) hu.size⟩ (fun k hk => by
    rcases ho.2 with ⟨rfl, _⟩ | ⟨g, cap, cur, rfl, hb, _⟩
    · simp [cpR, blkOf] at hk
    · simp [cpR, blkOf] at hk; omega)
  exact h1.perm3

theorem doc_cells {w : World} {q : Nat} {b : Bool} {vb vp vc : Value} (h : w.heap[q]? = some (docO b vb vp vc)) : w.cell? ⟨q, 0, none⟩ = some (.bool b) ∧ w.cell? ⟨q, 1, none⟩ = some vb ∧ w.cell? ⟨q, 2, none⟩ = some vp ∧ w.cell? ⟨q, 3, none⟩ = some vc ∧ ∀ o, w.frozen? ⟨q, o, none⟩ = false :=
  ⟨by rw [block_cell h]; rfl, by rw [block_cell h]; rfl, by rw [block_cell h]; rfl, by rw [block_cell h]; rfl, block_frozen h⟩

/-- Behind an act: both go on, and the act's copy is the caller's own. -/
def DoS (B : Nat) (w0 w : World) (s f q : Nat) (v : Value) (n : Nat) (rs : List Res) : Prop :=
  ∃ L st vb vp vc, L.f = f ∧ L.s = s ∧ Own B w0 w (slotR L st :: blk q (docO st.has vb vp vc) :: docR vb vp vc st :: rowR 32 6 v n :: rs)

theorem doS_of {B : Nat} {w0 w : World} {s f q : Nat} {L : Loc} {st : Sl} {vb vp vc v : Value} {l : List Rq} {x : Res} {rs : List Res} {b : Bool} (hb : st.has = b) (h : Own B w0 w (slotR L st :: blk q (docO b vb vp vc) :: docR vb vp vc st :: cpR v l :: x :: rs)) (hf : L.f = f) (hs : L.s = s) : DoS B w0 w s f q v l.length rs := by
  subst hb
  have h1 := h.perm3'
  have h2 := h1.alter (r' := rowR 32 6 v l.length) (cpR_row h1.head) (fun k hk => hk)
  have h3 : Own B w0 w (x :: rowR 32 6 v l.length :: slotR L st :: blk q (docO st.has vb vp vc) :: docR vb vp vc st :: rs) := h2.perm (by
    refine List.Perm.trans ?_ (List.Perm.swap _ _ _)
    exact List.Perm.cons _ (List.perm_middle (l₁ := [_, _, _])))
  exact ⟨L, st, vb, vp, vc, hf, hs, h3.drop.perm3⟩

theorem docR_pre {w : World} {A : List Nat} {vb vp vc v : Value} {st : Sl} {l : List Rq} (h : (docR vb vp vc st).At w A) (hb : Bat w v l) (hA : ∀ k ∈ blkIf l.length v, k ∉ A) : (docR v vp vc { st with has := true, batch := l }).At w A := by
  obtain ⟨D, ⟨h1, h2⟩, h3, h4⟩ := h
  obtain ⟨pl, p1, p2⟩ := h1.p
  obtain ⟨cl, c1, c2⟩ := h1.c
  refine ⟨blkIf l.length v ++ D, ⟨⟨?_, ⟨pl, p1.mono (by simp +contextual), p2⟩, cl, c1.mono (by simp +contextual), c2⟩, fun k hk => ?_⟩, fun k hk => ?_, h4⟩
  · exact hb.lies.mono (by simp +contextual)
  · rcases List.mem_append.1 hk with hk | hk
    · exact Reads.lies_lt hb k hk
    · exact h2 k hk
  · rcases List.mem_append.1 hk with hk | hk
    · exact hA k hk
    · exact h3 k hk

theorem own_doc1 {B : Nat} {w0 w : World} {q : Nat} {o : Obj} {sr : Res} {st : Sl} {vb vp vc v : Value} {l : List Rq} {rs : List Res} (h : Own B w0 w (sr :: blk q o :: docR vb vp vc st :: rs)) (hb : Bat w v l) (hA : ∀ k ∈ blkIf l.length v, k ∉ Ms (docR vb vp vc st :: sr :: blk q o :: rs)) :
    Own B w0 w (sr :: blk q o :: docR v vp vc { st with has := true, batch := l } :: rs) :=
  (h.rot.alter (docR_pre h.rot.head hb hA) (fun _ hk => hk)).rot'

theorem refs_none : ∀ (n k : Nat), refs (List.replicate n noVt) k = []
  | 0, _ => rfl
  | n + 1, k => by
    rw [List.replicate_succ, refs, if_neg (by simp [noVt])]
    exact refs_none n (k + 1)

theorem own_doc0 {B : Nat} {w0 w : World} {q : Nat} {o : Obj} {sr : Res} {st : Sl} {vb vp vc : Value} {rs : List Res} (f : Nat) (h : Own B w0 w (sr :: blk q o :: docR vb vp vc st :: rs)) :
    Own B w0 w (sr :: blk q o :: docR (.slice none 0 0) (.slice none 0 0) (.slice none 0 0) (emptySl f) :: rs) := by
  refine (h.rot.alter (r' := docR (.slice none 0 0) (.slice none 0 0) (.slice none 0 0) (emptySl f)) ⟨[], ⟨⟨ReadsIn.nil _ _ _, ⟨[], ⟨ReadsIn.nil _ _ _, by simp⟩, ?_⟩, ⟨[], ⟨ReadsIn.nil _ _ _, by simp⟩, ?_⟩⟩, by simp⟩, by simp, fun k hk => h.rot.lt k hk⟩ (fun _ hk => hk)).rot'
  · simp [emptySl, refs_none]
  · simp [emptySl, refs_none]

theorem row_form {E sz n : Nat} {v : Value} {w : World} {A : List Nat} (h : (rowR E sz v n).At w A) : ∃ ao cap, v = .slice ao n cap := by
  obtain ⟨D, ⟨h1, _⟩, _, _⟩ := h
  rcases h1 with ⟨rfl, rfl⟩ | ⟨g, cap, cur, rfl, _⟩
  · exact ⟨none, 0, rfl⟩
  · exact ⟨_, cap, rfl⟩

theorem row_at {E sz n cap k : Nat} {ao : Option Addr} {w : World} {A : List Nat} (h : (rowR E sz (.slice ao n cap) n).At w A) (hk : k < n) : ∃ g cur, ao = some ⟨g, 0, none⟩ ∧ w.heap[g]? = some (.cells cur E (0, 0)) ∧ n * sz ≤ cur.size ∧ cap ≤ maxLen := by
  obtain ⟨D, ⟨h1, _⟩, _, _⟩ := h
  rcases h1 with ⟨h1, rfl⟩ | ⟨g, cap', cur, h1, h2, h3, h4, h5⟩
  · omega
  · simp only [Value.slice.injEq] at h1
    obtain ⟨rfl, -, rfl⟩ := h1
    exact ⟨g, cur, rfl, h2, by rw [h5]; exact Nat.mul_le_mul_right _ h3, h4⟩

theorem row_cells {w : World} {g E n : Nat} {cur : Array Value} (h : w.heap[g]? = some (.cells cur E (0, 0))) (hs : n ≤ cur.size) : ∀ j, j < n → ∃ x, w.cell? ⟨g, j, none⟩ = some x :=
  fun j hj => ⟨cur[j], by rw [block_cell h]; exact Array.getElem?_eq_getElem (by omega)⟩

theorem row_set {E sz n cap g : Nat} {w : World} {A : List Nat} (h : (rowR E sz (.slice (some ⟨g, 0, none⟩) n cap) n).At w A) (j : Nat) (v : Value) : (rowR E sz (.slice (some ⟨g, 0, none⟩) n cap) n).At (w.setCell ⟨g, j, none⟩ v) A := by
  obtain ⟨D, ⟨h1, rfl⟩, h2, h3⟩ := h
  refine ⟨[], ⟨?_, rfl⟩, by simp, fun k hk => by rw [hs_set]; exact h3 k hk⟩
  rcases h1 with ⟨h1, -⟩ | ⟨g', cap', cur, h1, hg, q1, q2, q3⟩
  · simp at h1
  · simp only [Value.slice.injEq, Option.some.injEq, Addr.mk.injEq, and_true, true_and] at h1
    obtain ⟨rfl, rfl⟩ := h1
    exact .inr ⟨g, cap, cur.setIfInBounds j v, rfl, by rw [hp_same rfl, hg]; rfl, q1, q2, by simpa using q3⟩

def inR (f : Nat) (n : Int) : Bool := decide (0 ≤ n) && decide (n < 3 * (f : Int) + 1)
theorem inR_yes {f : Nat} {n : Int} (h : 0 ≤ n) : inR f n = decide (n < 3 * (f : Int) + 1) := by simp [inR, h]
theorem inR_no {f : Nat} {n : Int} (h : ¬ 0 ≤ n) : inR f n = false := by simp [inR, h]

theorem inR_nat {f : Nat} {n : Int} (h : inR f n = true) : ∃ m : Nat, n = m ∧ m < 3 * f + 1 := by
  simp [inR] at h
  exact ⟨n.toNat, by omega, by omega⟩

theorem openB_out {l : List Vt} {f : Nat} {n : Int} (hl : l.length = 3 * f + 1) (h : inR f n = false) : openB l n = false := by
  unfold openB
  by_cases h0 : 0 ≤ n
  · rw [inR_yes h0] at h
    simp at h
    rw [List.getElem?_eq_none (by omega)]
    simp
  · simp [h0]

theorem canVote_out {st : Sl} {f : Nat} {kind n : Int} (hl : st.ps.length = 3 * f + 1 ∧ st.cs.length = 3 * f + 1) (h : inR f n = false) : canVote st kind n = false := by
  unfold canVote listOf
  split
  · exact openB_out hl.1 h
  · split
    · exact openB_out hl.2 h
    · simp [openB]

theorem voteS_no {st : Sl} {kind n sl : Int} {l : List Rq} (h : canVote st kind n = false) : voteS st kind n sl l = st := by
  unfold voteS; rw [h]; rfl

theorem new_three {w w3 : World} {a b c : Value} {T : TypeId} (h : Below (w.alloc (.cells #[a, b, c] T)).drew.heap.size (w.alloc (.cells #[a, b, c] T)).drew w3) :
    w3.cell? ⟨w.heap.size, 0, none⟩ = some a ∧ w3.cell? ⟨w.heap.size, 1, none⟩ = some b ∧ w3.cell? ⟨w.heap.size, 2, none⟩ = some c ∧ w3.frozen? ⟨w.heap.size, 0, none⟩ = false ∧ w3.frozen? ⟨w.heap.size, 1, none⟩ = false ∧ w3.frozen? ⟨w.heap.size, 2, none⟩ = false := by
  have hb : w3.heap[w.heap.size]? = some (.cells #[a, b, c] T (0, 0)) := (h.block _ (by rw [hs_drew, hs_alloc]; omega)).trans (heap_alloc_new w _)
  exact ⟨by rw [block_cell hb]; rfl, by rw [block_cell hb]; rfl, by rw [block_cell hb]; rfl, block_frozen hb _, block_frozen hb _, block_frozen hb _⟩

section
variable {w : World} {b c : Nat} {x0 x1 x2 x3 x4 x5 y0 y1 y2 : Value} {o : Obj}
theorem k6_alloc (h : b < w.heap.size) (k : w.cell? ⟨b, 0, none⟩ = some x0 ∧ w.cell? ⟨b, 1, none⟩ = some x1 ∧ w.cell? ⟨b, 2, none⟩ = some x2 ∧ w.cell? ⟨b, 3, none⟩ = some x3 ∧ w.cell? ⟨b, 4, none⟩ = some x4 ∧ w.cell? ⟨b, 5, none⟩ = some x5) :
    (w.alloc o).cell? ⟨b, 0, none⟩ = some x0 ∧ (w.alloc o).cell? ⟨b, 1, none⟩ = some x1 ∧ (w.alloc o).cell? ⟨b, 2, none⟩ = some x2 ∧ (w.alloc o).cell? ⟨b, 3, none⟩ = some x3 ∧ (w.alloc o).cell? ⟨b, 4, none⟩ = some x4 ∧ (w.alloc o).cell? ⟨b, 5, none⟩ = some x5 := by
  have e : ∀ i, (w.alloc o).cell? ⟨b, i, none⟩ = w.cell? ⟨b, i, none⟩ := fun i => World.cell?_of_block (heap_alloc_lt h)
  simp only [e]
  exact k
theorem k6_alloc' (h : b < w.heap.size) (k : w.drew.cell? ⟨b, 0, none⟩ = some x0 ∧ w.drew.cell? ⟨b, 1, none⟩ = some x1 ∧ w.drew.cell? ⟨b, 2, none⟩ = some x2 ∧ w.drew.cell? ⟨b, 3, none⟩ = some x3 ∧ w.drew.cell? ⟨b, 4, none⟩ = some x4 ∧ w.drew.cell? ⟨b, 5, none⟩ = some x5) :
    (w.alloc o).drew.cell? ⟨b, 0, none⟩ = some x0 ∧ (w.alloc o).drew.cell? ⟨b, 1, none⟩ = some x1 ∧ (w.alloc o).drew.cell? ⟨b, 2, none⟩ = some x2 ∧ (w.alloc o).drew.cell? ⟨b, 3, none⟩ = some x3 ∧ (w.alloc o).drew.cell? ⟨b, 4, none⟩ = some x4 ∧ (w.alloc o).drew.cell? ⟨b, 5, none⟩ = some x5 := k6_alloc (w := w) h k
theorem k6_sets (h : b ≠ c) (k : w.cell? ⟨b, 0, none⟩ = some x0 ∧ w.cell? ⟨b, 1, none⟩ = some x1 ∧ w.cell? ⟨b, 2, none⟩ = some x2 ∧ w.cell? ⟨b, 3, none⟩ = some x3 ∧ w.cell? ⟨b, 4, none⟩ = some x4 ∧ w.cell? ⟨b, 5, none⟩ = some x5) :
    (((w.setCell ⟨c, 0, none⟩ y0).setCell ⟨c, 1, none⟩ y1).setCell ⟨c, 2, none⟩ y2).cell? ⟨b, 0, none⟩ = some x0 ∧ (((w.setCell ⟨c, 0, none⟩ y0).setCell ⟨c, 1, none⟩ y1).setCell ⟨c, 2, none⟩ y2).cell? ⟨b, 1, none⟩ = some x1 ∧
    (((w.setCell ⟨c, 0, none⟩ y0).setCell ⟨c, 1, none⟩ y1).setCell ⟨c, 2, none⟩ y2).cell? ⟨b, 2, none⟩ = some x2 ∧ (((w.setCell ⟨c, 0, none⟩ y0).setCell ⟨c, 1, none⟩ y1).setCell ⟨c, 2, none⟩ y2).cell? ⟨b, 3, none⟩ = some x3 ∧
    (((w.setCell ⟨c, 0, none⟩ y0).setCell ⟨c, 1, none⟩ y1).setCell ⟨c, 2, none⟩ y2).cell? ⟨b, 4, none⟩ = some x4 ∧ (((w.setCell ⟨c, 0, none⟩ y0).setCell ⟨c, 1, none⟩ y1).setCell ⟨c, 2, none⟩ y2).cell? ⟨b, 5, none⟩ = some x5 := by
  have e : ∀ i, (((w.setCell ⟨c, 0, none⟩ y0).setCell ⟨c, 1, none⟩ y1).setCell ⟨c, 2, none⟩ y2).cell? ⟨b, i, none⟩ = w.cell? ⟨b, i, none⟩ := fun i => World.cell?_of_block (by rw [hp_other h, hp_other h, hp_other h])
  simp only [e]
  exact k
end

theorem own_batR {B : Nat} {w0 w : World} {v : Value} {l : List Rq} {rs : List Res} (h : Own B w0 w rs) (hb : Bat w v l) (hk : ∀ k ∈ blkIf l.length v, k ∉ Ms rs) : Own B w0 w (batR v l :: rs) :=
  h.new (Upd.refl [] _) ⟨blkIf l.length v, ⟨hb.lies, Reads.lies_lt hb⟩, hk, fun k hkA => h.lt k hkA⟩ (by simp [batR, imm])

theorem own_docp {B : Nat} {w0 w : World} {r1 r2 r3 r4 d : Res} {rs : List Res} (h : Own B w0 w (r1 :: r2 :: r3 :: r4 :: d :: rs)) : Own B w0 w (d :: r1 :: r2 :: r3 :: r4 :: rs) := h.perm (List.perm_middle (l₁ := [_, _, _, _]))
theorem own_docp' {B : Nat} {w0 w : World} {r1 r2 r3 r4 d : Res} {rs : List Res} (h : Own B w0 w (d :: r1 :: r2 :: r3 :: r4 :: rs)) : Own B w0 w (r1 :: r2 :: r3 :: r4 :: d :: rs) := h.perm (List.perm_middle (l₁ := [_, _, _, _])).symm

section
variable {st : Sl} {kind node : Int} {m : Nat}
theorem can_no4 (hk : kind = 4) (hn : node = m) (hm : m < st.ps.length) (hh : st.ps[m].has = true) : canVote st kind node = false := by
  subst hk hn; simp [canVote, listOf, openB, hm, hh]
theorem can_no5 (hk : kind = 5) (hn : node = m) (hm : m < st.cs.length) (hh : st.cs[m].has = true) : canVote st kind node = false := by
  subst hk hn; simp [canVote, listOf, openB, hm, hh]
theorem can_yes4 (hk : kind = 4) (hn : node = m) (hm : m < st.ps.length) (hh : st.ps[m].has = false) : canVote st kind node = true := by
  subst hk hn; simp [canVote, listOf, openB, hm, hh]
theorem can_yes5 (hk : kind = 5) (hn : node = m) (hm : m < st.cs.length) (hh : st.cs[m].has = false) : canVote st kind node = true := by
  subst hk hn; simp [canVote, listOf, openB, hm, hh]
theorem vote_yes4 (hk : kind = 4) (hn : node = m) (hm : m < st.ps.length) (hh : st.ps[m].has = false) (sl : Int) (l : List Rq) : voteS st kind node sl l = { st with ps := st.ps.set m ⟨true, sl, l⟩ } := by
  unfold voteS; rw [can_yes4 hk hn hm hh]; subst hk hn; simp
theorem vote_yes5 (hk : kind = 5) (hn : node = m) (hm : m < st.cs.length) (hh : st.cs[m].has = false) (sl : Int) (l : List Rq) : voteS st kind node sl l = { st with cs := st.cs.set m ⟨true, sl, l⟩ } := by
  unfold voteS; rw [can_yes5 hk hn hm hh]; subst hk hn; simp
theorem can_other (h4 : kind ≠ 4) (h5 : kind ≠ 5) : canVote st kind node = false := by
  simp [canVote, listOf, openB, h4, h5]
end

theorem mem_parts {α : Type} {l : List α} {i : Nat} {r : α} : ∀ x ∈ l.take i ++ r :: l.drop i, x ∈ l ∨ x = r := by
  intro x hx
  rcases List.mem_append.1 hx with hx | hx
  · exact .inl (List.mem_of_mem_take hx)
  · rcases List.mem_cons.1 hx with rfl | hx
    · exact .inr rfl
    · exact .inl (List.mem_of_mem_drop hx)

theorem rvs_form {w : World} {u : Value} {l : List Rv} (h : RVs w u l) : ∃ ao n cap, u = .slice ao n cap := let ⟨ao, cap, hv, _⟩ := h.1; ⟨ao, _, cap, hv⟩

/-- What an act's batch lies in is nobody's own. -/
theorem batch_out {B : Nat} {w0 w w' : World} {a : Ac} {v : Value} {rs : List Res} (h : Own B w0 w rs) (hB : B = w0.heap.size) (ha : Bat w0 a.b a.rs) (hk : ∀ k ∈ blkIf (batchS a).length v, (w.heap.size ≤ k ∧ k < w'.heap.size) ∨ k ∈ blkIf a.rs.length a.b) : ∀ k ∈ blkIf (batchS a).length v, k ∉ Ms rs := by
  intro k hkv
  rcases hk k hkv with hk | hk
  · exact h.fresh hk.1
  · exact h.elder (by rw [hB]; exact Reads.lies_lt ha k hk)

set_option maxHeartbeats 2000000 in
set_option maxRecDepth 100000 in
theorem do_any {B : Nat} {w0 W : World} {L : Loc} {st : Sl} {q : Nat} {vb vp vc : Value} {rs : List Res} (a : Ac) (h : Own B w0 W (slotR L st :: blk q (docO st.has vb vp vc) :: docR vb vp vc st :: rs)) (f : Nat) (hf : L.f = f) (hf1 : 1 ≤ f) (hf2 : f ≤ 4)
    (hB : B = w0.heap.size) (ha : Bat w0 a.b a.rs) :
    Calls Try.prog 30 #[L.ptr, .pointer (some ⟨q, 0, none⟩), .int .i64 f, .agg #[.int .i64 a.act, .int .i64 a.kind, .int .i64 a.node, .int .i64 a.sl, .int .i64 a.which, a.b]] W fun e w' =>
      e = .returned (.bool true) ∧ ∃ L' st' vb' vp' vc', L'.f = f ∧ L'.s = L.s ∧ Own B w0 w' (slotR L' st' :: blk q (docO st'.has vb' vp' vc') :: docR vb' vp' vc' st' :: rs) := by
  have H := Lib.hid h
  have HF := Lib.hid hf
  have HB := Lib.hid hB
  have HA := Lib.hid ha
  clear h hf hB ha
  have H1 := Lib.hid (H.out.box (actO a)).perm3
  go_enter Try.func30, Try.ntmps30
  go_wp2_with fail
  have HA1 := Lib.hid (act_bat H1.out HB.out HA.out)
  refine (batch_any a _ HA1.out).mono ?_
  rintro e w1 ⟨v1, rfl, hb1, bat1, bl1⟩
  have H2 := Lib.hid (H1.out.to hb1)
  have T1 := Lib.hid bat1
  have hsl := batchS_le a
  clear hb1 bat1 bl1
  go_wp2_with fail
  refine (copyR_own v1 (batchS a) _ (by omega) T1.out).mono ?_
  rintro e w2 ⟨v2, rfl, hu2, own2⟩
  have H3 := Lib.hid (own_cp H2.out hu2 own2)
  clear hu2 own2 T1 H1 H2 HA1
  obtain ⟨b0, b1, b2, b3, b4, b5⟩ := act_box H3.out.drop.drop.drop.drop.blk_out
  go_wp2_with fail
  refine (Within_any a.act 10 _ (by omega) (by omega)).mono ?_
  rintro e w' ⟨rfl, rfl⟩
  obtain ⟨k1, k2⟩ := emod_in a.act 10 (by omega)
  generalize a.act % 10 = k at *
  go_upto_block 0 with fail
  go_cut [10] (fun ok wx => ok = .bool true ∧ Hid (DoS B w0 wx L.s f q v2 (batchS a).length rs))
  case first =>
    obtain ⟨c0, c1, c2, c3, fz⟩ := doc_cells H3.out.drop.blk_out
    have T3 := Lib.hid (cpR_bat H3.out.drop.drop.drop.head)
    have fz0 := fz 0
    have fz1 := fz 1
    have fz2 := fz 2
    have fz3 := fz 3
    clear fz
    by_cases hk0 : k = 0
    · have hkb : (k == 0) = true := by simp [hk0]
      clear hk0 k1 k2
      by_cases hh : st.has = true
      · rw [hh] at c0
        have HH := Lib.hid hh
        clear hh
        go_wp2_with fail
        refine (own_pre H3.out v2 (batchS a) T3.out (by omega)).mono ?_
        rintro e w4 ⟨rfl, -, h4⟩
        rw [HH.out, if_pos rfl] at h4
        rw [HH.out]
        have H4 := Lib.hid h4
        clear h4
        go_wp2_with fail
        go_meet
        exact ⟨rfl, Lib.hid (doS_of HH.out H4.out HF.out rfl)⟩
      · have hh' : st.has = false := by simpa using hh
        rw [hh'] at c0
        have HH := Lib.hid hh'
        clear hh hh'
        have HA3 := Lib.hid (act_bat H3.out HB.out HA.out)
        go_wp2_with fail
        refine (batch_any a _ HA3.out).mono ?_
        rintro e w3 ⟨v3, rfl, hb3, bat3, bl3⟩
        obtain ⟨ao3, cap3, rfl⟩ := bat_form bat3
        have BO := Lib.hid (batch_out H3.out.rot HB.out HA.out bl3)
        have H4 := Lib.hid (own_doc1 (H3.out.to hb3) bat3 BO.out)
        clear hb3 bat3 bl3 c0 c1 c2 c3 fz0 fz1 fz2 fz3 b0 b1 b2 b3 b4 b5 HA3 T3 BO
        obtain ⟨c0, c1, -, -, fz⟩ := doc_cells H4.out.drop.blk_out
        have fz0 := fz 0
        have fz1 := fz 1
        rw [HH.out] at c0
        clear fz
        go_wp2_with fail
        have H5 := Lib.hid (((H4.out.swap.store 0 (.bool true)).store 1 (.slice ao3 (batchS a).length cap3)).swap)
        have T5 := Lib.hid (cpR_bat H5.out.drop.drop.drop.head)
        generalize (w3.setCell { block := q, off := 0 } (.bool true)).setCell { block := q, off := 1 } (.slice ao3 (batchS a).length cap3) = w5 at *
        clear c0 c1 fz0 fz1
        refine (own_pre H5.out v2 (batchS a) T5.out (by omega)).mono ?_
        rintro e w6 ⟨rfl, -, h6⟩
        rw [HH.out, if_neg (by simp)] at h6
        rw [HH.out]
        have H6 := Lib.hid h6
        clear h6
        go_wp2_with fail
        go_meet
        exact ⟨rfl, Lib.hid (doS_of (st := { st with has := true, batch := batchS a }) rfl H6.out HF.out rfl)⟩
    · have hkb : (k == 0) = false := by simp [hk0]
      by_cases hk9 : k < 9
      · have hk9b : decide (k < 9) = true := by simp [hk9]
        clear hk0 hk9 k1 k2
        go_upto_if 61 with fail
        go_cut [61] (fun t wx => t = .bool (inR f a.node) ∧ Hid (Own B w0 wx (slotR L st :: blk q (docO st.has vb vp vc) :: docR vb vp vc st :: cpR v2 (batchS a) :: blk W.heap.size (actO a) :: rs)))
        case first =>
          by_cases h0 : 0 ≤ a.node
          · have hd : decide (0 ≤ a.node) = true := by simp [h0]
            have b2d : w2.drew.cell? ⟨W.heap.size, 2, none⟩ = some (.int .i64 a.node) := b2
            go_region_held3 (fun w' => w'.cell? ⟨W.heap.size, 2, none⟩ = some (.int .i64 a.node)) (with_reducible exact b2d)
              ((go_at_call 21; refine (rnodes_any f _ (by omega) (by omega)).mono ?_; rintro e w' ⟨rfl, rfl⟩))
            go_wp2_with fail
            go_meet
            refine ⟨?_, Lib.hid (H3.out.drew)⟩
            rw [inR_yes h0]
          · have hd : decide (0 ≤ a.node) = false := by simp; omega
            go_quiet (fail)
            go_wp2_with fail
            go_meet
            refine ⟨?_, Lib.hid (H3.out.upd0 ((Upd.refl _ _).drewN _))⟩
            rw [inR_no (by omega)]
        case rest =>
          obtain ⟨rfl, H4⟩ := hcut
          clear H3 b0 b1 b2 b3 b4 b5 c0 c1 c2 c3 fz0 fz1 fz2 fz3 T3
          have T4 := Lib.hid (cpR_bat H4.out.drop.drop.drop.head)
          cases hir : inR f a.node
          · have HCV := Lib.hid (canVote_out (st := st) (f := f) (kind := a.kind) ⟨by rw [← HF.out]; exact (own_small H4.out).2.2.2.1, by rw [← HF.out]; exact (own_small H4.out).2.2.2.2⟩ hir)
            clear hir
            obtain ⟨b0, b1, b2, b3, b4, b5⟩ := act_box H4.out.drop.drop.drop.drop.blk_out
            go_wp2_with fail
            refine (own_vote H4.out a.kind a.node a.sl v2 (batchS a) T4.out (by omega)).mono ?_
            rintro e w5 ⟨rfl, -, h5⟩
            rw [voteS_no HCV.out] at h5
            rw [HCV.out]
            have H5 := Lib.hid h5
            clear h5
            go_wp2_with fail
            go_meet
            exact ⟨rfl, Lib.hid (doS_of rfl H5.out HF.out rfl)⟩
          · have HIR := Lib.hid hir
            clear hir
            go_upto_region 14 with fail
            go_cut [14] (fun p wx => ∃ vx ao3 cap3, p = .pointer (some ⟨vx, 0, none⟩) ∧ Hid (Own B w0 wx (blk vx (.cells #[.int .i64 a.node, .int .i64 a.sl, .slice ao3 (batchS a).length cap3] 113 (0, 0)) :: batR (.slice ao3 (batchS a).length cap3) (batchS a) :: slotR L st :: blk q (docO st.has vb vp vc) :: docR vb vp vc st :: cpR v2 (batchS a) :: blk W.heap.size (actO a) :: rs)))
            case first =>
              obtain ⟨b0, b1, b2, b3, b4, b5⟩ := act_box H4.out.drop.drop.drop.drop.drew.blk_out
              have HA4 := Lib.hid (act_bat H4.out.drew HB.out HA.out)
              have hltc := block_lt H4.out.drop.drop.drop.drop.blk_out
              have HAW := Lib.hid (fun o => act_bat (H4.out.alloc o).drew HB.out HA.out)
              go_region_held3 (fun w' => w'.cell? ⟨W.heap.size, 0, none⟩ = some (.int .i64 a.act) ∧ w'.cell? ⟨W.heap.size, 1, none⟩ = some (.int .i64 a.kind) ∧ w'.cell? ⟨W.heap.size, 2, none⟩ = some (.int .i64 a.node) ∧ w'.cell? ⟨W.heap.size, 3, none⟩ = some (.int .i64 a.sl) ∧ w'.cell? ⟨W.heap.size, 4, none⟩ = some (.int .i64 a.which) ∧ w'.cell? ⟨W.heap.size, 5, none⟩ = some a.b)
                (first | (with_reducible exact ⟨d0, d1, d2, d3, d4, d5⟩) | (with_reducible exact ⟨b0, b1, b2, b3, b4, b5⟩) | (with_reducible exact k6_alloc (by omega) ⟨d0, d1, d2, d3, d4, d5⟩) | (with_reducible exact k6_alloc' (by omega) ⟨b0, b1, b2, b3, b4, b5⟩) | (with_reducible exact k6_sets (by omega) ⟨d0, d1, d2, d3, d4, d5⟩))
                (first | (go_at_call 60; refine (batch_any a _ (by first | exact HA4.out | exact HAW.out _)).mono ?_; rintro e w3 ⟨v3, rfl, hb3, bat3, bl3⟩; obtain ⟨ao3, cap3, rfl⟩ := bat_form bat3; first | (have hx := new_three hb3; obtain ⟨x0, x1, x2, g0, g1, g2⟩ := hx; have H5b := Lib.hid (own_batR ((H4.out.box _).drew.to hb3) bat3 (batch_out (H4.out.box _).drew HB.out HA.out bl3)); have H5 := Lib.hid H5b.out.drop.drop; clear bat3 bl3; obtain ⟨d0, d1, d2, d3, d4, d5⟩ := act_box H5.out.drop.drop.drop.drop.blk_out; have hlt3 := block_lt H5.out.drop.drop.drop.drop.blk_out) | (have H5a := Lib.hid (own_batR (H4.out.drew.to hb3) bat3 (batch_out H4.out.drew HB.out HA.out bl3)); have H5 := Lib.hid H5a.out.drop; clear bat3 bl3; obtain ⟨d0, d1, d2, d3, d4, d5⟩ := act_box H5.out.drop.drop.drop.drop.blk_out; have hlt3 := block_lt H5.out.drop.drop.drop.drop.blk_out)))
              all_goals go_wp2_with fail
              all_goals go_meet
              all_goals refine ⟨_, ao3, cap3, rfl, Lib.hid ?_⟩
              · exact H5a.out.box _
              · exact ((H5b.out.swap.store 0 _).store 1 _).store 2 _
            case rest =>
              obtain ⟨vx, ao3, cap3, rfl, H5⟩ := hcut
              clear H4 T4
              obtain ⟨m, hme, hm⟩ := inR_nat HIR.out
              obtain ⟨-, -, -, hpl, hcl⟩ := own_small H5.out.drop.drop
              rw [HF.out] at hpl hcl
              have hxb := H5.out.blk_out
              have x0 : wc.cell? ⟨vx, 0, none⟩ = some (.int .i64 a.node) := by rw [block_cell hxb]; rfl
              have x1 : wc.cell? ⟨vx, 1, none⟩ = some (.int .i64 a.sl) := by rw [block_cell hxb]; rfl
              have x2 : wc.cell? ⟨vx, 2, none⟩ = some (.slice ao3 (batchS a).length cap3) := by rw [block_cell hxb]; rfl
              obtain ⟨b0, b1, b2, b3, b4, b5⟩ := act_box H5.out.drop.drop.drop.drop.drop.drop.blk_out
              obtain ⟨c0, c1, c2, c3, fz⟩ := doc_cells H5.out.drop.drop.drop.blk_out
              clear hxb HIR
              by_cases hk4 : a.kind = 4
              · skip
                have hkb4 : (a.kind == 4) = true := by simp [hk4]
                have H5p := Lib.hid (own_docp H5.out.drew)
                obtain ⟨pl, p1, p2, pb⟩ := docR_ps H5p.out.head
                have hln := rv_len13 p2
                have hlen : m < st.ps.length := by omega
                obtain ⟨aop, capp, hvp, -⟩ := id p1.1
                have HP1 := Lib.hid p1
                have HPB := Lib.hid pb
                clear p1 pb
                cases hh : st.ps[m].has
                · obtain ⟨i, hi, hdn, hup, hmap⟩ := ref_yes p2 hlen hh a.sl (batchS a)
                  have HCV := Lib.hid (can_yes4 (st := st) hk4 hme hlen hh)
                  have HVS := Lib.hid (vote_yes4 (st := st) hk4 hme hlen hh a.sl (batchS a))
                  have HMP := Lib.hid hmap
                  have HAD := Lib.hid (add_yes vp (.slice ao3 (batchS a).length cap3) pl a.node a.sl (batchS a) _ (by omega) HP1.out (batR_out H5p.out.drop.drop.head) (by omega) i hi (fun j hj hji => by rw [hme]; exact hdn j hj hji) (fun j hj hji => by rw [hme]; exact hup j hj hji))
                  have HME := Lib.hid hme
                  clear hdn hup hmap hh p2 hme hk4
                  subst hvp
                  go_wp2_with fail
                  refine Mix.wp_text2 (by kernel_rfl) (by kernel_rfl) ?_
                  go_wp2_with fail
                  refine HAD.out.mono ?_
                  rintro e w6 ⟨u, rfl, hb6, hr6, hn6⟩
                  have h6 := own_docp' ((H5p.out.to hb6).alter (HPB.out w6 u ⟨a.node, a.sl, .slice ao3 (batchS a).length cap3, batchS a⟩ _ (voteS st a.kind a.node a.sl (batchS a)) (Upd.of_below hb6) ((H5p.out.to hb6).all _ (List.mem_cons_of_mem _ (List.mem_cons_of_mem _ List.mem_cons_self))).1 hr6 mem_parts
                    (by rw [HVS.out, HME.out]; exact HMP.out _) (by rw [HVS.out]) (by rw [HVS.out]; rfl) (fun k hk => H5p.out.fresh (hn6 k hk).1)) (fun _ hk => hk))
                  have H6 := Lib.hid h6.drop.drop
                  obtain ⟨aou, nu, capu, hu⟩ := rvs_form hr6
                  subst hu
                  clear hb6 hn6 h6 hr6
                  obtain ⟨c0, c1, c2, c3, fz⟩ := doc_cells H6.out.drop.blk_out
                  have fz2 := fz 2
                  clear fz
                  go_wp2_with fail
                  refine ⟨by rfl, ?_⟩
                  have H7 := Lib.hid ((H6.out.swap.store 2 (.slice aou nu capu)).swap)
                  generalize w6.setCell ⟨q, 2, none⟩ (.slice aou nu capu) = w7 at *
                  have T7 := Lib.hid (cpR_bat H7.out.drop.drop.drop.head)
                  obtain ⟨b0, b1, b2, b3, b4, b5⟩ := act_box H7.out.drop.drop.drop.drop.blk_out
                  clear c0 c1 c2 c3 H6 fz2
                  go_wp2_with fail
                  refine (own_vote H7.out a.kind a.node a.sl v2 (batchS a) T7.out (by omega)).mono ?_
                  rintro e w8 ⟨rfl, -, h8⟩
                  rw [HCV.out]
                  have H8 := Lib.hid h8
                  clear h8
                  go_wp2_with fail
                  go_meet
                  exact ⟨rfl, Lib.hid (doS_of (by rw [HVS.out]) H8.out HF.out rfl)⟩
                · obtain ⟨i, hi, hn, hup⟩ := ref_no p2 hlen hh
                  have HCV := Lib.hid (can_no4 (st := st) hk4 hme hlen hh)
                  have HAD := Lib.hid (add_no vp (.slice ao3 (batchS a).length cap3) pl a.node a.sl (batchS a) _ (by omega) HP1.out (batR_out H5p.out.drop.drop.head) i hi (by rw [hn, hme]) (fun j hj hij => by rw [hme]; exact hup j hj hij))
                  clear hn hup hh p2 hme hk4
                  subst hvp
                  go_wp2_with fail
                  refine Mix.wp_text2 (by kernel_rfl) (by kernel_rfl) ?_
                  go_wp2_with fail
                  refine HAD.out.mono ?_
                  rintro e w6 ⟨rfl, hb6⟩
                  have H6 := Lib.hid (H5.out.drew.to hb6).drop.drop
                  clear hb6
                  obtain ⟨c0, c1, c2, c3, fz⟩ := doc_cells H6.out.drop.blk_out
                  have fz2 := fz 2
                  clear fz
                  go_wp2_with fail
                  refine ⟨by rfl, ?_⟩
                  have H7 := Lib.hid ((H6.out.swap.store 2 (.slice aop pl.length capp)).swap)
                  generalize w6.setCell ⟨q, 2, none⟩ (.slice aop pl.length capp) = w7 at *
                  have T7 := Lib.hid (cpR_bat H7.out.drop.drop.drop.head)
                  obtain ⟨b0, b1, b2, b3, b4, b5⟩ := act_box H7.out.drop.drop.drop.drop.blk_out
                  clear c0 c1 c2 c3 H6 fz2
                  go_wp2_with fail
                  refine (own_vote H7.out a.kind a.node a.sl v2 (batchS a) T7.out (by omega)).mono ?_
                  rintro e w8 ⟨rfl, -, h8⟩
                  rw [voteS_no HCV.out] at h8
                  rw [HCV.out]
                  have H8 := Lib.hid h8
                  clear h8
                  go_wp2_with fail
                  go_meet
                  exact ⟨rfl, Lib.hid (doS_of rfl H8.out HF.out rfl)⟩
              by_cases hk5 : a.kind = 5
              · skip
                have hkb4 : (a.kind == 4) = false := by simp [hk4]
                have hkb5 : (a.kind == 5) = true := by simp [hk5]
                have H5p := Lib.hid (own_docp H5.out.drew)
                obtain ⟨pl, p1, p2, pb⟩ := docR_cs H5p.out.head
                have hln := rv_len13 p2
                have hlen : m < st.cs.length := by omega
                obtain ⟨aop, capp, hvp, -⟩ := id p1.1
                have HP1 := Lib.hid p1
                have HPB := Lib.hid pb
                clear p1 pb
                cases hh : st.cs[m].has
                · obtain ⟨i, hi, hdn, hup, hmap⟩ := ref_yes p2 hlen hh a.sl (batchS a)
                  have HCV := Lib.hid (can_yes5 (st := st) hk5 hme hlen hh)
                  have HVS := Lib.hid (vote_yes5 (st := st) hk5 hme hlen hh a.sl (batchS a))
                  have HMP := Lib.hid hmap
                  have HAD := Lib.hid (add_yes vc (.slice ao3 (batchS a).length cap3) pl a.node a.sl (batchS a) _ (by omega) HP1.out (batR_out H5p.out.drop.drop.head) (by omega) i hi (fun j hj hji => by rw [hme]; exact hdn j hj hji) (fun j hj hji => by rw [hme]; exact hup j hj hji))
                  have HME := Lib.hid hme
                  clear hdn hup hmap hh p2 hme hk5
                  subst hvp
                  go_wp2_with fail
                  refine Mix.wp_text2 (by kernel_rfl) (by kernel_rfl) ?_
                  go_wp2_with fail
                  refine HAD.out.mono ?_
                  rintro e w6 ⟨u, rfl, hb6, hr6, hn6⟩
                  have h6 := own_docp' ((H5p.out.to hb6).alter (HPB.out w6 u ⟨a.node, a.sl, .slice ao3 (batchS a).length cap3, batchS a⟩ _ (voteS st a.kind a.node a.sl (batchS a)) (Upd.of_below hb6) ((H5p.out.to hb6).all _ (List.mem_cons_of_mem _ (List.mem_cons_of_mem _ List.mem_cons_self))).1 hr6 mem_parts
                    (by rw [HVS.out, HME.out]; exact HMP.out _) (by rw [HVS.out]) (by rw [HVS.out]; rfl) (fun k hk => H5p.out.fresh (hn6 k hk).1)) (fun _ hk => hk))
                  have H6 := Lib.hid h6.drop.drop
                  obtain ⟨aou, nu, capu, hu⟩ := rvs_form hr6
                  subst hu
                  clear hb6 hn6 h6 hr6
                  obtain ⟨c0, c1, c2, c3, fz⟩ := doc_cells H6.out.drop.blk_out
                  have fz3 := fz 3
                  clear fz
                  go_wp2_with fail
                  refine ⟨by rfl, ?_⟩
                  have H7 := Lib.hid ((H6.out.swap.store 3 (.slice aou nu capu)).swap)
                  generalize w6.setCell ⟨q, 3, none⟩ (.slice aou nu capu) = w7 at *
                  have T7 := Lib.hid (cpR_bat H7.out.drop.drop.drop.head)
                  obtain ⟨b0, b1, b2, b3, b4, b5⟩ := act_box H7.out.drop.drop.drop.drop.blk_out
                  clear c0 c1 c2 c3 H6 fz3
                  go_wp2_with fail
                  refine (own_vote H7.out a.kind a.node a.sl v2 (batchS a) T7.out (by omega)).mono ?_
                  rintro e w8 ⟨rfl, -, h8⟩
                  rw [HCV.out]
                  have H8 := Lib.hid h8
                  clear h8
                  go_wp2_with fail
                  go_meet
                  exact ⟨rfl, Lib.hid (doS_of (by rw [HVS.out]) H8.out HF.out rfl)⟩
                · obtain ⟨i, hi, hn, hup⟩ := ref_no p2 hlen hh
                  have HCV := Lib.hid (can_no5 (st := st) hk5 hme hlen hh)
                  have HAD := Lib.hid (add_no vc (.slice ao3 (batchS a).length cap3) pl a.node a.sl (batchS a) _ (by omega) HP1.out (batR_out H5p.out.drop.drop.head) i hi (by rw [hn, hme]) (fun j hj hij => by rw [hme]; exact hup j hj hij))
                  clear hn hup hh p2 hme hk5
                  subst hvp
                  go_wp2_with fail
                  refine Mix.wp_text2 (by kernel_rfl) (by kernel_rfl) ?_
                  go_wp2_with fail
                  refine HAD.out.mono ?_
                  rintro e w6 ⟨rfl, hb6⟩
                  have H6 := Lib.hid (H5.out.drew.to hb6).drop.drop
                  clear hb6
                  obtain ⟨c0, c1, c2, c3, fz⟩ := doc_cells H6.out.drop.blk_out
                  have fz3 := fz 3
                  clear fz
                  go_wp2_with fail
                  refine ⟨by rfl, ?_⟩
                  have H7 := Lib.hid ((H6.out.swap.store 3 (.slice aop pl.length capp)).swap)
                  generalize w6.setCell ⟨q, 3, none⟩ (.slice aop pl.length capp) = w7 at *
                  have T7 := Lib.hid (cpR_bat H7.out.drop.drop.drop.head)
                  obtain ⟨b0, b1, b2, b3, b4, b5⟩ := act_box H7.out.drop.drop.drop.drop.blk_out
                  clear c0 c1 c2 c3 H6 fz3
                  go_wp2_with fail
                  refine (own_vote H7.out a.kind a.node a.sl v2 (batchS a) T7.out (by omega)).mono ?_
                  rintro e w8 ⟨rfl, -, h8⟩
                  rw [voteS_no HCV.out] at h8
                  rw [HCV.out]
                  have H8 := Lib.hid h8
                  clear h8
                  go_wp2_with fail
                  go_meet
                  exact ⟨rfl, Lib.hid (doS_of rfl H8.out HF.out rfl)⟩
              have hkb4 : (a.kind == 4) = false := by simp [hk4]
              have hkb5 : (a.kind == 5) = false := by simp [hk5]
              have HCV := Lib.hid (can_other (st := st) (node := a.node) hk4 hk5)
              have H7 := Lib.hid H5.out.drop.drop
              have T7 := Lib.hid (cpR_bat H7.out.drop.drop.drop.head)
              clear hme c0 c1 c2 c3 fz x0 x1 x2 hk4 hk5
              go_wp2_with fail
              refine (own_vote H7.out a.kind a.node a.sl v2 (batchS a) T7.out (by omega)).mono ?_
              rintro e w8 ⟨rfl, -, h8⟩
              rw [voteS_no HCV.out] at h8
              rw [HCV.out]
              have H8 := Lib.hid h8
              clear h8
              go_wp2_with fail
              go_meet
              exact ⟨rfl, Lib.hid (doS_of rfl H8.out HF.out rfl)⟩
      · have hk9b : decide (k < 9) = false := by simp; omega
        clear hk0 hk9 k1 k2 T3 b0 b1 b2 b3 b4 b5
        go_wp2_with fail
        have H5 := Lib.hid (own_doc0 L.f ((((((H3.out.swap.store 0 (.bool false)).store 1 (.slice none 0 0)).store 2 (.slice none 0 0)).store 3 (.slice none 0 0)).swap)))
        clear H3 c0 c1 c2 c3 fz0 fz1 fz2 fz3
        refine (own_reset H5.out).mono ?_
        rintro e w4 ⟨L', rfl, hf', hs', -, h4⟩
        have HS' := Lib.hid hs'
        clear hs'
        have H4 := Lib.hid h4
        have HF' := Lib.hid (hf'.trans HF.out)
        clear h4 H5 hf'
        go_wp2_with fail
        go_meet
        exact ⟨rfl, Lib.hid (doS_of (L := L') (st := emptySl L.f) rfl H4.out HF'.out HS'.out)⟩
  case rest =>
    obtain ⟨rfl, HD⟩ := hcut
    clear H3 b0 b1 b2 b3 b4 b5
    obtain ⟨L1, st1, vb1, vp1, vc1, hf', hs', h1⟩ := HD.out
    have hrow := row_form h1.drop.drop.drop.head
    obtain ⟨ao2, cap2, rfl⟩ := hrow
    have HF1 := Lib.hid hf'
    have HS1 := Lib.hid hs'
    clear hs'
    have H1 := Lib.hid h1
    clear hf' h1 HD H
    go_wp2_with fail
    go_loopw [112] (fun i wr => ∃ k : Nat, k ≤ (batchS a).length ∧ i = .int .i64 k ∧ Hid (Own B w0 wr (slotR L1 st1 :: blk q (docO st1.has vb1 vp1 vc1) :: docR vb1 vp1 vc1 st1 :: rowR 32 6 (.slice ao2 (batchS a).length cap2) (batchS a).length :: rs))) (fun i _ => (batchS a).length - (intOf i).toNat)
    case atStart => exact ⟨0, by omega, rfl, H1⟩
    case round =>
      obtain ⟨k, hk, rfl, H2⟩ := hrel
      by_cases hlt : k < (batchS a).length
      · have hkI : (k : Int) < ((batchS a).length : Int) := by omega
        obtain ⟨g, cur, rfl, hg, hsz, hcap⟩ := row_at H2.out.drop.drop.drop.head hlt
        have fz := fun o => block_frozen hg o
        have hc := row_cells hg hsz
        obtain ⟨x0, c0⟩ := hc (k * 6) (by omega)
        obtain ⟨x1, c1⟩ := hc (k * 6 + 1) (by omega)
        obtain ⟨x2, c2⟩ := hc (k * 6 + 2) (by omega)
        obtain ⟨x3, c3⟩ := hc (k * 6 + 3) (by omega)
        obtain ⟨x4, c4⟩ := hc (k * 6 + 4) (by omega)
        obtain ⟨x5, c5⟩ := hc (k * 6 + 5) (by omega)
        clear hc hg
        go_wp2_with fail
        go_roundw
        case rel =>
          refine ⟨k + 1, by omega, by go_num, Lib.hid (Own.perm3 (Own.step H2.out.perm3' (r' := rowR 32 6 (.slice (some ⟨g, 0, none⟩) (batchS a).length cap2) (batchS a).length) ((((((((Upd.refl _ _).setCell (.inl (by simp [rowR, blkOf])) _).setCell (.inl (by simp [rowR, blkOf])) _).setCell (.inl (by simp [rowR, blkOf])) _).setCell (.inl (by simp [rowR, blkOf])) _).setCell (.inl (by simp [rowR, blkOf])) _).setCell (.inl (by simp [rowR, blkOf])) _)) (row_set (row_set (row_set (row_set (row_set (row_set H2.out.perm3'.head _ _) _ _) _ _) _ _) _ _) _ _) (fun _ hk => .inl hk)))⟩
        case measure => simp [intOf]; omega
      · have hkI : ¬ (k : Int) < ((batchS a).length : Int) := by omega
        go_wp2_with fail
        have HR := Lib.hid (own_right (H2.out.perm3'.drop) (by rw [HF1.out]; exact hf1) (by rw [HF1.out]; exact hf2))
        rw [HF1.out] at HR
        have hp : L.ptr = L1.ptr := by simp [Loc.ptr, HS1.out]
        rw [hp]
        clear hp
        refine HR.out.mono ?_
        rintro e w' ⟨rfl, hu⟩
        have H3 := Lib.hid (H2.out.perm3'.drop.upd0 hu)
        clear hu
        go_wp2_with fail
        go_ret
        exact ⟨rfl, L1, st1, vb1, vp1, vc1, HF1.out, HS1.out, H3.out⟩

end Go.Proofs.Ytdeadekeffficaa
