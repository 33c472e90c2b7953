/- Parts of the proof, one behind the other. -/
import Derived.Test.YtannckelmojkoaaGreatFldB6
import Derived.Deep.AppendLies

/- inst: a place is written; Commits. -/
namespace Go.Proofs.YtannckelmojkoaaGreat
open Go.RowKit Go.Heap

theorem put_step {l : List Pm} {k : Nat} (hk : k < l.length) (x y : Pm) (r : Nat) (v : Value) (hr : r < 14) (h : pmCells y = (pmCells x).set r v) : ((l.set k x).flatMap pmCells).set (k * 14 + r) v = (l.set k y).flatMap pmCells := by
  rw [flat_set (cells := pmCells) (sz := 14) (fun _ => rfl) (l.set k x) k r x y v (List.getElem?_set_self hk) hr h, List.set_set]

theorem put_done (l : List Pm) (k : Nat) (hk : k < l.length) (c : Ct) :
    ((((((l.flatMap pmCells).set (k * 14 + 8) (.bool true)).set (k * 14 + 9) (.int .i64 c.view)).set (k * 14 + 10) (.int .i64 c.inst)).set (k * 14 + 11) (.int .i64 c.seq)).set (k * 14 + 12) c.vb).set (k * 14 + 13) c.vv =
      (l.set k { l[k] with done := true, dw := c }).flatMap pmCells := by
  have e : l.flatMap pmCells = (l.set k l[k]).flatMap pmCells := by rw [List.set_getElem_self]
  rw [e]
  generalize l[k] = p
  obtain ⟨lc, sl, told, has, ct, done, ⟨a, b, d, e, f, g, h⟩⟩ := p
  obtain ⟨a', b', d', e', f', g', h'⟩ := c
  rw [put_step hk ⟨lc, sl, told, has, ct, done, ⟨a, b, d, e, f, g, h⟩⟩ ⟨lc, sl, told, has, ct, true, ⟨a, b, d, e, f, g, h⟩⟩ 8 (.bool true) (by omega) rfl, put_step hk ⟨lc, sl, told, has, ct, true, ⟨a, b, d, e, f, g, h⟩⟩ ⟨lc, sl, told, has, ct, true, ⟨a', b, d, e, f, g, h⟩⟩ 9 (.int .i64 a') (by omega) rfl, put_step hk ⟨lc, sl, told, has, ct, true, ⟨a', b, d, e, f, g, h⟩⟩ ⟨lc, sl, told, has, ct, true, ⟨a', b', d, e, f, g, h⟩⟩ 10 (.int .i64 b') (by omega) rfl, put_step hk ⟨lc, sl, told, has, ct, true, ⟨a', b', d, e, f, g, h⟩⟩ ⟨lc, sl, told, has, ct, true, ⟨a', b', d', e, f, g, h⟩⟩ 11 (.int .i64 d') (by omega) rfl, put_step hk ⟨lc, sl, told, has, ct, true, ⟨a', b', d', e, f, g, h⟩⟩ ⟨lc, sl, told, has, ct, true, ⟨a', b', d', e', f, g, h⟩⟩ 12 e' (by omega) rfl, put_step hk ⟨lc, sl, told, has, ct, true, ⟨a', b', d', e', f, g, h⟩⟩ ⟨lc, sl, told, has, ct, true, ⟨a', b', d', e', f', g', h'⟩⟩ 13 f' (by omega) rfl]

theorem put_cert (l : List Pm) (k : Nat) (hk : k < l.length) (c : Ct) :
    (((((((l.flatMap pmCells).set (k * 14 + 1) (.bool true)).set (k * 14 + 2) (.bool true)).set (k * 14 + 3) (.int .i64 c.view)).set (k * 14 + 4) (.int .i64 c.inst)).set (k * 14 + 5) (.int .i64 c.seq)).set (k * 14 + 6) c.vb).set (k * 14 + 7) c.vv =
      (l.set k { l[k] with told := true, has := true, ct := c }).flatMap pmCells := by
  have e : l.flatMap pmCells = (l.set k l[k]).flatMap pmCells := by rw [List.set_getElem_self]
  rw [e]
  generalize l[k] = p
  obtain ⟨lc, sl, told, has, ⟨a, b, d, e, f, g, h⟩, done, dw⟩ := p
  obtain ⟨a', b', d', e', f', g', h'⟩ := c
  rw [put_step hk ⟨lc, sl, told, has, ⟨a, b, d, e, f, g, h⟩, done, dw⟩ ⟨lc, sl, true, has, ⟨a, b, d, e, f, g, h⟩, done, dw⟩ 1 (.bool true) (by omega) rfl, put_step hk ⟨lc, sl, true, has, ⟨a, b, d, e, f, g, h⟩, done, dw⟩ ⟨lc, sl, true, true, ⟨a, b, d, e, f, g, h⟩, done, dw⟩ 2 (.bool true) (by omega) rfl, put_step hk ⟨lc, sl, true, true, ⟨a, b, d, e, f, g, h⟩, done, dw⟩ ⟨lc, sl, true, true, ⟨a', b, d, e, f, g, h⟩, done, dw⟩ 3 (.int .i64 a') (by omega) rfl, put_step hk ⟨lc, sl, true, true, ⟨a', b, d, e, f, g, h⟩, done, dw⟩ ⟨lc, sl, true, true, ⟨a', b', d, e, f, g, h⟩, done, dw⟩ 4 (.int .i64 b') (by omega) rfl, put_step hk ⟨lc, sl, true, true, ⟨a', b', d, e, f, g, h⟩, done, dw⟩ ⟨lc, sl, true, true, ⟨a', b', d', e, f, g, h⟩, done, dw⟩ 5 (.int .i64 d') (by omega) rfl, put_step hk ⟨lc, sl, true, true, ⟨a', b', d', e, f, g, h⟩, done, dw⟩ ⟨lc, sl, true, true, ⟨a', b', d', e', f, g, h⟩, done, dw⟩ 6 e' (by omega) rfl, put_step hk ⟨lc, sl, true, true, ⟨a', b', d', e', f, g, h⟩, done, dw⟩ ⟨lc, sl, true, true, ⟨a', b', d', e', f', g', h'⟩, done, dw⟩ 7 f' (by omega) rfl]

theorem put_done' (l : List Pm) (k : Nat) (hk : k < l.length) (c : Ct) :
    ((((((l.flatMap pmCells).set (k * 14 + 8) (.bool true)).set (k * 14 + 9) (.int .i64 c.view)).set (k * 14 + 9 + 1) (.int .i64 c.inst)).set (k * 14 + 9 + 2) (.int .i64 c.seq)).set (k * 14 + 9 + 3) c.vb).set (k * 14 + 9 + 4) c.vv =
      (l.set k { l[k] with done := true, dw := c }).flatMap pmCells := put_done l k hk c
theorem put_cert' (l : List Pm) (k : Nat) (hk : k < l.length) (c : Ct) :
    (((((((l.flatMap pmCells).set (k * 14 + 1) (.bool true)).set (k * 14 + 2) (.bool true)).set (k * 14 + 3) (.int .i64 c.view)).set (k * 14 + 3 + 1) (.int .i64 c.inst)).set (k * 14 + 3 + 2) (.int .i64 c.seq)).set (k * 14 + 3 + 3) c.vb).set (k * 14 + 3 + 4) c.vv =
      (l.set k { l[k] with told := true, has := true, ct := c }).flatMap pmCells := put_cert l k hk c

section
variable {B : Nat} {w0 W W' : World} {ss rs : List Res} {x : Ins} {v1 v2 : Value} {l : List Rq} {vs : Vs}

/-- A certificate comes into a place. -/
theorem oi_place {k : Nat} {p : Pm} {c : Ct} (h : Own B w0 W (redR c.vv 2 c.vs.length (vsCells c.vs) :: redR c.vb 6 c.rs.length (rqsCells c.rs) :: ([blk x.i x.o, segR x.b 241 ((x.l.set k p).flatMap pmCells), certsR x] ++ (x.l.map pmR ++ ss))))
    (hk : k < x.l.length) (hl : p.lc = x.l[k].lc) (hs : p.sl = x.l[k].sl) (hn : c.rs.length ≤ 100000) (hm : c.vs.length ≤ 100000) (hc : (p.ct = c ∧ p.dw = x.l[k].dw) ∨ (p.ct = x.l[k].ct ∧ p.dw = c)) : OwnI B w0 W (x.sl k p) ss := by
  have hmap : (x.l.set k p).map pmR = x.l.map pmR := by
    rw [List.map_set, show pmR p = pmR x.l[k] by simp [pmR, hl, hs]]
    conv => lhs; arg 3; rw [← List.getElem_map (f := pmR) (h := by simpa using hk)]
    exact List.set_getElem_self _
  have h1 : Own B w0 W (certsR x :: redR c.vv 2 c.vs.length (vsCells c.vs) :: redR c.vb 6 c.rs.length (rqsCells c.rs) :: blk x.i x.o :: segR x.b 241 ((x.l.set k p).flatMap pmCells) :: (x.l.map pmR ++ ss)) := h.perm (List.perm_middle (l₁ := [_, _, _, _]))
  have h2 := h1.alter (r' := certsR (x.sl k p)) (by
    obtain ⟨D, ⟨⟨q1, q2⟩, q3⟩, q4, q5⟩ := h1.head
    obtain ⟨D1, ⟨v1, v2⟩, v3, _⟩ := (h1.all (redR c.vv 2 c.vs.length (vsCells c.vs)) (List.mem_cons_of_mem _ List.mem_cons_self)).1
    obtain ⟨D2, ⟨b1, b2⟩, b3, _⟩ := (h1.all (redR c.vb 6 c.rs.length (rqsCells c.rs)) (List.mem_cons_of_mem _ (List.mem_cons_of_mem _ List.mem_cons_self))).1
    have hnew : CtIn W c (D ++ (D1 ++ D2)) := ⟨b1.mono (by simp +contextual), hn, v1.mono (by simp +contextual), hm⟩
    have hold : ∀ p' ∈ x.l, CtIn W p'.ct (D ++ (D1 ++ D2)) ∧ CtIn W p'.dw (D ++ (D1 ++ D2)) := fun p' hp' => ⟨(q2 p' hp').1.mono (by simp +contextual), (q2 p' hp').2.mono (by simp +contextual)⟩
    refine ⟨D ++ (D1 ++ D2), ⟨⟨⟨by simpa using q1.n, q1.f1, q1.f2, fun p' hp' => ?_, q1.c1, q1.a1, q1.a2, q1.vw⟩, fun p' hp' => ?_⟩, fun k hk => ?_⟩, fun k hk => ?_, q5⟩
    · rcases List.mem_or_eq_of_mem_set hp' with hp' | rfl
      · exact q1.lf p' hp'
      · rw [hl]; exact q1.lf _ (by simp)
    · rcases List.mem_or_eq_of_mem_set hp' with hp' | rfl
      · exact hold p' hp'
      · rcases hc with ⟨e1, e2⟩ | ⟨e1, e2⟩
        · rw [e1, e2]; exact ⟨hnew, (hold _ (by simp)).2⟩
        · rw [e1, e2]; exact ⟨(hold _ (by simp)).1, hnew⟩
    · rcases List.mem_append.1 hk with hk | hk
      · exact q3 k hk
      · rcases List.mem_append.1 hk with hk | hk
        · exact v2 k hk
        · exact b2 k hk
    · rcases List.mem_append.1 hk with hk | hk
      · exact q4 k hk
      · rcases List.mem_append.1 hk with hk | hk
        · exact v3 k hk
        · exact b3 k hk) (by simp [certsR, imm])
  have h3 : Own B w0 W (blk x.i x.o :: segR x.b 241 ((x.l.set k p).flatMap pmCells) :: certsR (x.sl k p) :: (x.l.map pmR ++ ss)) := (h2.perm (List.perm_middle (l₁ := [_, _, _, _])).symm).drop.drop
  show Own B w0 W (insHd (x.sl k p) ++ ((x.l.set k p).map pmR ++ ss))
  rw [hmap]
  exact h3

/-- The six cells of a place that is done are stored. -/
theorem oi_dw (h : Own B w0 W (redR v2 2 vs.length (vsCells vs) :: redR v1 6 l.length (rqsCells l) :: (insHd x ++ (x.l.map pmR ++ ss)))) (k : Nat) (hk : k < x.l.length) (view inst seq : Int) (hn : l.length ≤ 100000) (hm : vs.length ≤ 100000) :
    OwnI B w0 ((((((W.setCell ⟨x.b, k * 14 + 8, none⟩ (.bool true)).setCell ⟨x.b, k * 14 + 9, none⟩ (.int .i64 view)).setCell ⟨x.b, k * 14 + 9 + 1, none⟩ (.int .i64 inst)).setCell ⟨x.b, k * 14 + 9 + 2, none⟩ (.int .i64 seq)).setCell ⟨x.b, k * 14 + 9 + 3, none⟩ v1).setCell ⟨x.b, k * 14 + 9 + 4, none⟩ v2)
      (x.sl k { x.l[k] with done := true, dw := ⟨view, inst, seq, v1, v2, l, vs⟩ }) ss := by
  have h1 := (((((((h.perm (List.perm_middle (l₁ := [_, _, _]))).put (k * 14 + 8) (.bool true)).put (k * 14 + 9) (.int .i64 view)).put (k * 14 + 9 + 1) (.int .i64 inst)).put (k * 14 + 9 + 2) (.int .i64 seq)).put (k * 14 + 9 + 3) v1).put (k * 14 + 9 + 4) v2)
  rw [put_done' x.l k hk ⟨view, inst, seq, v1, v2, l, vs⟩] at h1
  exact oi_place (c := ⟨view, inst, seq, v1, v2, l, vs⟩) (h1.perm (List.perm_middle (l₁ := [_, _, _])).symm) hk rfl rfl hn hm (.inr ⟨rfl, rfl⟩)
theorem oi_ct (h : Own B w0 W (redR v2 2 vs.length (vsCells vs) :: redR v1 6 l.length (rqsCells l) :: (insHd x ++ (x.l.map pmR ++ ss)))) (k : Nat) (hk : k < x.l.length) (view inst seq : Int) (hn : l.length ≤ 100000) (hm : vs.length ≤ 100000) :
    OwnI B w0 (((((((W.setCell ⟨x.b, k * 14 + 1, none⟩ (.bool true)).setCell ⟨x.b, k * 14 + 2, none⟩ (.bool true)).setCell ⟨x.b, k * 14 + 3, none⟩ (.int .i64 view)).setCell ⟨x.b, k * 14 + 3 + 1, none⟩ (.int .i64 inst)).setCell ⟨x.b, k * 14 + 3 + 2, none⟩ (.int .i64 seq)).setCell ⟨x.b, k * 14 + 3 + 3, none⟩ v1).setCell ⟨x.b, k * 14 + 3 + 4, none⟩ v2)
      (x.sl k { x.l[k] with told := true, has := true, ct := ⟨view, inst, seq, v1, v2, l, vs⟩ }) ss := by
  have h1 := ((((((((h.perm (List.perm_middle (l₁ := [_, _, _]))).put (k * 14 + 1) (.bool true)).put (k * 14 + 2) (.bool true)).put (k * 14 + 3) (.int .i64 view)).put (k * 14 + 3 + 1) (.int .i64 inst)).put (k * 14 + 3 + 2) (.int .i64 seq)).put (k * 14 + 3 + 3) v1).put (k * 14 + 3 + 4) v2)
  rw [put_cert' x.l k hk ⟨view, inst, seq, v1, v2, l, vs⟩] at h1
  exact oi_place (c := ⟨view, inst, seq, v1, v2, l, vs⟩) (h1.perm (List.perm_middle (l₁ := [_, _, _])).symm) hk rfl rfl hn hm (.inl ⟨rfl, rfl⟩)

/-- What a call leaves that tells a certificate, or none. -/
def CertP (B : Nat) (w0 W : World) (i : Nat) (r : Option Cp) (st : In) (ss : List Res) (e : Ending) (w' : World) : Prop :=
  ∃ c : Ct, e = .returned (.tuple #[ctAgg c, .bool r.isSome]) ∧ c.cp = r.getD noCp ∧ (c.rs.length ≤ 100000 ∧ c.vs.length ≤ 100000) ∧ Bat w' c.vb c.rs ∧ Vts w' c.vv c.vs ∧ (∀ k ∈ blkOf c.vb, W.heap.size ≤ k) ∧ (∀ k ∈ blkOf c.vv, W.heap.size ≤ k) ∧
    ∃ x' : Ins, x'.i = i ∧ x'.st = st ∧ Own B w0 w' (redR c.vv 2 c.vs.length (vsCells c.vs) :: redR c.vb 6 c.rs.length (rqsCells c.rs) :: instR x' :: ss)

def noCt : Ct := ⟨0, 0, 0, .slice none 0 0, .slice none 0 0, [], []⟩

theorem certP_none {st : In} {r : Option Cp} (h : Own B w0 W' (instR x :: ss)) (hr : r = none) (hst : st = x.st) : CertP B w0 W x.i r st ss (.returned (.tuple #[ctAgg noCt, .bool false])) W' := by
  subst hr
  exact ⟨noCt, rfl, rfl, by simp [noCt], Reads.nil _ _, Reads.nil _ _, by simp [noCt, blkOf], by simp [noCt, blkOf], x, rfl, hst.symm, (h.red (Reads.nil _ _) (by simp [blkIf])).red (Reads.nil _ _) (by simp [blkIf, noCt])⟩

end
end Go.Proofs.YtannckelmojkoaaGreat

/- inst: Commits. -/
namespace Go.Proofs.YtannckelmojkoaaGreat
open Go.RowKit Go.Heap

section
variable {B : Nat} {w0 W W' : World} {ss rs : List Res} {x : Ins}

abbrev zct : Obj := ctO 0 0 0 (.slice none 0 0) (.slice none 0 0)

/-- The first ones turned about, so that the instance's places stand at the head. -/
theorem seg_first {r1 r2 r3 sg : Res} (h : Own B w0 W (r1 :: r2 :: r3 :: sg :: rs)) : Own B w0 W (sg :: r1 :: r2 :: r3 :: rs) := h.perm (List.perm_middle (l₁ := [_, _, _]))
theorem seg_back {r1 r2 r3 sg : Res} (h : Own B w0 W (sg :: r1 :: r2 :: r3 :: rs)) : Own B w0 W (r1 :: r2 :: r3 :: sg :: rs) := h.perm (List.perm_middle (l₁ := [_, _, _])).symm

theorem own_red2 {v u : Value} {l : List Rq} {vs : Vs} (h : Own B w0 W rs) (hu : Upd [] W W') (hb : Bat W' v l) (hv : Vts W' u vs) (n1 : ∀ k ∈ blkOf v, W.heap.size ≤ k) (n2 : ∀ k ∈ blkOf u, W.heap.size ≤ k) :
    Own B w0 W' (redR u 2 vs.length (vsCells vs) :: redR v 6 l.length (rqsCells l) :: rs) := by
  have h1 := (h.upd0 hu).red hb (fun k hk => h.fresh (n1 k (blkIf_sub hk)))
  refine h1.red hv (fun k hk hn => ?_)
  rcases (Ms_cons _ _ _).1 hn with hn | hn
  · simp [redR, imm] at hn
  · exact h.fresh (n2 k (blkIf_sub hk)) hn

theorem imm_read {c : Ct} {D : List Nat} (h : CtIn W c D) : Bat W c.vb c.rs ∧ Vts W c.vv c.vs := ⟨h.b.1, h.v.1⟩
theorem oi_cert (h : OwnI B w0 W x ss) (k : Nat) (hk : k < x.l.length) : (Bat W x.l[k].ct.vb x.l[k].ct.rs ∧ Vts W x.l[k].ct.vv x.l[k].ct.vs ∧ x.l[k].ct.rs.length ≤ 100000 ∧ x.l[k].ct.vs.length ≤ 100000) ∧
    Bat W x.l[k].dw.vb x.l[k].dw.rs ∧ Vts W x.l[k].dw.vv x.l[k].dw.vs ∧ x.l[k].dw.rs.length ≤ 100000 ∧ x.l[k].dw.vs.length ≤ 100000 := by
  obtain ⟨D, ⟨⟨_, h2⟩, _⟩, _, _⟩ := (h.all (certsR x) (by simp [insHd])).1
  obtain ⟨q1, q2⟩ := h2 x.l[k] (by simp)
  exact ⟨⟨q1.b.1, q1.v.1, q1.bn, q1.vn⟩, q2.b.1, q2.v.1, q2.bn, q2.vn⟩

/-- The block at the head of what is beside an instance. -/
theorem oi_box {b : Nat} {o : Obj} (h : OwnI B w0 W x (blk b o :: ss)) : W.heap[b]? = some o := (own_shut h).drop.blk_out

theorem cm_batch {all : List Vt} {q n : Nat} : ∀ l : List Vt, (∀ t ∈ l, t.batch.length ≤ n) → (batchOf (committedL all q l)).length ≤ n
  | [], _ => by simp [committedL, batchOf]
  | t :: r, h => by
    have ih := cm_batch (all := all) (q := q) r (fun t ht => h t (List.mem_cons_of_mem _ ht))
    unfold committedL
    cases t.has
    · exact ih
    · cases enoughS all t.batch q with
      | none => exact ih
      | some vs => exact h t (by simp)

theorem en_votes {all : List Vt} {b : List Rq} {q : Nat} {vs : Vs} (h : enoughS all b q = some vs) : vs.length ≤ q := by
  unfold enoughS at h
  split at h
  · cases h
  · simp only [Option.some.injEq] at h
    subst h
    rw [List.length_take]; omega

theorem cm_votes {all : List Vt} {q : Nat} : ∀ l : List Vt, (votesOf (committedL all q l)).length ≤ q
  | [] => by simp [committedL, votesOf]
  | t :: r => by
    have ih := cm_votes (all := all) (q := q) r
    unfold committedL
    cases t.has
    · exact ih
    · cases he : enoughS all t.batch q with
      | none => exact ih
      | some vs => exact en_votes he

theorem cm_small {st : Sl} {f : Nat} (h : ∀ t ∈ st.cs, t.batch.length ≤ 100000) (hf : f ≤ 4) : (batchOf (committedS f st)).length ≤ 100000 ∧ (votesOf (committedS f st)).length ≤ 100000 :=
  ⟨cm_batch _ h, by have := cm_votes (all := st.cs) (q := 2 * f + 1) st.cs; unfold committedS; omega⟩

theorem own_st5 {b : Nat} {a1 a2 a3 : Int} {a4 a5 : Value} (h : Own B w0 W (blk b (ctO a1 a2 a3 a4 a5) :: rs)) (view inst seq : Int) (vb vv : Value) :
    Own B w0 (((((W.setCell ⟨b, 0, none⟩ (.int .i64 view)).setCell ⟨b, 1, none⟩ (.int .i64 inst)).setCell ⟨b, 2, none⟩ (.int .i64 seq)).setCell ⟨b, 3, none⟩ vb).setCell ⟨b, 4, none⟩ vv) (blk b (ctO view inst seq vb vv) :: rs) :=
  ((((h.store 0 (.int .i64 view)).store 1 (.int .i64 inst)).store 2 (.int .i64 seq)).store 3 vb).store 4 vv

theorem upd_st5 (w : World) (b : Nat) (view inst seq : Int) (vb vv : Value) : Upd [b] w (((((w.setCell ⟨b, 0, none⟩ (.int .i64 view)).setCell ⟨b, 1, none⟩ (.int .i64 inst)).setCell ⟨b, 2, none⟩ (.int .i64 seq)).setCell ⟨b, 3, none⟩ vb).setCell ⟨b, 4, none⟩ vv) :=
  (((((Upd.refl _ _).setCell (.inl (by simp)) _).setCell (.inl (by simp)) _).setCell (.inl (by simp)) _).setCell (.inl (by simp)) _).setCell (.inl (by simp)) _

theorem comm_off {seq : Int} {st : In} (h : commI st seq = none) : commitsI st seq = st := by
  unfold commitsI; rw [h]; cases idx seq <;> rfl

set_option maxHeartbeats 2000000 in
set_option maxRecDepth 100000 in
theorem ins_commits (h : Own B w0 W (instR x :: ss)) {i : Nat} (hi : x.i = i) (seq : Int) : Calls Tryz.prog 256 #[.pointer (some ⟨i, 0, none⟩), .int .i64 seq] W (CertP B w0 W i (commI x.st seq) (commitsI x.st seq) ss) := by
  subst hi
  have hz := own_open (h.box zct).swap
  obtain ⟨-, -, -, -, -, c5, l1, l2⟩ := oi_cells hz
  cases hk : idx seq with
  | none =>
    have hs := idx_none hk
    have HE := Lib.hid (show commI x.st seq = none by simp [commI, plAt_none hk])
    have HA := Lib.hid (at_no x.i x.b x.cap seq _ hs c5)
    have H := Lib.hid h
    clear hz h hk hs c5
    go_enter Tryz.func256, Tryz.ntmps256
    go_wp2_with fail
    refine HA.out.mono ?_
    rintro e w' ⟨rfl, rfl⟩
    go_wp2_with fail
    exact bodyPost_ret (v := .tuple #[ctAgg noCt, .bool false]) (by simp [results, Tryz.results256, go_sem, noCt]) rfl (certP_none (H.out.upd0 ((Upd.refl _ _).alloc _)) HE.out (comm_off HE.out))
  | some k =>
    obtain ⟨hl, hp⟩ := plAt_some (oi_ok hz) hk
    obtain ⟨i1, i2⟩ := idx_lt hk
    have HA := Lib.hid (at_yes x.i x.b x.cap seq _ (by omega) (by omega) c5)
    have hks : seq.toNat - 1 = k := by omega
    rw [hks] at HA
    have cp := oi_ptr hz k hl
    have cd := oi_done hz k hl
    have HLF := Lib.hid ((oi_ok hz).lf _ (List.getElem_mem hl))
    cases hd : x.l[k].done
    · rw [hd] at cd
      have HC := Lib.hid (own_committed (oi_pick hz k hl))
      have HSM := Lib.hid (cm_small (own_small (oi_pick hz k hl)).2.2.1 (oi_ok hz).f2)
      have HCI := Lib.hid (show commI x.st seq = (committedS x.f x.l[k].sl).map fun r => ⟨x.view, x.num, seq, r.1, r.2⟩ by simp only [commI, hp]; simp [Pm.pl, Ins.st, hd])
      have HZ := Lib.hid hz
      have H := Lib.hid h
      have HK := Lib.hid hk
      clear hz h hk hp i2 hks hd
      go_enter Tryz.func256, Tryz.ntmps256
      go_wp2_with fail
      refine HA.out.mono ?_
      rintro e w' ⟨rfl, rfl⟩
      go_wp2_with fail
      refine HC.out.mono ?_
      rintro e w2 ⟨v, u, rfl, hu, hb, hv, n1, n2⟩
      rw [HLF.out] at hb hv ⊢
      obtain ⟨ao, cap, rfl⟩ := bat_form hb
      obtain ⟨co, cav, rfl⟩ := vts_form hv
      have H2 := Lib.hid (own_red2 HZ.out hu hb hv n1 n2)
      clear hu hb hv n1 n2 cp cd c5 HC HA
      obtain ⟨hnb, hnv⟩ := HSM.out
      cases hcm : committedS x.f x.l[k].sl with
      | none =>
        rw [hcm] at HCI
        have H3 := Lib.hid (own_shut H2.out.drop.drop)
        have fz := fun o => block_frozen H3.out.drop.blk_out o
        have hbx := H3.out.drop.blk_out
        have HBX := Lib.hid hbx
        obtain ⟨f0, f1, f2, f3, f4, fl, -⟩ := ct_cells hbx
        have fz0 := fz 0
        have fz1 := fz 1
        have fz2 := fz 2
        have fz3 := fz 3
        have fz4 := fz 4
        clear hbx fz hcm
        go_wp2_with fail
        have H4 := Lib.hid (own_st5 H3.out.swap 0 0 0 (.slice none 0 0) (.slice none 0 0))
        generalize ((((w2.setCell ⟨W.heap.size, 0, none⟩ (.int .i64 0)).setCell ⟨W.heap.size, 1, none⟩ (.int .i64 0)).setCell ⟨W.heap.size, 2, none⟩ (.int .i64 0)).setCell ⟨W.heap.size, 3, none⟩ (.slice none 0 0)).setCell ⟨W.heap.size, 4, none⟩ (.slice none 0 0) = w4 at *
        clear f0 f1 f2 f3 f4 fl fz0 fz1 fz2 fz3 fz4 HBX
        obtain ⟨f0, f1, f2, f3, f4, fl, -⟩ := ct_cells H4.out.blk_out
        exact bodyPost_ret (v := .tuple #[ctAgg noCt, .bool false]) (by simp [results, Tryz.results256, go_sem, noCt, f0, f1, f2, f3, f4]) rfl (certP_none H4.out.drop HCI.out (comm_off HCI.out))
      | some r =>
        rw [hcm] at HCI H2 hnb hnv
        have hb2 := oi_blk H2.out.drop.drop
        have HB2 := Lib.hid hb2
        clear hb2 hcm
        go_wp2_with fail
        refine (cert_any x.i x.f x.num x.ahead x.view x.on _ seq ao _ cap co _ cav _ HB2.out).mono ?_
        rintro e w3 ⟨rfl, hu3⟩
        have H3 := Lib.hid (H2.out.upd0 hu3)
        clear hu3 H2 HB2
        have ho3 := H3.out.drop.drop
        have c8 := oi_at ho3 k hl 8 (by omega)
        have c9 := oi_at ho3 k hl 9 (by omega)
        have c10 := oi_at ho3 k hl 10 (by omega)
        have c11 := oi_at ho3 k hl 11 (by omega)
        have c12 := oi_at ho3 k hl 12 (by omega)
        have c13 := oi_at ho3 k hl 13 (by omega)
        obtain ⟨fzb, -⟩ := oi_fz ho3
        have z8 := fzb (k * 14 + 8)
        have z9 := fzb (k * 14 + 9)
        have z10 := fzb (k * 14 + 10)
        have z11 := fzb (k * 14 + 11)
        have z12 := fzb (k * 14 + 12)
        have z13 := fzb (k * 14 + 13)
        clear ho3 fzb
        simp only [pmCells, List.getElem?_cons_succ, List.getElem?_cons_zero] at c8 c9 c10 c11 c12 c13
        go_wp2_with fail
        have H4 := Lib.hid (oi_dw H3.out k hl x.view x.num seq hnb hnv)
        have r1 := (redR_out (H3.out.drop.head))
        have r2 := (redR_out H3.out.head)
        have H4S := Lib.hid (show W.heap.size < w3.heap.size from block_lt (own_shut H3.out.drop.drop).drop.blk_out)
        generalize (((((w3.setCell ⟨x.b, k * 14 + 8, none⟩ (.bool true)).setCell ⟨x.b, k * 14 + 9, none⟩ (.int .i64 x.view)).setCell ⟨x.b, k * 14 + 9 + 1, none⟩ (.int .i64 x.num)).setCell ⟨x.b, k * 14 + 9 + 2, none⟩ (.int .i64 seq)).setCell ⟨x.b, k * 14 + 9 + 3, none⟩ (.slice ao (batchOf (some r)).length cap)).setCell ⟨x.b, k * 14 + 9 + 4, none⟩ (.slice co (votesOf (some r)).length cav) = w4 at *
        clear c8 c9 c10 c11 c12 c13 z8 z9 z10 z11 z12 z13 H3 r1 r2
        have hq := (oi_cert H4.out k (by simpa using hl)).2
        simp only [List.getElem_set_self] at hq
        obtain ⟨q1, q2, q3, q4⟩ := hq
        have HF := Lib.hid (fresh_ct ⟨x.view, x.num, seq, .slice ao (batchOf (some r)).length cap, .slice co (votesOf (some r)).length cav, batchOf (some r), votesOf (some r)⟩ w4 q1 q3 q2 q4)
        clear q1 q2 q3 q4
        have H4L := Lib.hid (show W.heap.size < w4.heap.size from block_lt (own_shut H4.out).drop.blk_out)
        refine HF.out.mono ?_
        rintro e w5 ⟨⟨view', inst', seq', vb', vv', rs', vs'⟩, rfl, hcp, hu5, hb5, hv5, nb, nv⟩
        simp only at hb5 hv5 nb nv
        obtain ⟨ao6, cap6, rfl⟩ := bat_form hb5
        obtain ⟨co6, cav6, rfl⟩ := vts_form hv5
        have H5 := Lib.hid ((own_red2 (own_shut H4.out).swap hu5 hb5 hv5 nb nv).rot)
        have HCP := Lib.hid hcp
        have HB5 := Lib.hid hb5
        have HV5 := Lib.hid hv5
        have NB := Lib.hid nb
        have NV := Lib.hid nv
        clear hcp hu5 hb5 hv5 nb nv H4 HF
        obtain ⟨f0, f1, f2, f3, f4, fl, fz⟩ := ct_cells H5.out.blk_out
        have fz0 := fz 0
        have fz1 := fz 1
        have fz2 := fz 2
        have fz3 := fz 3
        have fz4 := fz 4
        clear fz
        go_wp2_with fail
        have H6 := Lib.hid (own_st5 H5.out view' inst' seq' (.slice ao6 rs'.length cap6) (.slice co6 vs'.length cav6))
        have HU6 := Lib.hid (upd_st5 w5 W.heap.size view' inst' seq' (.slice ao6 rs'.length cap6) (.slice co6 vs'.length cav6))
        generalize ((((w5.setCell ⟨W.heap.size, 0, none⟩ (.int .i64 view')).setCell ⟨W.heap.size, 1, none⟩ (.int .i64 inst')).setCell ⟨W.heap.size, 2, none⟩ (.int .i64 seq')).setCell ⟨W.heap.size, 3, none⟩ (.slice ao6 rs'.length cap6)).setCell ⟨W.heap.size, 4, none⟩ (.slice co6 vs'.length cav6) = w6 at *
        clear f0 f1 f2 f3 f4 fl fz0 fz1 fz2 fz3 fz4 H5
        obtain ⟨f0, f1, f2, f3, f4, fl, -⟩ := ct_cells H6.out.blk_out
        refine bodyPost_ret (v := .tuple #[ctAgg ⟨view', inst', seq', .slice ao6 rs'.length cap6, .slice co6 vs'.length cav6, rs', vs'⟩, .bool true]) (by simp [results, Tryz.results256, go_sem, f0, f1, f2, f3, f4]) rfl ?_
        have hcp := HCP.out
        simp only [Ct.cp, Cp.mk.injEq] at hcp
        obtain ⟨e1, e2, e3, e4, e5⟩ := hcp
        have hnew : ∀ (v : Value), (∀ k ∈ blkOf v, w4.heap.size ≤ k) → (∀ k ∈ blkOf v, W.heap.size ≤ k) ∧ ∀ k ∈ blkOf v, k ∉ [W.heap.size] := fun v hv => ⟨fun k hk => by have := hv k hk; have := H4L.out; omega, fun k hk hn => by have := hv k hk; have := H4L.out; simp at hn; omega⟩
        refine ⟨⟨view', inst', seq', .slice ao6 rs'.length cap6, .slice co6 vs'.length cav6, rs', vs'⟩, ?_, ?_, ⟨by simp only [e4]; exact hnb, by simp only [e5]; exact hnv⟩, HB5.out.upd HU6.out (hnew _ NB.out).2, Reads.upd HV5.out HU6.out (hnew _ NV.out).2, (hnew _ NB.out).1, (hnew _ NV.out).1,
          x.sl k { x.l[k] with done := true, dw := ⟨x.view, x.num, seq, .slice ao (batchOf (some r)).length cap, .slice co (votesOf (some r)).length cav, batchOf (some r), votesOf (some r)⟩ }, rfl, ?_, H6.out.drop⟩
        · rw [HCI.out]; rfl
        · rw [HCI.out]
          simp only [Ct.cp, Option.map_some, Option.getD_some, Cp.mk.injEq]
          exact ⟨e1, e2, e3, e4, e5⟩
        · rw [show commitsI x.st seq = x.st.upd k fun p => { p with done := true, dw := ⟨x.view, x.num, seq, r.1, r.2⟩ } by simp [commitsI, HK.out, HCI.out]]
          exact st_set x k hl _ _ rfl
    · rw [hd] at cd
      have HE := Lib.hid (show commI x.st seq = none by simp only [commI, hp]; simp [Pm.pl, hd])
      have H := Lib.hid h
      clear hz h hk hp i2 hks hd c5 cp
      go_enter Tryz.func256, Tryz.ntmps256
      go_wp2_with fail
      refine HA.out.mono ?_
      rintro e w' ⟨rfl, rfl⟩
      go_wp2_with fail
      exact bodyPost_ret (v := .tuple #[ctAgg noCt, .bool false]) (by simp [results, Tryz.results256, go_sem, noCt]) rfl (certP_none (H.out.upd0 ((Upd.refl _ _).alloc _)) HE.out (comm_off HE.out))

end
end Go.Proofs.YtannckelmojkoaaGreat

/- inst: New. -/
namespace Go.Proofs.YtannckelmojkoaaGreat
open Go.RowKit Go.Heap

theorem Tryz.infoPl : (Tryz.prog.info? 241).map (fun i => (i.zero, i.size, i.bytes)) = some (some (.agg #[.pointer none, .bool false, .bool false, .int .i64 0, .int .i64 0, .int .i64 0, .slice none 0 0, .slice none 0 0, .bool false, .int .i64 0, .int .i64 0, .int .i64 0, .slice none 0 0, .slice none 0 0]), 14, 168) := by kernel_rfl

section
variable {B : Nat} {w0 W W' : World} {ss rs : List Res} {x : Ins}

def newPm (L : Loc) (f : Nat) : Pm := ⟨L, emptySl f, false, false, noCt, false, noCt⟩

theorem newPm_one (L : Loc) (f : Nat) : ∀ u ∈ pmCells (newPm L f), u.oneCell' = true := by
  intro u hu
  simp only [pmCells, newPm, noCt, List.mem_cons, List.not_mem_nil, or_false] at hu
  rcases hu with rfl | rfl | rfl | rfl | rfl | rfl | rfl | rfl | rfl | rfl | rfl | rfl | rfl | rfl <;> rfl

/-- What New leaves. -/
def NewP (B : Nat) (w0 : World) (st : In) (ss : List Res) (e : Ending) (w' : World) : Prop := ∃ x : Ins, e = .returned (.tuple #[x.ptr, .int .i64 0]) ∧ x.st = st ∧ Own B w0 w' (instR x :: ss)

/-- An instance that is being made: k places. -/
def MkI (B : Nat) (w0 w : World) (i f : Nat) (num ahead : Int) (k : Nat) (ss : List Res) : Prop :=
  ∃ (ls : List Loc) (ao : Option Addr) (cp : Nat), ls.length = k ∧ (∀ L ∈ ls, L.f = f) ∧
    Own B w0 w (ownR 241 14 (.slice ao k cp) k ((ls.map fun L => newPm L f).flatMap pmCells) :: blk i (insO f num ahead 0 true (.slice ao k cp)) :: ((ls.map fun L => newPm L f).map pmR ++ ss))

theorem mk_more {i f : Nat} {num ahead : Int} {k g cap2 : Nat} {ls : List Loc} {L : Loc} {ao : Option Addr} {cp : Nat} (hl : ls.length = k) (hlf : ∀ L ∈ ls, L.f = f) (hf : L.f = f)
    (h : Own B w0 W (blk i (setIn 5 (.slice (some ⟨g, 0, none⟩) (k + 1) cap2) (insO f num ahead 0 true (.slice ao k cp))) :: ownR 241 14 (.slice (some ⟨g, 0, none⟩) (k + 1) cap2) (k + 1) ((ls.map fun L => newPm L f).flatMap pmCells ++ pmCells (newPm L f)) :: slotR L (emptySl f) :: ((ls.map fun L => newPm L f).map pmR ++ ss))) : MkI B w0 W i f num ahead (k + 1) ss := by
  refine ⟨ls ++ [L], some ⟨g, 0, none⟩, cap2, by simp [hl], fun L' hL' => ?_, ?_⟩
  · rcases List.mem_append.1 hL' with h | h
    · exact hlf L' h
    · simp at h; subst h; exact hf
  · have h2 := h.rot
    have h3 : Own B w0 W (slotR L (emptySl f) :: ([ownR 241 14 (.slice (some ⟨g, 0, none⟩) (k + 1) cap2) (k + 1) ((ls.map fun L => newPm L f).flatMap pmCells ++ pmCells (newPm L f)), blk i (insO f num ahead 0 true (.slice (some ⟨g, 0, none⟩) (k + 1) cap2))] ++ ((ls.map fun L => newPm L f).map pmR ++ ss))) := h2.perm (List.Perm.cons _ (List.Perm.swap _ _ _))
    have h4 := Own.perm (ss := ([ownR 241 14 (.slice (some ⟨g, 0, none⟩) (k + 1) cap2) (k + 1) ((ls.map fun L => newPm L f).flatMap pmCells ++ pmCells (newPm L f)), blk i (insO f num ahead 0 true (.slice (some ⟨g, 0, none⟩) (k + 1) cap2))] ++ (ls.map fun L => newPm L f).map pmR) ++ slotR L (emptySl f) :: ss) h3 (by
      rw [← List.append_assoc]
      exact List.perm_middle.symm)
    simp only [List.map_append, List.flatMap_append, List.map_cons, List.map_nil, List.flatMap_cons, List.flatMap_nil, List.append_nil, List.append_assoc, List.cons_append, List.nil_append] at h4 ⊢
    exact h4

theorem mk_done {i f : Nat} {num ahead : Int} {ls : List Loc} {ao : Option Addr} {cp : Nat} (hf1 : 1 ≤ f) (hf2 : f ≤ 4) (ha1 : 1 ≤ ahead) (ha2 : ahead ≤ 16) (hl : ls.length = 16) (hlf : ∀ L ∈ ls, L.f = f)
    (h : Own B w0 W (ownR 241 14 (.slice ao 16 cp) 16 ((ls.map fun L => newPm L f).flatMap pmCells) :: blk i (insO f num ahead 0 true (.slice ao 16 cp)) :: ((ls.map fun L => newPm L f).map pmR ++ ss))) : ∃ x : Ins, x.i = i ∧ x.st = newI f num ahead ∧ Own B w0 W (instR x :: ss) := by
  have hown := ownR_owns h.head
  rcases hown.2 with ⟨h1, h2⟩ | ⟨g, cap, cur, h1, hb, hg, q1, q2, q3, q4⟩
  · omega
  · simp only [Value.slice.injEq] at h1
    obtain ⟨rfl, -, rfl⟩ := h1
    have h2 := h.alter (r' := segR g 241 ((ls.map fun L => newPm L f).flatMap pmCells)) (ownR_seg h.head) (fun k hk => by simp [ownR, blkOf, segR] at hk ⊢; exact hk)
    refine ⟨⟨i, g, cp, f, num, ahead, 0, true, ls.map fun L => newPm L f⟩, rfl, ?_, own_shut ?_⟩
    · simp only [Ins.st, newI, In.mk.injEq, true_and, List.map_map]
      apply List.ext_getElem?
      intro j
      rw [List.getElem?_map, List.getElem?_replicate]
      by_cases hj : j < 16
      · rw [if_pos hj, List.getElem?_eq_getElem (by omega)]; rfl
      · rw [if_neg hj, List.getElem?_eq_none (by omega)]; rfl
    · have h3 : Own B w0 W (certsR ⟨i, g, cp, f, num, ahead, 0, true, ls.map fun L => newPm L f⟩ :: segR g 241 ((ls.map fun L => newPm L f).flatMap pmCells) :: blk i (insO f num ahead 0 true (.slice (some ⟨g, 0, none⟩) 16 cp)) :: ((ls.map fun L => newPm L f).map pmR ++ ss)) := h2.new (Upd.refl [] _) ⟨[], ⟨⟨⟨by simp [hl], hf1, hf2, fun p hp => ?_, q1, ha1, ha2, by simp⟩, fun p hp => ?_⟩, by simp⟩, by simp, fun k hk => h2.lt k hk⟩ (by simp [certsR, imm])
      · exact h3.swap.rot
      · simp only [List.mem_map] at hp
        obtain ⟨L, hL, rfl⟩ := hp
        exact hlf L hL
      · simp only [List.mem_map] at hp
        obtain ⟨L, hL, rfl⟩ := hp
        exact ⟨⟨ReadsIn.nil _ _ _, by simp [newPm, noCt], ReadsIn.nil _ _ _, by simp [newPm, noCt]⟩, ⟨ReadsIn.nil _ _ _, by simp [newPm, noCt], ReadsIn.nil _ _ _, by simp [newPm, noCt]⟩⟩

set_option maxHeartbeats 2000000 in
set_option maxRecDepth 100000 in
theorem ins_new (f : Nat) (num ahead : Int) (hf1 : 1 ≤ f) (hf2 : f ≤ 4) (hn1 : 0 ≤ num) (hn2 : num ≤ f) (ha1 : 1 ≤ ahead) (ha2 : ahead ≤ 16) (h : Own B w0 W ss) :
    Calls Tryz.prog 82 #[.int .i64 f, .int .i64 num, .int .i64 ahead] W (NewP B w0 (newI f num ahead) ss) := by
  obtain ⟨i0, hi, hz0, hz1, hz2⟩ := info_parts Tryz.infoPl
  have hb1 : decide ((f : Int) < 1) = false := by simp; omega
  have hb2 : decide (4 < (f : Int)) = false := by simp; omega
  have hb3 : decide (num < 0) = false := by simp; omega
  have hb4 : decide ((f : Int) < num) = false := by simp; omega
  have hb5 : decide (ahead < 1) = false := by simp; omega
  have hb6 : decide (16 < ahead) = false := by simp; omega
  have h0 : MkI B w0 (W.alloc (insO f num ahead 0 true (.slice none 0 0))) W.heap.size f num ahead 0 ss := ⟨[], none, 0, rfl, by simp, (h.box (insO f num ahead 0 true (.slice none 0 0))).row0⟩
  have H0 := Lib.hid h0
  clear h0 h
  go_enter Tryz.func82, Tryz.ntmps82
  go_wp2_with fail
  go_loopw [39] (fun i wr => ∃ k : Nat, k ≤ 16 ∧ i = .int .i64 k ∧ Hid (MkI B w0 wr W.heap.size f num ahead k ss)) (fun i _ => 16 - (intOf i).toNat)
  case atStart => exact ⟨0, by omega, rfl, H0⟩
  case round =>
    clear H0
    obtain ⟨k, hk, rfl, HM⟩ := hrel
    by_cases hlt : k < 16
    · have hkI : (k : Int) < 16 := by omega
      obtain ⟨ls, ao, cp, hl, hlf, hown⟩ := HM.out
      have HL := Lib.hid hl
      have HLF := Lib.hid hlf
      have HC := Lib.hid (own_new f hf1 hf2 hown)
      clear hl hlf hown
      go_wp2_with fail
      refine HC.out.mono ?_
      rintro e w2 ⟨L, rfl, hLf, -, h2⟩
      have H2 := Lib.hid h2
      have HF := Lib.hid hLf
      clear h2 hLf HC
      have hbl := H2.out.drop.drop.blk_out
      have c5 : w2.cell? ⟨W.heap.size, 5, none⟩ = some (.slice ao k cp) := by rw [block_cell hbl]; rfl
      clear hbl
      have HO := Lib.hid (ownR_owns (H2.out.alloc (.cells (pmCells (newPm L f)).toArray 241)).drop.head)
      go_wp2_with (at_builtin; refine wpList_append_lies _ rfl (.tmp 50) (.tmp 53) 212 rfl 0 241 i0 (.agg #[.pointer none, .bool false, .bool false, .int .i64 0, .int .i64 0, .int .i64 0, .slice none 0 0, .slice none 0 0, .bool false, .int .i64 0, .int .i64 0, .int .i64 0, .slice none 0 0, .slice none 0 0]) 14 168 Tryz.underlying212 hi hz0 hz1 hz2 rfl (by decide) _ k _ rfl HO.out ⟨w2.heap.size, 0, none⟩ 1 1 (pmCells (newPm L f)) rfl rfl ?c1 ?c2 (by decide) ?c3 ?c4 (Nat.zero_le _) _ rfl ?c6)
      case c1 => exact World.news_of_block (heap_alloc_new w2 _)
      case c2 => exact newPm_one L f
      case c3 => unfold maxLen; omega
      case c4 => omega
      case c6 =>
        intro g cap2 w3 hown hgrow hat hlt
        have h3 := ((H2.out.alloc (.cells (pmCells (newPm L f)).toArray 241)).swap.grow hgrow (by rw [hs_alloc]; exact hat) hown)
        have H3 := Lib.hid h3
        clear hown hgrow hat hlt h3 HO c5
        have hbl := H3.out.drop.drop.blk_out
        have c5 : w3.cell? ⟨W.heap.size, 5, none⟩ = some (.slice ao k cp) := by rw [block_cell hbl]; rfl
        have fz := block_frozen hbl 5
        clear hbl
        go_wp2_with fail
        have H4 := Lib.hid ((H3.out.rot.store 5 (.slice (some ⟨g, 0, none⟩) (k + 1) cap2)))
        go_roundw
        case rel => exact ⟨k + 1, by omega, by go_num, Lib.hid (mk_more HL.out HLF.out HF.out H4.out)⟩
        case measure => simp [intOf]; omega
    · have hk16 : k = 16 := by omega
      subst hk16
      obtain ⟨ls, ao, cp, hl, hlf, hown⟩ := HM.out
      have HX := Lib.hid (mk_done hf1 hf2 ha1 ha2 hl hlf hown)
      clear hl hlf hown
      go_wp2_with fail
      go_ret2
      obtain ⟨x, h1, h2, h3⟩ := HX.out
      exact ⟨x, by simp [Ins.ptr, h1], h2, h3⟩

end
end Go.Proofs.YtannckelmojkoaaGreat

/- psephoslaw15.wakes. -/
namespace Go.Proofs.YtannckelmojkoaaGreat
open Go.RowKit Go.Heap

/-- An instance in the state st at block i. -/
def AtI (B : Nat) (w0 w : World) (i : Nat) (st : In) (ss : List Res) : Prop := ∃ x : Ins, x.i = i ∧ x.st = st ∧ Own B w0 w (instR x :: ss)

section
variable {B : Nat} {w0 W W' : World} {ss rs : List Res} {x : Ins} {i : Nat} {st : In}

theorem AtI.upd0 (h : AtI B w0 W i st ss) (hu : Upd [] W W') : AtI B w0 W' i st ss := let ⟨x, h1, h2, h3⟩ := h; ⟨x, h1, h2, h3.upd0 hu⟩
theorem AtI.alloc (h : AtI B w0 W i st ss) (o : Obj) : AtI B w0 (W.alloc o) i st ss := h.upd0 ((Upd.refl _ _).alloc o)
theorem AtI.drew (h : AtI B w0 W i st ss) : AtI B w0 W.drew i st ss := h.upd0 (Upd.refl _ _).drew
theorem AtI.below (h : AtI B w0 W i st ss) : Below B w0 W := let ⟨_, _, _, h3⟩ := h; h3.below
theorem AtI.ss_own (h : AtI B w0 W i st ss) : Own B w0 W ss := let ⟨_, _, _, h3⟩ := h; h3.drop

/-- A new block beside it. -/
theorem ai_box (h : AtI B w0 W i st ss) (o : Obj) : AtI B w0 (W.alloc o) i st (blk W.heap.size o :: ss) := let ⟨x, h1, h2, h3⟩ := h; ⟨x, h1, h2, (h3.box o).swap⟩
theorem ai_blk {b : Nat} {o : Obj} (h : AtI B w0 W i st (blk b o :: ss)) : W.heap[b]? = some o := h.ss_own.blk_out
theorem ai_store {b : Nat} {o : Obj} (h : AtI B w0 W i st (blk b o :: ss)) (j : Nat) (v : Value) : AtI B w0 (W.setCell ⟨b, j, none⟩ v) i st (blk b (setIn j v o) :: ss) := let ⟨x, h1, h2, h3⟩ := h; ⟨x, h1, h2, (h3.swap.store j v).swap⟩
theorem ai_drop {r : Res} (h : AtI B w0 W i st (r :: ss)) : AtI B w0 W i st ss := let ⟨x, h1, h2, h3⟩ := h; ⟨x, h1, h2, h3.swap.drop⟩
theorem ai_perm {ss' : List Res} (h : AtI B w0 W i st ss) (hp : ss.Perm ss') : AtI B w0 W i st ss' := let ⟨x, h1, h2, h3⟩ := h; ⟨x, h1, h2, h3.perm (hp.cons _)⟩
theorem blk_ne {a b : Nat} {o p : Obj} (h : Own B w0 W (blk a o :: blk b p :: rs)) : a ≠ b := fun e => (List.pairwise_cons.1 h.apart).1 (blk b p) (by simp) a (by simp [blk]) (by simp [blk, e])
theorem ai_to (h : AtI B w0 W i st ss) (hb : Below W.heap.size W W') : AtI B w0 W' i st ss := h.upd0 (Upd.of_below hb)
theorem ai_red {v : Value} {sz n : Nat} {xs : List Value} (h : AtI B w0 W i st ss) (hr : Reads W' v sz n xs) (hu : Upd [] W W') (hk : ∀ k ∈ blkIf n v, W.heap.size ≤ k) : AtI B w0 W' i st (redR v sz n xs :: ss) :=
  let ⟨x, h1, h2, h3⟩ := h; ⟨x, h1, h2, ((h3.upd0 hu).red hr (fun k hkk => h3.fresh (hk k hkk))).swap⟩

theorem ai_new (f : Nat) (num ahead : Int) (hf1 : 1 ≤ f) (hf2 : f ≤ 4) (hn1 : 0 ≤ num) (hn2 : num ≤ f) (ha1 : 1 ≤ ahead) (ha2 : ahead ≤ 16) (h : Own B w0 W ss) :
    Calls Tryz.prog 82 #[.int .i64 f, .int .i64 num, .int .i64 ahead] W fun e w' => ∃ i, e = .returned (.tuple #[.pointer (some ⟨i, 0, none⟩), .int .i64 0]) ∧ AtI B w0 w' i (newI f num ahead) ss := by
  refine (ins_new f num ahead hf1 hf2 hn1 hn2 ha1 ha2 h).mono ?_
  rintro e w' ⟨x, he, hs, ho⟩
  exact ⟨x.i, he, x, rfl, hs, ho⟩

theorem ai_vote (h : AtI B w0 W i st ss) (kind seq node sl : Int) (v : Value) (l : List Rq) (hb : Bat W v l) (hn : l.length ≤ 100000) :
    Calls Tryz.prog 236 #[.pointer (some ⟨i, 0, none⟩), .int .i64 kind, .int .i64 seq, .int .i64 node, .int .i64 sl, v] W fun e w' => e = .returned (.bool (voteB st kind seq node)) ∧ AtI B w0 w' i (voteI st kind seq node sl l) ss := by
  obtain ⟨x, h1, rfl, h3⟩ := h
  exact ins_vote h3 h1 kind seq node sl v l hb hn

theorem ai_pre (h : AtI B w0 W i st ss) (seq : Int) (v : Value) (l : List Rq) (hb : Bat W v l) (hn : l.length ≤ 100000) :
    Calls Tryz.prog 159 #[.pointer (some ⟨i, 0, none⟩), .int .i64 seq, v] W fun e w' => e = .returned (.bool (preB st seq)) ∧ AtI B w0 w' i (preI st seq l) ss := by
  obtain ⟨x, h1, rfl, h3⟩ := h
  exact ins_pre h3 h1 seq v l hb hn

theorem ai_done (h : AtI B w0 W i st ss) : Calls Tryz.prog 156 #[.pointer (some ⟨i, 0, none⟩)] W fun e w' => e = .returned (.int .i64 (doneI st)) ∧ W = w' := by
  obtain ⟨x, h1, rfl, h3⟩ := h
  exact ins_done h3 h1

theorem ai_next (h : AtI B w0 W i st ss) : Calls Tryz.prog 154 #[.pointer (some ⟨i, 0, none⟩)] W fun e w' => e = .returned (.int .i64 (nextI st)) ∧ Upd [] W w' := by
  obtain ⟨x, h1, rfl, h3⟩ := h
  exact ins_next h3 h1

theorem ai_installed (h : AtI B w0 W i st ss) : Calls Tryz.prog 73 #[.pointer (some ⟨i, 0, none⟩)] W fun e w' => e = .returned (.bool st.on) ∧ W = w' := by
  obtain ⟨x, h1, rfl, h3⟩ := h
  exact ins_installed h3 h1

theorem ai_chosen (h : AtI B w0 W i st ss) (seq : Int) : Calls Tryz.prog 220 #[.pointer (some ⟨i, 0, none⟩), .int .i64 seq] W (ChosenP W (chosenI st seq)) := by
  obtain ⟨x, h1, rfl, h3⟩ := h
  exact ins_chosen h3 h1 seq

/-- A certificate that was told, in new memory; or none. -/
def Told (W w' : World) (r : Option Cp) (c : Ct) : Prop :=
  c.cp = r.getD noCp ∧ (c.rs.length ≤ 100000 ∧ c.vs.length ≤ 100000) ∧ Bat w' c.vb c.rs ∧ Vts w' c.vv c.vs ∧ (∀ k ∈ blkOf c.vb, W.heap.size ≤ k) ∧ ∀ k ∈ blkOf c.vv, W.heap.size ≤ k

theorem told_form {r : Option Cp} {c : Ct} {p : Cp} (h : Told W W' r c) (hp : r.getD noCp = p) : ∃ ao cap co cav, c = ⟨p.view, p.inst, p.seq, .slice ao p.rs.length cap, .slice co p.vs.length cav, p.rs, p.vs⟩ ∧ (p.rs.length ≤ 100000 ∧ p.vs.length ≤ 100000) ∧
    Bat W' (.slice ao p.rs.length cap) p.rs ∧ Vts W' (.slice co p.vs.length cav) p.vs ∧ (∀ k ∈ blkOf (.slice ao p.rs.length cap), W.heap.size ≤ k) ∧ ∀ k ∈ blkOf (.slice co p.vs.length cav), W.heap.size ≤ k := by
  subst hp
  obtain ⟨view, inst, seq, vb, vv, rs, vs⟩ := c
  obtain ⟨h1, h2, h3, h4, h5, h6⟩ := h
  simp only [Ct.cp] at h1 h2 h3 h4 h5 h6
  rw [← h1]
  obtain ⟨ao, cap, rfl⟩ := bat_form h3
  obtain ⟨co, cav, rfl⟩ := vts_form h4
  exact ⟨ao, cap, co, cav, rfl, h2, h3, h4, h5, h6⟩

theorem ai_commits (h : AtI B w0 W i st ss) (seq : Int) : Calls Tryz.prog 256 #[.pointer (some ⟨i, 0, none⟩), .int .i64 seq] W fun e w' => ∃ c : Ct, e = .returned (.tuple #[ctAgg c, .bool (commI st seq).isSome]) ∧ Told W w' (commI st seq) c ∧ AtI B w0 w' i (commitsI st seq) ss := by
  obtain ⟨x, h1, rfl, h3⟩ := h
  refine (ins_commits h3 h1 seq).mono ?_
  rintro e w' ⟨c, he, hc, hn, hb, hv, n1, n2, x', e1, e2, e3⟩
  exact ⟨c, he, ⟨hc, hn, hb, hv, n1, n2⟩, x', e1, e2, e3.drop.drop⟩

end

def wk : Nat → In
  | 0 => newI 1 0 4
  | k + 1 => voteI (wk k) 5 1 k 5 [rq 0 1]

theorem wk_end : commI (wk 3) 1 = some ⟨0, 0, 1, [rq 0 1], [(0, 5), (1, 5), (2, 5)]⟩ := by decide +kernel
theorem wk_done : doneI (commitsI (wk 3) 1) = 1 := by decide +kernel

end Go.Proofs.YtannckelmojkoaaGreat

/- inst: Committed, Prepared. -/
namespace Go.Proofs.YtannckelmojkoaaGreat
open Go.RowKit Go.Heap

section
variable {B : Nat} {w0 W W' : World} {ss rs : List Res} {x : Ins}

set_option maxHeartbeats 2000000 in
set_option maxRecDepth 100000 in
theorem ins_committed (h : Own B w0 W (instR x :: ss)) {i : Nat} (hi : x.i = i) (seq : Int) : Calls Tryz.prog 110 #[.pointer (some ⟨i, 0, none⟩), .int .i64 seq] W (CertP B w0 W i (committedI x.st seq) x.st ss) := by
  subst hi
  have hz := own_open (h.box zct).swap
  obtain ⟨-, -, -, -, -, c5, l1, l2⟩ := oi_cells hz
  cases hk : idx seq with
  | none =>
    have hs := idx_none hk
    have HE := Lib.hid (show committedI x.st seq = none by simp [committedI, plAt_none hk])
    have HA := Lib.hid (at_no x.i x.b x.cap seq _ hs c5)
    have H := Lib.hid h
    clear hz h hk hs c5
    go_enter Tryz.func110, Tryz.ntmps110
    go_wp2_with fail
    refine HA.out.mono ?_
    rintro e w' ⟨rfl, rfl⟩
    go_wp2_with fail
    exact bodyPost_ret (v := .tuple #[ctAgg noCt, .bool false]) (by simp [results, Tryz.results110, go_sem, noCt]) rfl (certP_none (H.out.upd0 ((Upd.refl _ _).alloc _)) HE.out rfl)
  | some k =>
    obtain ⟨hl, hp⟩ := plAt_some (oi_ok hz) hk
    obtain ⟨i1, i2⟩ := idx_lt hk
    have HA := Lib.hid (at_yes x.i x.b x.cap seq _ (by omega) (by omega) c5)
    have hks : seq.toNat - 1 = k := by omega
    rw [hks] at HA
    have cd := oi_done hz k hl
    cases hd : x.l[k].done
    · rw [hd] at cd
      have HE := Lib.hid (show committedI x.st seq = none by simp only [committedI, hp]; simp [Pm.pl, hd])
      have H := Lib.hid h
      clear hz h hk hp i2 hks hd c5
      go_enter Tryz.func110, Tryz.ntmps110
      go_wp2_with fail
      refine HA.out.mono ?_
      rintro e w' ⟨rfl, rfl⟩
      go_wp2_with fail
      exact bodyPost_ret (v := .tuple #[ctAgg noCt, .bool false]) (by simp [results, Tryz.results110, go_sem, noCt]) rfl (certP_none (H.out.upd0 ((Upd.refl _ _).alloc _)) HE.out rfl)
    · rw [hd] at cd
      have HCI := Lib.hid (show committedI x.st seq = some x.l[k].dw.cp by simp only [committedI, hp]; simp [Pm.pl, hd])
      have c9 := oi_at hz k hl 9 (by omega)
      have c10 := oi_at hz k hl 10 (by omega)
      have c11 := oi_at hz k hl 11 (by omega)
      have c12 := oi_at hz k hl 12 (by omega)
      have c13 := oi_at hz k hl 13 (by omega)
      simp only [pmCells, List.getElem?_cons_succ, List.getElem?_cons_zero] at c9 c10 c11 c12 c13
      obtain ⟨-, q1, q2, q3, q4⟩ := oi_cert hz k hl
      have HF := Lib.hid (fresh_ct x.l[k].dw _ q1 q3 q2 q4)
      have HZ := Lib.hid hz
      clear hz h hk hp i2 hks hd c5 q1 q2
      generalize x.l[k].dw = c at *
      go_enter Tryz.func110, Tryz.ntmps110
      go_wp2_with fail
      refine HA.out.mono ?_
      rintro e w' ⟨rfl, rfl⟩
      go_wp2_with fail
      refine HF.out.mono ?_
      rintro e w5 ⟨⟨view', inst', seq', vb', vv', rs', vs'⟩, rfl, hcp, hu5, hb5, hv5, nb, nv⟩
      simp only at hb5 hv5 nb nv
      obtain ⟨ao6, cap6, rfl⟩ := bat_form hb5
      obtain ⟨co6, cav6, rfl⟩ := vts_form hv5
      have H5 := Lib.hid ((own_red2 (own_shut HZ.out).swap hu5 hb5 hv5 nb nv).rot)
      have HCP := Lib.hid hcp
      have HB5 := Lib.hid hb5
      have HV5 := Lib.hid hv5
      have NB := Lib.hid nb
      have NV := Lib.hid nv
      clear hcp hu5 hb5 hv5 nb nv HZ HF c9 c10 c11 c12 c13 cd
      obtain ⟨f0, f1, f2, f3, f4, fl, fz⟩ := ct_cells H5.out.blk_out
      have fz0 := fz 0
      have fz1 := fz 1
      have fz2 := fz 2
      have fz3 := fz 3
      have fz4 := fz 4
      clear fz
      go_wp2_with fail
      have H6 := Lib.hid (own_st5 H5.out view' inst' seq' (.slice ao6 rs'.length cap6) (.slice co6 vs'.length cav6))
      have HU6 := Lib.hid (upd_st5 w5 W.heap.size view' inst' seq' (.slice ao6 rs'.length cap6) (.slice co6 vs'.length cav6))
      generalize ((((w5.setCell ⟨W.heap.size, 0, none⟩ (.int .i64 view')).setCell ⟨W.heap.size, 1, none⟩ (.int .i64 inst')).setCell ⟨W.heap.size, 2, none⟩ (.int .i64 seq')).setCell ⟨W.heap.size, 3, none⟩ (.slice ao6 rs'.length cap6)).setCell ⟨W.heap.size, 4, none⟩ (.slice co6 vs'.length cav6) = w6 at *
      clear f0 f1 f2 f3 f4 fl fz0 fz1 fz2 fz3 fz4 H5
      obtain ⟨f0, f1, f2, f3, f4, fl, -⟩ := ct_cells H6.out.blk_out
      refine bodyPost_ret (v := .tuple #[ctAgg ⟨view', inst', seq', .slice ao6 rs'.length cap6, .slice co6 vs'.length cav6, rs', vs'⟩, .bool true]) (by simp [results, Tryz.results110, go_sem, f0, f1, f2, f3, f4]) rfl ?_
      have hcp := HCP.out
      have e4 : rs' = c.rs := congrArg Cp.rs hcp
      have e5 : vs' = c.vs := congrArg Cp.vs hcp
      have hnew : ∀ (v : Value), (∀ k ∈ blkOf v, (W.alloc zct).heap.size ≤ k) → (∀ k ∈ blkOf v, W.heap.size ≤ k) ∧ ∀ k ∈ blkOf v, k ∉ [W.heap.size] := fun v hv => ⟨fun k hk => by have := hv k hk; simp at this; omega, fun k hk hn => by have := hv k hk; simp at this hn; omega⟩
      refine ⟨⟨view', inst', seq', .slice ao6 rs'.length cap6, .slice co6 vs'.length cav6, rs', vs'⟩, ?_, ?_, ⟨by simp only [e4]; exact q3, by simp only [e5]; exact q4⟩, HB5.out.upd HU6.out (hnew _ NB.out).2, Reads.upd HV5.out HU6.out (hnew _ NV.out).2, (hnew _ NB.out).1, (hnew _ NV.out).1, x, rfl, rfl, H6.out.drop⟩
      · rw [HCI.out]; rfl
      · rw [HCI.out]; exact hcp

theorem ai_committed {i : Nat} {st : In} (h : AtI B w0 W i st ss) (seq : Int) : Calls Tryz.prog 110 #[.pointer (some ⟨i, 0, none⟩), .int .i64 seq] W fun e w' => ∃ c : Ct, e = .returned (.tuple #[ctAgg c, .bool (committedI st seq).isSome]) ∧ Told W w' (committedI st seq) c ∧ AtI B w0 w' i st ss := by
  obtain ⟨x, h1, rfl, h3⟩ := h
  refine (ins_committed h3 h1 seq).mono ?_
  rintro e w' ⟨c, he, hc, hn, hb, hv, n1, n2, x', e1, e2, e3⟩
  exact ⟨c, he, ⟨hc, hn, hb, hv, n1, n2⟩, x', e1, e2, e3.drop.drop⟩

end
end Go.Proofs.YtannckelmojkoaaGreat

/- InstGaps: the plain laws. -/
namespace Go.Proofs.YtannckelmojkoaaGreat
open Go.RowKit Go.Heap

theorem upd_upd (st : In) (k : Nat) (f g : Pl → Pl) : (st.upd k f).upd k g = st.upd k (fun p => g (f p)) := by
  simp only [In.upd, In.mk.injEq, true_and]
  apply List.ext_getElem?
  intro j
  simp only [List.getElem?_modify]
  by_cases e : k = j
  · subst e
    cases st.l[k]? <;> simp
  · simp [e]

theorem upd_congr {st : In} {k : Nat} {f g : Pl → Pl} (h : ∀ p, st.l[k]? = some p → f p = g p) : st.upd k f = st.upd k g := by
  simp only [In.upd, In.mk.injEq, true_and]
  apply List.ext_getElem?
  intro j
  simp only [List.getElem?_modify]
  by_cases e : k = j
  · subst e
    cases hq : st.l[k]? with
    | none => simp
    | some p => simp [h p hq]
  · simp [e]

theorem upd_id {st : In} {k : Nat} {f : Pl → Pl} (h : ∀ p, st.l[k]? = some p → f p = p) : st.upd k f = st := by
  rw [upd_congr (g := id) (by simpa using h), In.upd, List.modify_id]

theorem upd_at {st : In} {k : Nat} {f : Pl → Pl} : (st.upd k f).l[k]? = st.l[k]?.map f := by
  simp [In.upd]

def cs3 (b : List Rq) (n : Nat) : List Vt := (List.range 4).map fun i => if i < n then ⟨true, 1, b⟩ else noVt
def vPl (k n : Nat) : Pl := { emptyPl 1 with sl := { emptySl 1 with cs := cs3 [rq 0 k] n } }
def gCp (k : Nat) : Cp := ⟨0, 0, k, [rq 0 k], [(0, 1), (1, 1), (2, 1)]⟩
def gPl (k : Nat) : Pl := { vPl k 3 with done := true, dw := gCp k }
/-- Those of h are committed. -/
def gp (h : Nat → Bool) : In := ⟨1, 0, 1, 0, true, (List.range 16).map fun j => if h (j + 1) then gPl (j + 1) else emptyPl 1⟩
/-- n votes for k have come. -/
def vk (h : Nat → Bool) (k n : Nat) : In := (gp h).upd (k - 1) fun p => if h k then p else vPl k n

theorem gp_at (h : Nat → Bool) (k : Nat) (h1 : 1 ≤ k) (h2 : k ≤ 16) : (gp h).l[k - 1]? = some (if h k then gPl k else emptyPl 1) := by
  simp only [gp, List.getElem?_map, List.getElem?_range (show k - 1 < 16 by omega), Option.map_some, show k - 1 + 1 = k by omega]

theorem vk_at (h : Nat → Bool) (k n : Nat) (h1 : 1 ≤ k) (h2 : k ≤ 16) : (vk h k n).l[k - 1]? = some (if h k then gPl k else vPl k n) := by
  rw [vk, upd_at, gp_at h k h1 h2]
  cases h k <;> rfl

theorem gp_new : newI 1 0 1 = gp (fun _ => false) := rfl
theorem vk_zero (h : Nat → Bool) (k : Nat) (h1 : 1 ≤ k) (h2 : k ≤ 16) : vk h k 0 = gp h := by
  refine upd_id fun p hp => ?_
  rw [gp_at h k h1 h2] at hp
  simp only [Option.some.injEq] at hp
  subst hp
  cases h k <;> rfl

theorem idx_nat (k : Nat) (h1 : 1 ≤ k) (h2 : k ≤ 16) : idx (k : Int) = some (k - 1) := by
  rw [idx_of (by omega) (by omega)]
  simp

theorem vk_vote (h : Nat → Bool) (k n : Nat) (h1 : 1 ≤ k) (h2 : k ≤ 16) (hn : n < 3) : voteI (vk h k n) 5 k n 1 [rq 0 k] = vk h k (n + 1) := by
  unfold voteI
  rw [idx_nat k h1 h2]
  simp only [show (vk h k n).on = true from rfl, if_true]
  rw [vk, upd_upd, vk]
  refine upd_congr fun p hp => ?_
  rw [gp_at h k h1 h2] at hp
  simp only [Option.some.injEq] at hp
  subst hp
  cases h k
  · match n, hn with
    | 0, _ => simp [voteS, canVote, listOf, openB, vPl, cs3, emptyPl, noVt, List.range, List.range.loop]
    | 1, _ => simp [voteS, canVote, listOf, openB, vPl, cs3, emptyPl, noVt, List.range, List.range.loop]
    | 2, _ => simp [voteS, canVote, listOf, openB, vPl, cs3, emptyPl, noVt, List.range, List.range.loop]
  · match n, hn with
    | 0, _ => simp [voteS, canVote, listOf, openB, gPl, vPl, cs3, noVt, List.range, List.range.loop]
    | 1, _ => simp [voteS, canVote, listOf, openB, gPl, vPl, cs3, noVt, List.range, List.range.loop]
    | 2, _ => simp [voteS, canVote, listOf, openB, gPl, vPl, cs3, noVt, List.range, List.range.loop]

theorem vPl_comm (k : Nat) : committedS 1 (vPl k 3).sl = some ([rq 0 k], [(0, 1), (1, 1), (2, 1)]) := by
  simp [committedS, committedL, enoughS, picks, goodB, vPl, cs3, noVt, List.range, List.range.loop]

theorem vk_comm (h : Nat → Bool) (k : Nat) (h1 : 1 ≤ k) (h2 : k ≤ 16) : commI (vk h k 3) k = if h k then none else some (gCp k) := by
  unfold commI plAt
  rw [idx_nat k h1 h2, Option.bind_some, vk_at h k 3 h1 h2]
  cases hk : h k
  · simp only [Bool.false_eq_true, if_false]
    rw [show (vk h k 3).f = 1 from rfl, vPl_comm]
    rfl
  · rfl

def addH (h : Nat → Bool) (m : Nat) : Nat → Bool := fun j => h j || decide (j = m)
theorem addH_self (h : Nat → Bool) (m : Nat) : addH h m m = true := by simp [addH]

theorem vk_commits (h : Nat → Bool) (k : Nat) (h1 : 1 ≤ k) (h2 : k ≤ 16) : commitsI (vk h k 3) k = gp (addH h k) := by
  unfold commitsI
  rw [idx_nat k h1 h2, vk_comm h k h1 h2]
  cases hk : h k
  · simp only [Bool.false_eq_true, if_false]
    rw [vk, upd_upd]
    simp only [In.upd, gp, In.mk.injEq, true_and]
    apply List.ext_getElem?
    intro j
    simp only [List.getElem?_modify, List.getElem?_map]
    by_cases hj : j < 16
    · rw [List.getElem?_range hj]
      simp only [Option.map_some]
      by_cases e : k - 1 = j
      · subst e
        have e2 : k - 1 + 1 = k := by omega
        simp only [e2, addH_self, if_true, hk]
        rfl
      · have e3 : addH h k (j + 1) = h (j + 1) := by simp [addH]; omega
        simp only [if_neg e, e3]
        rfl
    · rw [List.getElem?_eq_none (by simpa using hj)]
      rfl
  · simp only [if_true]
    have e : addH h k = h := by
      funext j
      simp only [addH]
      by_cases e : j = k
      · subst e; simp [hk]
      · simp [e]
    rw [e]
    exact upd_id fun p _ => by simp [hk]

/-- No number but those from 1 to 16. -/
def Only (h : Nat → Bool) : Prop := ∀ j, h j = true → 1 ≤ j ∧ j ≤ 16

theorem only_add {h : Nat → Bool} {m : Nat} (ho : Only h) (h1 : 1 ≤ m) (h2 : m ≤ 16) : Only (addH h m) := by
  intro j hj
  simp only [addH, Bool.or_eq_true, decide_eq_true_eq] at hj
  rcases hj with hj | rfl
  · exact ho j hj
  · exact ⟨h1, h2⟩

/-- What is done: what stands from 1 on without a gap. -/
theorem gp_done (h : Nat → Bool) (n : Nat) (hn : n ≤ 16) (h1 : ∀ j, 1 ≤ j → j ≤ n → h j = true) (h2 : n < 16 → h (n + 1) = false) : doneI (gp h) = n := by
  refine take_while _ n (fun j hj hjn => ?_) (by simp [gp]; omega) (fun hj => ?_)
  · simp only [gp, List.getElem_map, List.getElem_range]
    rw [if_pos (h1 (j + 1) (by omega) (by omega))]
    rfl
  · simp only [gp, List.getElem_map, List.getElem_range]
    rw [if_neg (by rw [h2 (by simpa [gp] using hj)]; simp)]
    rfl

end Go.Proofs.YtannckelmojkoaaGreat
