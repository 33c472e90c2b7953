/- inst: a place is written; Commits. -/
import Derived.Test.YtdeadekeffficaaInF
namespace Go.Proofs.Ytdeadekeffficaa
open Go.RowKit Go.Heap

theorem put_step {l : List Pm} {k : Nat} (hk : k < l.length) (x y : Pm) (r : Nat) (v : Value) (hr : r < 14) (h : pmCells y = (pmCells x).set r v) : ((l.set k x).flatMap pmCells).set (k * 14 + r) v = (l.set k y).flatMap pmCells := by
  rw [flat_set (cells := pmCells) (sz := 14) (fun _ => rfl) (l.set k x) k r x y v (List.getElem?_set_self hk) hr h, List.set_set]

theorem put_done (l : List Pm) (k : Nat) (hk : k < l.length) (c : Ct) :
    ((((((l.flatMap pmCells).set (k * 14 + 8) (.bool true)).set (k * 14 + 9) (.int .i64 c.view)).set (k * 14 + 10) (.int .i64 c.inst)).set (k * 14 + 11) (.int .i64 c.seq)).set (k * 14 + 12) c.vb).set (k * 14 + 13) c.vv =
      (l.set k { l[k] with done := true, dw := c }).flatMap pmCells := by
  have e : l.flatMap pmCells = (l.set k l[k]).flatMap pmCells := by rw [List.set_getElem_self]
  rw [e]
  generalize l[k] = p
  obtain ⟨lc, sl, told, has, ct, done, ⟨a, b, d, e, f, g, h⟩⟩ := p
  obtain ⟨a', b', d', e', f', g', h'⟩ := c
  rw [put_step hk ⟨lc, sl, told, has, ct, done, ⟨a, b, d, e, f, g, h⟩⟩ ⟨lc, sl, told, has, ct, true, ⟨a, b, d, e, f, g, h⟩⟩ 8 (.bool true) (by omega) rfl, put_step hk ⟨lc, sl, told, has, ct, true, ⟨a, b, d, e, f, g, h⟩⟩ ⟨lc, sl, told, has, ct, true, ⟨a', b, d, e, f, g, h⟩⟩ 9 (.int .i64 a') (by omega) rfl, put_step hk ⟨lc, sl, told, has, ct, true, ⟨a', b, d, e, f, g, h⟩⟩ ⟨lc, sl, told, has, ct, true, ⟨a', b', d, e, f, g, h⟩⟩ 10 (.int .i64 b') (by omega) rfl, put_step hk ⟨lc, sl, told, has, ct, true, ⟨a', b', d, e, f, g, h⟩⟩ ⟨lc, sl, told, has, ct, true, ⟨a', b', d', e, f, g, h⟩⟩ 11 (.int .i64 d') (by omega) rfl, put_step hk ⟨lc, sl, told, has, ct, true, ⟨a', b', d', e, f, g, h⟩⟩ ⟨lc, sl, told, has, ct, true, ⟨a', b', d', e', f, g, h⟩⟩ 12 e' (by omega) rfl, put_step hk ⟨lc, sl, told, has, ct, true, ⟨a', b', d', e', f, g, h⟩⟩ ⟨lc, sl, told, has, ct, true, ⟨a', b', d', e', f', g', h'⟩⟩ 13 f' (by omega) rfl]

theorem put_cert (l : List Pm) (k : Nat) (hk : k < l.length) (c : Ct) :
    (((((((l.flatMap pmCells).set (k * 14 + 1) (.bool true)).set (k * 14 + 2) (.bool true)).set (k * 14 + 3) (.int .i64 c.view)).set (k * 14 + 4) (.int .i64 c.inst)).set (k * 14 + 5) (.int .i64 c.seq)).set (k * 14 + 6) c.vb).set (k * 14 + 7) c.vv =
      (l.set k { l[k] with told := true, has := true, ct := c }).flatMap pmCells := by
  have e : l.flatMap pmCells = (l.set k l[k]).flatMap pmCells := by rw [List.set_getElem_self]
  rw [e]
  generalize l[k] = p
  obtain ⟨lc, sl, told, has, ⟨a, b, d, e, f, g, h⟩, done, dw⟩ := p
  obtain ⟨a', b', d', e', f', g', h'⟩ := c
  rw [put_step hk ⟨lc, sl, told, has, ⟨a, b, d, e, f, g, h⟩, done, dw⟩ ⟨lc, sl, true, has, ⟨a, b, d, e, f, g, h⟩, done, dw⟩ 1 (.bool true) (by omega) rfl, put_step hk ⟨lc, sl, true, has, ⟨a, b, d, e, f, g, h⟩, done, dw⟩ ⟨lc, sl, true, true, ⟨a, b, d, e, f, g, h⟩, done, dw⟩ 2 (.bool true) (by omega) rfl, put_step hk ⟨lc, sl, true, true, ⟨a, b, d, e, f, g, h⟩, done, dw⟩ ⟨lc, sl, true, true, ⟨a', b, d, e, f, g, h⟩, done, dw⟩ 3 (.int .i64 a') (by omega) rfl, put_step hk ⟨lc, sl, true, true, ⟨a', b, d, e, f, g, h⟩, done, dw⟩ ⟨lc, sl, true, true, ⟨a', b', d, e, f, g, h⟩, done, dw⟩ 4 (.int .i64 b') (by omega) rfl, put_step hk ⟨lc, sl, true, true, ⟨a', b', d, e, f, g, h⟩, done, dw⟩ ⟨lc, sl, true, true, ⟨a', b', d', e, f, g, h⟩, done, dw⟩ 5 (.int .i64 d') (by omega) rfl, put_step hk ⟨lc, sl, true, true, ⟨a', b', d', e, f, g, h⟩, done, dw⟩ ⟨lc, sl, true, true, ⟨a', b', d', e', f, g, h⟩, done, dw⟩ 6 e' (by omega) rfl, put_step hk ⟨lc, sl, true, true, ⟨a', b', d', e', f, g, h⟩, done, dw⟩ ⟨lc, sl, true, true, ⟨a', b', d', e', f', g', h'⟩, done, dw⟩ 7 f' (by omega) rfl]

theorem put_done' (l : List Pm) (k : Nat) (hk : k < l.length) (c : Ct) :
    ((((((l.flatMap pmCells).set (k * 14 + 8) (.bool true)).set (k * 14 + 9) (.int .i64 c.view)).set (k * 14 + 9 + 1) (.int .i64 c.inst)).set (k * 14 + 9 + 2) (.int .i64 c.seq)).set (k * 14 + 9 + 3) c.vb).set (k * 14 + 9 + 4) c.vv =
      (l.set k { l[k] with done := true, dw := c }).flatMap pmCells := put_done l k hk c
theorem put_cert' (l : List Pm) (k : Nat) (hk : k < l.length) (c : Ct) :
    (((((((l.flatMap pmCells).set (k * 14 + 1) (.bool true)).set (k * 14 + 2) (.bool true)).set (k * 14 + 3) (.int .i64 c.view)).set (k * 14 + 3 + 1) (.int .i64 c.inst)).set (k * 14 + 3 + 2) (.int .i64 c.seq)).set (k * 14 + 3 + 3) c.vb).set (k * 14 + 3 + 4) c.vv =
      (l.set k { l[k] with told := true, has := true, ct := c }).flatMap pmCells := put_cert l k hk c

section
variable {B : Nat} {w0 W W' : World} {ss rs : List Res} {x : Ins} {v1 v2 : Value} {l : List Rq} {vs : Vs}

/-- A certificate comes into a place. -/
theorem oi_place {k : Nat} {p : Pm} {c : Ct} (h : Own B w0 W (redR c.vv 2 c.vs.length (vsCells c.vs) :: redR c.vb 6 c.rs.length (rqsCells c.rs) :: ([blk x.i x.o, segR x.b 122 ((x.l.set k p).flatMap pmCells), certsR x] ++ (x.l.map pmR ++ ss))))
    (hk : k < x.l.length) (hl : p.lc = x.l[k].lc) (hs : p.sl = x.l[k].sl) (hn : c.rs.length ≤ 100000) (hm : c.vs.length ≤ 100000) (hc : (p.ct = c ∧ p.dw = x.l[k].dw) ∨ (p.ct = x.l[k].ct ∧ p.dw = c)) : OwnI B w0 W (x.sl k p) ss := by
  have hmap : (x.l.set k p).map pmR = x.l.map pmR := by
    rw [List.map_set, show pmR p = pmR x.l[k] by simp [pmR, hl, hs]]
    conv => lhs; arg 3; rw [← List.getElem_map (f := pmR) (h := by simpa using hk)]
    exact List.set_getElem_self _
  have h1 : Own B w0 W (certsR x :: redR c.vv 2 c.vs.length (vsCells c.vs) :: redR c.vb 6 c.rs.length (rqsCells c.rs) :: blk x.i x.o :: segR x.b 122 ((x.l.set k p).flatMap pmCells) :: (x.l.map pmR ++ ss)) := h.perm (List.perm_middle (l₁ := [_, _, _, _]))
  have h2 := h1.alter (r' := certsR (x.sl k p)) (by
    obtain ⟨D, ⟨⟨q1, q2⟩, q3⟩, q4, q5⟩ := h1.head
    obtain ⟨D1, ⟨v1, v2⟩, v3, _⟩ := (h1.all (redR c.vv 2 c.vs.length (vsCells c.vs)) (List.mem_cons_of_mem _ List.mem_cons_self)).1
    obtain ⟨D2, ⟨b1, b2⟩, b3, _⟩ := (h1.all (redR c.vb 6 c.rs.length (rqsCells c.rs)) (List.mem_cons_of_mem _ (List.mem_cons_of_mem _ List.mem_cons_self))).1
    have hnew : CtIn W c (D ++ (D1 ++ D2)) := ⟨b1.mono (by simp +contextual), hn, v1.mono (by simp +contextual), hm⟩
    have hold : ∀ p' ∈ x.l, CtIn W p'.ct (D ++ (D1 ++ D2)) ∧ CtIn W p'.dw (D ++ (D1 ++ D2)) := fun p' hp' => ⟨(q2 p' hp').1.mono (by simp +contextual), (q2 p' hp').2.mono (by simp +contextual)⟩
    refine ⟨D ++ (D1 ++ D2), ⟨⟨⟨by simpa using q1.n, q1.f1, q1.f2, fun p' hp' => ?_, q1.c1, q1.a1, q1.a2, q1.vw⟩, fun p' hp' => ?_⟩, fun k hk => ?_⟩, fun k hk => ?_, q5⟩
    · rcases List.mem_or_eq_of_mem_set hp' with hp' | rfl
      · exact q1.lf p' hp'
      · rw [hl]; exact q1.lf _ (by simp)
    · rcases List.mem_or_eq_of_mem_set hp' with hp' | rfl
      · exact hold p' hp'
      · rcases hc with ⟨e1, e2⟩ | ⟨e1, e2⟩
        · rw [e1, e2]; exact ⟨hnew, (hold _ (by simp)).2⟩
        · rw [e1, e2]; exact ⟨(hold _ (by simp)).1, hnew⟩
    · rcases List.mem_append.1 hk with hk | hk
      · exact q3 k hk
      · rcases List.mem_append.1 hk with hk | hk
        · exact v2 k hk
        · exact b2 k hk
    · rcases List.mem_append.1 hk with hk | hk
      · exact q4 k hk
      · rcases List.mem_append.1 hk with hk | hk
        · exact v3 k hk
        · exact b3 k hk) (by simp [certsR, imm])
  have h3 : Own B w0 W (blk x.i x.o :: segR x.b 122 ((x.l.set k p).flatMap pmCells) :: certsR (x.sl k p) :: (x.l.map pmR ++ ss)) := (h2.perm (List.perm_middle (l₁ := [_, _, _, _])).symm).drop.drop
  show Own B w0 W (insHd (x.sl k p) ++ ((x.l.set k p).map pmR ++ ss))
  rw [hmap]
  exact h3

/-- The six cells of a place that is done are stored. -/
theorem oi_dw (h : Own B w0 W (redR v2 2 vs.length (vsCells vs) :: redR v1 6 l.length (rqsCells l) :: (insHd x ++ (x.l.map pmR ++ ss)))) (k : Nat) (hk : k < x.l.length) (view inst seq : Int) (hn : l.length ≤ 100000) (hm : vs.length ≤ 100000) :
    OwnI B w0 ((((((W.setCell ⟨x.b, k * 14 + 8, none⟩ (.bool true)).setCell ⟨x.b, k * 14 + 9, none⟩ (.int .i64 view)).setCell ⟨x.b, k * 14 + 9 + 1, none⟩ (.int .i64 inst)).setCell ⟨x.b, k * 14 + 9 + 2, none⟩ (.int .i64 seq)).setCell ⟨x.b, k * 14 + 9 + 3, none⟩ v1).setCell ⟨x.b, k * 14 + 9 + 4, none⟩ v2)
      (x.sl k { x.l[k] with done := true, dw := ⟨view, inst, seq, v1, v2, l, vs⟩ }) ss := by
  have h1 := (((((((h.perm (List.perm_middle (l₁ := [_, _, _]))).put (k * 14 + 8) (.bool true)).put (k * 14 + 9) (.int .i64 view)).put (k * 14 + 9 + 1) (.int .i64 inst)).put (k * 14 + 9 + 2) (.int .i64 seq)).put (k * 14 + 9 + 3) v1).put (k * 14 + 9 + 4) v2)
  rw [put_done' x.l k hk ⟨view, inst, seq, v1, v2, l, vs⟩] at h1
  exact oi_place (c := ⟨view, inst, seq, v1, v2, l, vs⟩) (h1.perm (List.perm_middle (l₁ := [_, _, _])).symm) hk rfl rfl hn hm (.inr ⟨rfl, rfl⟩)
theorem oi_ct (h : Own B w0 W (redR v2 2 vs.length (vsCells vs) :: redR v1 6 l.length (rqsCells l) :: (insHd x ++ (x.l.map pmR ++ ss)))) (k : Nat) (hk : k < x.l.length) (view inst seq : Int) (hn : l.length ≤ 100000) (hm : vs.length ≤ 100000) :
    OwnI B w0 (((((((W.setCell ⟨x.b, k * 14 + 1, none⟩ (.bool true)).setCell ⟨x.b, k * 14 + 2, none⟩ (.bool true)).setCell ⟨x.b, k * 14 + 3, none⟩ (.int .i64 view)).setCell ⟨x.b, k * 14 + 3 + 1, none⟩ (.int .i64 inst)).setCell ⟨x.b, k * 14 + 3 + 2, none⟩ (.int .i64 seq)).setCell ⟨x.b, k * 14 + 3 + 3, none⟩ v1).setCell ⟨x.b, k * 14 + 3 + 4, none⟩ v2)
      (x.sl k { x.l[k] with told := true, has := true, ct := ⟨view, inst, seq, v1, v2, l, vs⟩ }) ss := by
  have h1 := ((((((((h.perm (List.perm_middle (l₁ := [_, _, _]))).put (k * 14 + 1) (.bool true)).put (k * 14 + 2) (.bool true)).put (k * 14 + 3) (.int .i64 view)).put (k * 14 + 3 + 1) (.int .i64 inst)).put (k * 14 + 3 + 2) (.int .i64 seq)).put (k * 14 + 3 + 3) v1).put (k * 14 + 3 + 4) v2)
  rw [put_cert' x.l k hk ⟨view, inst, seq, v1, v2, l, vs⟩] at h1
  exact oi_place (c := ⟨view, inst, seq, v1, v2, l, vs⟩) (h1.perm (List.perm_middle (l₁ := [_, _, _])).symm) hk rfl rfl hn hm (.inl ⟨rfl, rfl⟩)

/-- What a call leaves that tells a certificate, or none. -/
def CertP (B : Nat) (w0 W : World) (i : Nat) (r : Option Cp) (st : In) (ss : List Res) (e : Ending) (w' : World) : Prop :=
  ∃ c : Ct, e = .returned (.tuple #[ctAgg c, .bool r.isSome]) ∧ c.cp = r.getD noCp ∧ (c.rs.length ≤ 100000 ∧ c.vs.length ≤ 100000) ∧ Bat w' c.vb c.rs ∧ Vts w' c.vv c.vs ∧ (∀ k ∈ blkOf c.vb, W.heap.size ≤ k) ∧ (∀ k ∈ blkOf c.vv, W.heap.size ≤ k) ∧
    ∃ x' : Ins, x'.i = i ∧ x'.st = st ∧ Own B w0 w' (redR c.vv 2 c.vs.length (vsCells c.vs) :: redR c.vb 6 c.rs.length (rqsCells c.rs) :: instR x' :: ss)

def noCt : Ct := ⟨0, 0, 0, .slice none 0 0, .slice none 0 0, [], []⟩

theorem certP_none {st : In} {r : Option Cp} (h : Own B w0 W' (instR x :: ss)) (hr : r = none) (hst : st = x.st) : CertP B w0 W x.i r st ss (.returned (.tuple #[ctAgg noCt, .bool false])) W' := by
  subst hr
  exact ⟨noCt, rfl, rfl, by simp [noCt], Reads.nil _ _, Reads.nil _ _, by simp [noCt, blkOf], by simp [noCt, blkOf], x, rfl, hst.symm, (h.red (Reads.nil _ _) (by simp [blkIf])).red (Reads.nil _ _) (by simp [blkIf, noCt])⟩

end
end Go.Proofs.Ytdeadekeffficaa
