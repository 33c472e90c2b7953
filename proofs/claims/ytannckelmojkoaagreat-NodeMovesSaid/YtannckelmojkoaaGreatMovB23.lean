/- Parts of the proof, one behind the other. -/
import Derived.Test.YtannckelmojkoaaGreatMovB22

/- A node's instances, votes, clock, rows: how one of them is worked on. -/
namespace Go.Proofs.YtannckelmojkoaaGreat
open Go.RowKit Go.Heap

theorem fn_zero : FloatKind.f64.nearest 0 = 0 := by kernel_rfl

section
variable {B : Nat} {w0 w W W' : World} {ss rs : List Res} {x : Np} {s s' : Ns} {l l' : Nt}

/-- An instance is worked on. -/
theorem NdIs.inst (h : NdIs B w0 W x s l ss) (k : Nat) (hk : k < s.ins.length) : ∃ i rr, x.is[k]? = some i ∧ AtI B w0 W i s.ins[k] (ss ++ rr) ∧
    ∀ W' st' ss', InKeep s.ins[k] st' → AtI B w0 W' i st' (ss' ++ rr) → NdIs B w0 W' x { s with ins := s.ins.set k st' } l ss' := by
  obtain ⟨v, rr, c, d, g⟩ := h.lens 7 (by omega) (by omega)
  have hok := h.ok
  have hkx : k < v.xs.length := by rw [← c.xs, List.length_map] at hk; exact hk
  have d1 : Own B w0 W (joinR (inL x.ib x.is v.xs) :: (ss ++ rr)) := d
  have e1 : Own B w0 W (instR v.xs[k] :: ([segR x.ib 142 (x.is.map ptrV)] ++ ((v.xs.eraseIdx k).map instR ++ (ss ++ rr)))) := Own.pick (hd := [segR x.ib 142 (x.is.map ptrV)]) (f := instR) (l := v.xs) (ss := ss ++ rr) (Own.open (rs := inL x.ib x.is v.xs) d1) k hkx
  have hp : ∀ l' : List Res, ([segR x.ib 142 (x.is.map ptrV)] ++ ((v.xs.eraseIdx k).map instR ++ (l' ++ rr))).Perm (l' ++ (rr ++ ([segR x.ib 142 (x.is.map ptrV)] ++ (v.xs.eraseIdx k).map instR))) := fun l' => by
    have e1 : [segR x.ib 142 (x.is.map ptrV)] ++ ((v.xs.eraseIdx k).map instR ++ (l' ++ rr)) = ([segR x.ib 142 (x.is.map ptrV)] ++ (v.xs.eraseIdx k).map instR) ++ (l' ++ rr) := (List.append_assoc _ _ _).symm
    have e2 : l' ++ (rr ++ ([segR x.ib 142 (x.is.map ptrV)] ++ (v.xs.eraseIdx k).map instR)) = (l' ++ rr) ++ ([segR x.ib 142 (x.is.map ptrV)] ++ (v.xs.eraseIdx k).map instR) := (List.append_assoc _ _ _).symm
    rw [e1, e2]
    exact List.perm_append_comm
  have hst : v.xs[k].st = s.ins[k] := by
    have : (v.xs.map Ins.st)[k]'(by simpa using hkx) = s.ins[k] := by simp only [c.xs]
    simpa using this
  have hi : x.is[k]? = some v.xs[k].i := by rw [← c.is]; simp [hkx]
  refine ⟨v.xs[k].i, rr ++ ([segR x.ib 142 (x.is.map ptrV)] ++ (v.xs.eraseIdx k).map instR), hi, ⟨v.xs[k], rfl, hst, e1.perm ((hp ss).cons _)⟩, fun W' st' ss' kp ha => ?_⟩
  obtain ⟨y, y1, y2, y3⟩ := ha
  have e2 := Own.unpick (hd := [segR x.ib 142 (x.is.map ptrV)]) (ss := ss' ++ rr) (l := v.xs) k hkx (y3.perm ((hp ss').symm.cons _))
  refine g W' { s with ins := s.ins.set k st' } { v with xs := v.xs.set k y } ss' (joinR (inL x.ib x.is (v.xs.set k y))) { hok with ins := by simpa using hok.ins, insk := ?_, mtn := ?_ } { c with xs := ?_, is := ?_ } rfl (Own.shut (rs := inL x.ib x.is (v.xs.set k y)) e2)
  · intro j hj
    simp only [List.length_set] at hj
    simp only [List.getElem_set]
    have h9 := hok.insk j hj
    split
    · rename_i e; subst e; exact ⟨kp.f.trans h9.1, kp.num.trans h9.2.1, kp.ahead.trans h9.2.2.1, kp.sm h9.2.2.2⟩
    · exact h9
  · intro j hj hj2
    simp only [List.length_set] at hj2
    simp only [List.getElem_set]
    obtain ⟨m1, m2, m3, m4⟩ := hok.mtn j hj hj2
    refine ⟨m1, ?_, m3, m4⟩
    split
    · rename_i e; subst e; have := kp.dn; exact Int.le_trans m2 (by omega)
    · exact m2
  · rw [List.map_set, c.xs, y2]
  · rw [List.map_set, c.is, y1]
    refine List.ext_getElem (by simp) (fun j h1 h2 => ?_)
    rw [List.getElem_set]
    split
    · rename_i e; subst e; exact (List.getElem?_eq_some_iff.1 hi).2.symm
    · rfl

/-- An instance's pointer. -/
theorem NdIs.instAt (h : NdIs B w0 W x s l ss) (k : Nat) {i : Nat} (hi : x.is[k]? = some i) : W.cell? ⟨x.ib, k, none⟩ = some (ptrV i) := by
  obtain ⟨v, rr, c, d, g⟩ := h.lens 7 (by omega) (by omega)
  exact (seg_at (Own.open d) 0 rfl k (v := ptrV i) (by rw [List.getElem?_map, hi]; rfl)).1
theorem NdIs.isLen (h : NdIs B w0 W x s l ss) : x.is.length = s.c.f + 1 := by
  have hok := h.ok.ins
  obtain ⟨a, b, v, c, d⟩ := h
  rw [← c.is, List.length_map, ← hok, ← c.xs, List.length_map]
theorem NdIs.iAt (h : NdIs B w0 W x s l ss) {k : Nat} (hk : k < s.c.f + 1) : ∃ i, x.is[k]? = some i ∧ W.cell? ⟨x.ib, k, none⟩ = some (ptrV i) := by
  have h1 : k < x.is.length := by rw [h.isLen]; exact hk
  exact ⟨x.is[k], by simp [h1], h.instAt k (by simp [h1])⟩
theorem NdIs.caps (h : NdIs B w0 W x s l ss) : s.c.f + 1 ≤ x.ic ∧ 3 * s.c.f + 1 ≤ x.pk ∧ s.c.f + 1 ≤ x.bgk ∧ s.c.f + 1 ≤ x.prk ∧ s.c.f + 1 ≤ x.cok ∧ s.c.f + 1 ≤ x.mtk ∧ 3 * s.c.f + 1 ≤ x.vk := by
  obtain ⟨_, _, v, c, _⟩ := h
  exact ⟨c.ic, c.pk, c.bgk, c.prk, c.cok, c.mtk, c.vk⟩

/-! ### The clock -/
theorem nd_now (h : NdIs B w0 W x s l ss) : Calls Tryz.prog 90 #[ptrV x.t] W fun e w' => e = .returned (.int .i64 s.now) ∧ W = w' := by
  obtain ⟨v, rr, c, d, -⟩ := h.lens 1 (by omega) (by omega)
  exact now_any d.blk_out

/-! ### Votes for another view -/
theorem putL_len (l : List Vo) (node view sl : Int) : (putL l node view sl).length = l.length := by unfold putL; split <;> simp
theorem NdIs.setVo (hok : NsOk s) {vo : List Vo} (h : vo.length = s.vo.length) : NsOk { s with vo := vo } := { hok with vo := h.trans hok.vo }
theorem nd_put (h : NdIs B w0 W x s l ss) (node view sl : Int) :
    Calls Tryz.prog 167 #[ptrV x.vt, .int .i64 node, .int .i64 view, .int .i64 sl] W fun e w' => e = .returned (.bool (putB s.vo node view)) ∧ NdIs B w0 w' x { s with vo := putL s.vo node view sl } l ss := by
  obtain ⟨v, rr, c, d, g⟩ := h.lens 3 (by omega) (by omega)
  have hok := h.ok
  have hf := hok.c.f2
  have hl := hok.vo
  refine (vput_any (node := node) (view := view) (sl := sl) (Own.open d) (by have := c.vk; omega) (by omega)).mono ?_
  rintro e w' ⟨he, ho⟩
  exact ⟨he, g _ _ v ss _ (NdIs.setVo hok (putL_len _ _ _ _)) { c with } rfl (Own.shut (rs := [_, _]) ho)⟩
theorem nd_enough (h : NdIs B w0 W x s l ss) (view : Int) :
    Calls Tryz.prog 168 #[ptrV x.vt, .int .i64 view] W fun e w' => ∃ v', e = .returned (.tuple #[v', .bool (decide ((picksV s.vo view (2 * s.c.f + 1)).length = 2 * s.c.f + 1))]) ∧
      NdIs B w0 w' x s l (redR v' 2 (if (picksV s.vo view (2 * s.c.f + 1)).length = 2 * s.c.f + 1 then picksV s.vo view (2 * s.c.f + 1) else []).length (vsCells (if (picksV s.vo view (2 * s.c.f + 1)).length = 2 * s.c.f + 1 then picksV s.vo view (2 * s.c.f + 1) else [])) :: ss) := by
  obtain ⟨v, rr, c, d, g⟩ := h.lens 3 (by omega) (by omega)
  have hok := h.ok
  have hf := hok.c.f2
  have hl := hok.vo
  refine (venough_any (view := view) (Own.open d) (by have := c.vk; omega) (by omega) hok.c.f1 hok.c.f2).mono ?_
  rintro e w' ⟨v', he, ho⟩
  refine ⟨v', he, g _ s v (_ :: ss) _ hok c rfl (Own.shut (rs := [_, _]) ?_)⟩
  exact ho.toRed.rot'
theorem nd_drop (h : NdIs B w0 W x s l ss) (below : Int) :
    Calls Tryz.prog 226 #[ptrV x.vt, .int .i64 below] W fun e w' => ∃ n : Int, e = .returned (.int .i64 n) ∧ NdIs B w0 w' x { s with vo := s.vo.map (dropV below) } l ss := by
  obtain ⟨v, rr, c, d, g⟩ := h.lens 3 (by omega) (by omega)
  have hok := h.ok
  have hf := hok.c.f2
  have hl := hok.vo
  refine (vdrop_any (below := below) (Own.open d) (by have := c.vk; omega) (by omega)).mono ?_
  rintro e w' ⟨n, he, ho⟩
  refine ⟨n, he, g _ _ v ss (joinR [blk x.vt (cvO s.c.f x.vg (s.vo.map (dropV below)).length x.vk), cvR x.vg (s.vo.map (dropV below))]) (NdIs.setVo hok (by simp)) { c with } rfl (Own.shut (rs := [_, _]) ho)⟩

/-! ### The flood guard -/
theorem nd_shut (h : NdIs B w0 W x s l ss) (src c : Int) (hg : s.gd.length ≤ 1000) :
    Calls Tryz.prog 97 #[ptrV x.gd, .int .i64 src, .int .i64 c] W fun e w' => e = .returned (.bool (shutP s.gd src c)) ∧ Upd [] W w' := by
  obtain ⟨v, rr, -, d, -⟩ := h.lens 4 (by omega) (by omega)
  exact shut_any src c (by omega) (Own.open d)
theorem nd_bad (h : NdIs B w0 W x s l ss) (src c : Int) (hg : s.gd.length ≤ 1000) (hb : ∀ q ∈ bumpP s.c.fl s.c.sh c src s.gd, 0 ≤ q.bad ∧ q.bad ≤ s.c.fl) :
    Calls Tryz.prog 99 #[ptrV x.gd, .int .i64 src, .int .i64 c] W fun e w' => (∃ b, e = .returned (.bool b)) ∧ NdIs B w0 w' x { s with gd := bumpP s.c.fl s.c.sh c src s.gd } l ss := by
  obtain ⟨v, rr, cc, d, g⟩ := h.lens 4 (by omega) (by omega)
  have hok := h.ok
  refine (gbad_any src c hok.c.fl1 hok.c.fl2 hok.c.sh1 hok.c.sh2 hg hok.gd (Own.open d)).mono ?_
  rintro e w' ⟨gv', rb, he, ho⟩
  exact ⟨⟨rb, he⟩, g _ { s with gd := bumpP s.c.fl s.c.sh c src s.gd } { v with gv := gv' } ss _ { hok with gd := hb } { cc with } rfl (Own.shut (rs := [_, _]) ho)⟩

end
end Go.Proofs.YtannckelmojkoaaGreat

/- What no call of an instance turns (plain). -/
namespace Go.Proofs.YtannckelmojkoaaGreat
open Go.RowKit Go.Heap

theorem InKeep.refl (a : In) : InKeep a a := ⟨rfl, rfl, rfl, id, Nat.le_refl _⟩
theorem InKeep.trans {a b c : In} (h : InKeep a b) (g : InKeep b c) : InKeep a c := ⟨g.f.trans h.f, g.num.trans h.num, g.ahead.trans h.ahead, fun x => g.sm (h.sm x), Nat.le_trans h.dn g.dn⟩
theorem empty_sm (f : Nat) : ∀ t ∈ (emptySl f).cs, t.batch.length ≤ 4 := by
  intro t ht
  have := List.eq_of_mem_replicate ht
  subst this; simp [noVt]
theorem keep_leave (a : In) (v : Int) : InKeep a (leaveI a v) := by
  unfold leaveI
  split
  · refine ⟨rfl, rfl, rfl, fun h => ⟨fun p hp => ?_⟩, ?_⟩
    · obtain ⟨q, hq, rfl⟩ := List.mem_map.1 hp
      have := h.b q hq
      exact ⟨by simp [emptySl], this.ct, this.dw, empty_sm _⟩
    · simp only [List.countP_map]; exact Nat.le_refl _
  · exact .refl a
theorem new_sm (f : Nat) (num ahead : Int) : InSm (newI f num ahead) := ⟨fun p hp => by
  have := List.eq_of_mem_replicate hp
  subst this
  exact ⟨by simp [emptyPl, emptySl], by simp [emptyPl, noCp], by simp [emptyPl, noCp], empty_sm f⟩⟩

end Go.Proofs.YtannckelmojkoaaGreat

/- A node's parts, begun views, rows, sends: how they are worked on. -/
namespace Go.Proofs.YtannckelmojkoaaGreat
open Go.RowKit Go.Heap

theorem flat_len {α : Type} {g : α → List Value} {n : Nat} (hg : ∀ a, (g a).length = n) (l : List α) : (l.flatMap g).length = l.length * n := flat_length (cells := g) (sz := n) hg l

section
variable {B : Nat} {w0 w W W' : World} {ss rs : List Res} {x : Np} {s s' : Ns} {l l' : Nt}

/-- What a node reads may be read beside it. -/
theorem NdIs.part (h : NdIs B w0 W x s l ss) (k : Nat) (hk : k < s.pts.length) : ∃ q : Int × Pt, (q.1, q.2.pa) = s.pts[k] ∧ (∀ j, j < 5 → W.cell? ⟨x.pt, k * 5 + j, none⟩ = (pqC q)[j]?) ∧ (∀ j, W.frozen? ⟨x.pt, j, none⟩ = false) ∧
    q.2.vs.length ≤ 100000 ∧ q.2.cts.length ≤ 100000 ∧ NdIs B w0 W x s l (redR q.2.vv 2 q.2.vs.length (vsCells q.2.vs) :: redR q.2.cv 5 q.2.cts.length (q.2.cts.flatMap ctCells) :: ctsR q.2.cts :: ss) := by
  have hok := h.ok
  obtain ⟨v, rr, c, d, g⟩ := h.lens 8 (by omega) (by omega)
  have hkx : k < v.ps.length := by rw [← c.ps, List.length_map] at hk; exact hk
  have d1 := Own.open d
  obtain ⟨-, q2, q3⟩ := segR_at d1.head
  have hp := pts_fr d1 1 rfl
  have hm := hp v.ps[k].2 (List.mem_map.2 ⟨v.ps[k], List.getElem_mem hkx, rfl⟩)
  refine ⟨v.ps[k], ?_, fun j hj => ?_, q3, hm.vn, hm.cn, g W s v (_ :: _ :: _ :: ss) _ hok c rfl (Own.shut (rs := pqL x.pt v.ps) ?_)⟩
  · have : (v.ps.map fun q => (q.1, q.2.pa))[k]'(by simpa using hkx) = s.pts[k] := by simp only [c.ps]
    simpa using this
  · rw [q2 _ (by rw [flat_len (n := 5) (fun _ => rfl)]; omega), flat_at pqC 5 (fun _ => rfl) v.ps k j hkx hj]
  · have e1 : Own B w0 W (ctsR v.ps[k].2.cts :: _) := d1.mkCts hm.cs
    have e2 : Own B w0 W (redR v.ps[k].2.cv 5 v.ps[k].2.cts.length (v.ps[k].2.cts.flatMap ctCells) :: _) := e1.mkRed (by rw [fr_imm rfl]; exact hm.c)
    have e3 : Own B w0 W (redR v.ps[k].2.vv 2 v.ps[k].2.vs.length (vsCells v.ps[k].2.vs) :: _) := e2.mkRed (by rw [fr_imm rfl, fr_imm rfl]; exact hm.v)
    exact e3.perm (List.perm_append_comm (l₁ := [_, _, _]) (l₂ := [_, _]) |>.append_right _)

/-- The k-th part is written. -/
theorem NdIs.putPart {p : Pt} (h : NdIs B w0 W x s l (redR p.vv 2 p.vs.length (vsCells p.vs) :: redR p.cv 5 p.cts.length (p.cts.flatMap ctCells) :: ctsR p.cts :: ss)) (k : Nat) (hk : k < s.pts.length) (u : Int) (h1 : p.vs.length ≤ 100000) (h2 : p.cts.length ≤ 100000) :
    NdIs B w0 (((((W.setCell ⟨x.pt, k * 5, none⟩ (.int .i64 u)).setCell ⟨x.pt, k * 5 + 1, none⟩ (.int .i64 p.fm)).setCell ⟨x.pt, k * 5 + 2, none⟩ p.vv).setCell ⟨x.pt, k * 5 + 3, none⟩ p.cv).setCell ⟨x.pt, k * 5 + 4, none⟩ (.int .i64 p.sl)) x { s with pts := s.pts.set k (u, p.pa) } l ss := by
  have hok := h.ok
  obtain ⟨v, rr, c, d, g⟩ := h.lens 8 (by omega) (by omega)
  have hkx : k < v.ps.length := by rw [← c.ps, List.length_map] at hk; exact hk
  have d1 : Own B w0 W (segR x.pt 260 (v.ps.flatMap pqC) :: ptsR (v.ps.map Prod.snd) :: redR p.vv 2 p.vs.length (vsCells p.vs) :: redR p.cv 5 p.cts.length (p.cts.flatMap ctCells) :: ctsR p.cts :: (ss ++ rr)) := Own.open d
  have hp := pts_fr d1 1 rfl
  have hn : PtIn W p (Fr W _) := ⟨d1.redFr 2 rfl, h1, d1.redFr 3 rfl, h2, cts_fr d1 4 rfl⟩
  have d2 : Own B w0 W (ptsR ((v.ps.set k (u, p)).map Prod.snd) :: _) := d1.mkPts (fun q hq => by
    rw [List.map_set] at hq
    rcases List.mem_or_eq_of_mem_set hq with hq | rfl
    · exact hp q hq
    · exact hn)
  have d3 : Own B w0 W (segR x.pt 260 (v.ps.flatMap pqC) :: ptsR ((v.ps.set k (u, p)).map Prod.snd) :: (ss ++ rr)) := ((((d2.dropAt 2 (by simp)).dropAt 2 (by simp)).dropAt 2 (by simp)).dropAt 2 (by simp)).swap
  have e := d3.put (k * 5 + 0) (.int .i64 u)
  have e := e.put (k * 5 + 1) (.int .i64 p.fm)
  have e := e.put (k * 5 + 2) p.vv
  have e := e.put (k * 5 + 3) p.cv
  have e := e.put (k * 5 + 4) (.int .i64 p.sl)
  have q : (((((v.ps.flatMap pqC).set (k * 5 + 0) (.int .i64 u)).set (k * 5 + 1) (.int .i64 p.fm)).set (k * 5 + 2) p.vv).set (k * 5 + 3) p.cv).set (k * 5 + 4) (.int .i64 p.sl) = (v.ps.set k (u, p)).flatMap pqC := by
    refine List.ext_getElem? (fun j => ?_)
    have hlen : (v.ps.flatMap pqC).length = v.ps.length * 5 := flat_len (n := 5) (fun _ => rfl) _
    by_cases hj : j < v.ps.length * 5
    · obtain ⟨a, b, rfl, hb⟩ : ∃ a b, j = a * 5 + b ∧ b < 5 := ⟨j / 5, j % 5, by omega, by omega⟩
      have ha : a < v.ps.length := by omega
      rw [flat_at pqC 5 (fun _ => rfl) (v.ps.set k (u, p)) a b (by simpa using ha) hb, List.getElem_set]
      simp only [List.getElem?_set, List.length_set, hlen]
      by_cases hak : k = a
      · subst hak
        rcases (by omega : b = 0 ∨ b = 1 ∨ b = 2 ∨ b = 3 ∨ b = 4) with rfl | rfl | rfl | rfl | rfl <;> simp [hj, hkx, pqC, ptCells]
      · have n0 : k * 5 + 0 ≠ a * 5 + b := by omega
        have n1 : k * 5 + 1 ≠ a * 5 + b := by omega
        have n2 : k * 5 + 2 ≠ a * 5 + b := by omega
        have n3 : k * 5 + 3 ≠ a * 5 + b := by omega
        have n4 : k * 5 + 4 ≠ a * 5 + b := by omega
        rw [if_neg n4, if_neg n3, if_neg n2, if_neg n1, if_neg n0, if_neg hak, flat_at pqC 5 (fun _ => rfl) v.ps a b ha hb]
    · rw [List.getElem?_eq_none (by simp only [List.length_set, hlen]; omega), List.getElem?_eq_none (by rw [flat_len (n := 5) (fun _ => rfl), List.length_set]; omega)]
  rw [q] at e
  refine g _ { s with pts := s.pts.set k (u, p.pa) } { v with ps := v.ps.set k (u, p) } ss (joinR (pqL x.pt (v.ps.set k (u, p)))) { hok with pts := by simpa using hok.pts } { c with ps := ?_ } rfl (Own.shut (rs := pqL x.pt (v.ps.set k (u, p))) e)
  rw [List.map_set, c.ps]

/-- What goes out, with the node's cells. -/
theorem NdIs.outs (h : NdIs B w0 W x s l ss) : ∃ v rr, NvOk x s v ∧ Own B w0 W (segR x.p 141 (nsC x s v.ov) :: ownR 62 2 v.ov v.os.length (v.os.flatMap sdC) :: sdsR v.os :: (ss ++ rr)) ∧
    ∀ W' ov' os' ss', (∃ a k, ov' = .slice a os'.length k) → Own B w0 W' (segR x.p 141 (nsC x s ov') :: ownR 62 2 ov' os'.length (os'.flatMap sdC) :: sdsR os' :: (ss' ++ rr)) → NdIs B w0 W' x { s with out := os'.map Sd.p } l ss' := by
  obtain ⟨a, b, v, c, d⟩ := h
  have d1 : Own B w0 W (nsL x s v ++ (blk x.nt (noB x.nm) :: ntR x.nm l :: ss)) := Own.open d
  have hq : ∀ (r1 r2 : Res) (m ll : List Res), ((r1 :: (m ++ [r2])) ++ ([blk x.nt (noB x.nm), ntR x.nm l] ++ ll)).Perm (r2 :: (r1 :: (ll ++ (m ++ [blk x.nt (noB x.nm), ntR x.nm l])))) := fun r1 r2 m ll => by
    have e1 : (r1 :: (m ++ [r2])) ++ ([blk x.nt (noB x.nm), ntR x.nm l] ++ ll) = (r1 :: m) ++ (r2 :: ([blk x.nt (noB x.nm), ntR x.nm l] ++ ll)) := by simp
    have e2 : ll ++ (m ++ [blk x.nt (noB x.nm), ntR x.nm l]) = (ll ++ m) ++ [blk x.nt (noB x.nm), ntR x.nm l] := (List.append_assoc _ _ _).symm
    rw [e1, e2]
    refine List.perm_middle.trans (List.Perm.cons _ (List.Perm.cons _ ?_))
    refine (List.perm_append_comm_assoc m [blk x.nt (noB x.nm), ntR x.nm l] ll).trans ?_
    exact List.perm_append_comm.trans (List.perm_append_comm.append_right _)
  refine ⟨v, ((nsL x s v).drop 1).take 11 ++ [blk x.nt (noB x.nm), ntR x.nm l], c, ?_, fun W' ov' os' ss' hov h' => ⟨{ a with }, b, { v with ov := ov', os := os' }, { c with os := rfl, ov := hov }, ?_⟩⟩
  · have d2 : Own B w0 W (joinR (ouL v.ov v.os) :: (segR x.p 141 (nsC x s v.ov) :: (ss ++ (((nsL x s v).drop 1).take 11 ++ [blk x.nt (noB x.nm), ntR x.nm l])))) := d1.perm (hq (segR x.p 141 (nsC x s v.ov)) (joinR (ouL v.ov v.os)) (((nsL x s v).drop 1).take 11) ss)
    exact (Own.open d2).rot
  · refine Own.shut (rs := nsL x { s with out := os'.map Sd.p } { v with ov := ov', os := os' }) ?_
    have d2 : Own B w0 W' (joinR (ouL ov' os') :: (segR x.p 141 (nsC x s ov') :: (ss' ++ (((nsL x s v).drop 1).take 11 ++ [blk x.nt (noB x.nm), ntR x.nm l])))) := Own.shut (rs := ouL ov' os') h'.rot'
    exact d2.perm (hq (segR x.p 141 (nsC x s ov')) (joinR (ouL ov' os')) (((nsL x s v).drop 1).take 11) ss').symm

end
end Go.Proofs.YtannckelmojkoaaGreat

/- What a node does (plain). -/
namespace Go.Proofs.YtannckelmojkoaaGreat
open Go.RowKit Go.Heap

/-! ### The table -/
def tabK (l : List Td) (r : Rq) : Nat := (l.takeWhile fun t => decide (cmpRq t.r r < 0)).length
def tabSince (l : List Td) (r : Rq) : Option Int := match l[tabK l r]? with
  | some t => if t.r = r ∧ t.ready then some t.since else none
  | none => none
def tabDrop (l : List Td) (client time : Int) : List Td := l.filter fun t => decide (t.r.client ≠ client) || decide (time < t.r.time)

/-! ### Sends -/
abbrev NSt := Ns × Nt
def othersN (n : Nat) (id : Int) : List Int := ((List.range n).map fun (k : Nat) => (k : Int)).filter (fun k => decide (k ≠ id))
def withFm (m : Ms) (i : Int) : Ms := { m with fm := i }
def sendS (p : NSt) (m : Ms) : NSt := match sealP p.2 (withFm m p.1.id) with
  | (none, l') => (p.1, l')
  | (some b, l') => ({ p.1 with out := p.1.out ++ (othersN (3 * p.1.c.f + 1) p.1.id).map fun k => (k, b) }, l')
def sendB (p : NSt) (m : Ms) : Bool := (sealP p.2 (withFm m p.1.id)).1.isSome
def sendN (p : NSt) (m : Ms) : Int := if sendB p m then msS p.2 (withFm m p.1.id) else 0
def repM (id client time res : Int) : Ms := ⟨10, id, 0, client, time, res, [], [], [], []⟩
def replyS (p : NSt) (client time res : Int) : NSt := match sealP p.2 (repM p.1.id client time res) with
  | (none, l') => (p.1, l')
  | (some b, l') => ({ p.1 with out := p.1.out ++ [(100 + client, b)] }, l')
/-! ### Instances -/
def noIn : In := ⟨1, 0, 1, 0, false, []⟩
def insAt (s : Ns) (k : Nat) : In := s.ins.getD k noIn
def setIns (s : Ns) (k : Nat) (st : In) : Ns := { s with ins := s.ins.set k st }
def balM' (kind view k seq : Int) (rs : List Rq) : Ms := ⟨kind, 0, view, k, seq, 0, rs, [], [], []⟩
/-- This node votes. -/
def ballotS (kind : Int) (k : Nat) (seq : Int) (rs : List Rq) (p : NSt) : NSt :=
  let m := balM' kind p.1.view k seq rs
  let q := sendS p m
  (setIns q.1 k (voteI (insAt q.1 k) kind seq q.1.id (sendN p m) rs), q.2)

/-! ### What is committed -/
def gaugeS (k : Nat) (t : Int) (s : Ns) : Ns := if 0 ≤ t ∧ t ≤ 1048576 then { s with mt := s.mt.modify k fun z => (z.1 + 1, z.2 + t) } else s
def gaugeOne (k : Nat) (s : Ns) (r : Rq) : Ns := match tabSince s.tab r with
  | some t => gaugeS k (s.now - t) s
  | none => s
def gaugeGo (k : Nat) (s : Ns) (rs : List Rq) : Ns := rs.foldl (gaugeOne k) s
/-- The service, to the last cell. -/
def applyX (st : List (Bool × Int)) (r : Rq) : Int × List (Bool × Int) :=
  if r.key < 0 ∨ 64 ≤ r.key ∨ r.val ≤ -2147483648 ∨ 2147483648 ≤ r.val then (0, st) else
  let was := (st.getD r.key.toNat (false, 0)).2
  if r.kind = 1 then (was, st.set r.key.toNat (true, r.val)) else
  if r.kind = 2 then (was, st) else
  if r.kind = 3 then (if ¬ (-2147483648 < was + r.val ∧ was + r.val < 2147483648) then (was, st) else (was + r.val, st.set r.key.toNat (true, was + r.val))) else
  if r.kind = 4 then (was, st.set r.key.toNat (false, 0)) else
  if r.kind = 5 then ((st.map Prod.snd).sum, st) else (0, st)
def lastL (b : Lp) (c : Int) : Int := if 0 ≤ c ∧ c < b.rp.length then (b.rp.getD c.toNat (0, 0)).1 else 0
/-- One request: the ledger without the new entry, and the entry. -/
def stepL (b : Lp) (r : Rq) : Lp × List En :=
  if r.client < 0 ∨ b.clients ≤ r.client ∨ r.time ≤ lastL b r.client then (b, []) else
  let a := applyX b.st r
  ({ b with st := a.2, rp := b.rp.set r.client.toNat (r.time, a.1) }, [⟨r, a.1⟩])
def stepsL (b : Lp) (rs : List Rq) : Lp × List En := rs.foldl (fun q r => ((stepL q.1 r).1, q.2 ++ (stepL q.1 r).2)) (b, [])
def runL (b : Lp) (rs : List Rq) : Lp × List En := let q := stepsL b rs; ({ q.1 with es := b.es ++ q.2 }, q.2)
def entryS (q : NSt) (e : En) : NSt := let q' := replyS q e.rq.client e.rq.time e.res; ({ q'.1 with tab := tabDrop q'.1.tab e.rq.client e.rq.time }, q'.2)
def runOne (p : NSt) : NSt :=
  let s : Ns := { p.1 with run := p.1.run + 1 }
  let r := runL s.bk ((committedI (insAt s 0) s.run).getD noCp).rs
  r.2.foldl entryS ({ s with bk := r.1 }, p.2)
def runGo : Nat → NSt → NSt
  | 0, p => p
  | n + 1, p => if p.1.run < doneI (insAt p.1 0) then runGo n (runOne p) else p
def doneS (k : Nat) (rs : List Rq) (p : NSt) : NSt :=
  let s := gaugeGo k p.1 rs
  if k ≠ 0 then (s, p.2) else
  let q := runGo 16 (s, p.2)
  if 16 ≤ q.1.run then ({ q.1 with stop := true }, q.2) else q

/-! ### A slot -/
def setRow (l : List (List Int)) (k j : Nat) (v : Int) : List (List Int) := l.modify k fun r => r.set j v
def lookS (k : Nat) (seq : Int) (p : NSt) : NSt :=
  let p1 : NSt := match prepI (insAt p.1 k) seq with
    | some c => ballotS 5 k seq c.rs ({ setIns p.1 k (preparedI (insAt p.1 k) seq) with com := setRow p.1.com k seq.toNat (p.1.view + 1) }, p.2)
    | none => p
  match commI (insAt p1.1 k) seq with
  | some c => doneS k c.rs (setIns p1.1 k (commitsI (insAt p1.1 k) seq), p1.2)
  | none => p1
def acceptS (k : Nat) (seq : Int) (p : NSt) : NSt := lookS k seq (ballotS 4 k seq (chosenI (insAt p.1 k) seq).1 p)

/-! ### Another view -/
def allCerts (ps : List Pa) : List Cp := ps.flatMap (·.cs)
def greatP (inst : Int) (ps : List Pa) : Int := (allCerts ps).foldl (fun n c => if c.inst = inst ∧ c.seq ≤ 16 then max n c.seq else n) 0
def bestP (inst seq : Int) (ps : List Pa) : Option Cp := (allCerts ps).foldl (fun b c => if c.inst = inst ∧ c.seq = seq ∧ (∀ d, b = some d → d.view < c.view) then some c else b) none
def batchesP (inst : Int) (ps : List Pa) : List (List Rq) := (List.range (greatP inst ps).toNat).map fun (j : Nat) => ((bestP inst ((j : Int) + 1) ps).getD noCp).rs
def installS (k : Nat) (ps : List Pa) (p : NSt) : NSt :=
  let bs := batchesP k ps
  let q := (List.range bs.length).foldl (fun q (j : Nat) => acceptS k ((j : Int) + 1) q) (setIns p.1 k (installI (insAt p.1 k) bs), p.2)
  if k = 0 then ({ q.1 with since := q.1.now, start := q.1.now }, q.2) else q
def lowP (s : Ns) : List Pa := ((s.pts.filter fun q => decide (0 < s.view) && decide (q.1 = s.view)).map Prod.snd).take (2 * s.c.f + 1)
def nvM (id view k : Int) (ps : List Pa) : Ms := ⟨8, id, view, k, 0, 0, [], [], [], ps⟩
def beginOne (p : NSt) (k : Nat) : NSt :=
  if (insAt p.1 k).on || !decide (primaryP p.1.c.f p.1.view k = p.1.id) || !decide ((lowP p.1).length = 2 * p.1.c.f + 1) then p else
  let m := nvM p.1.id p.1.view k (lowP p.1)
  installS k (lowP p.1) (sendS ({ p.1 with bg := p.1.bg.set k (p.1.view, m) }, p.2) m)
def beginS (p : NSt) : NSt := (List.range (p.1.c.f + 1)).foldl beginOne p
def certsAll (s : Ns) : List Cp := s.ins.flatMap certsI
def vcM (id view : Int) (vs : Vs) (cs : List Cp) : Ms := ⟨7, id, view, 0, 0, 0, [], vs, cs, []⟩
/-- A node that has gone on to a view, ahead of what it says. -/
def gone (w : Int) (s : Ns) : Ns := { s with view := w, ins := s.ins.map (leaveI · w), since := s.now, start := s.now, mt := s.mt.map fun _ => (0, 0), vo := s.vo.map (dropV w) }
def moveS (w : Int) (vs : Vs) (p : NSt) : NSt :=
  let s := gone w p.1
  let m := vcM s.id w vs (certsAll s)
  let q := sendS (s, p.2) m
  beginS ({ q.1 with pts := q.1.pts.set s.id.toNat (w, ⟨s.id, vs, certsAll s, sendN (s, p.2) m⟩) }, q.2)
def enoughP (s : Ns) (w : Int) : Bool := decide ((picksV s.vo w (2 * s.c.f + 1)).length = 2 * s.c.f + 1)
def afterVote (w : Int) (p : NSt) : NSt := if enoughP p.1 w then moveS (w + 1) (picksV p.1.vo w (2 * p.1.c.f + 1)) p else p
/-! ### What is taken: 0 used, 1 stale, 2 full, 3 bad -/
def changeS (m : Ms) (sl : Int) (p : NSt) : Int × NSt :=
  if m.view < p.1.view ∨ !putB p.1.vo m.fm m.view then (1, p) else
  (0, afterVote m.view ({ p.1 with vo := putL p.1.vo m.fm m.view sl }, p.2))
def noPa : Pa := ⟨0, [], [], 0⟩
def countS (src : Int) (q : Int × NSt) : NSt :=
  let s := q.2.1
  (if q.1 = 0 then { s with used := s.used + 1 } else if q.1 = 1 then { s with stale := s.stale + 1 } else if q.1 = 2 then { s with full := s.full + 1 } else
    { s with gd := bumpP s.c.fl s.c.sh s.now src s.gd, bad := s.bad + 1 }, q.2.2)
/-! ### A tick -/
def resetM (s : Ns) : Ns := { s with mt := s.mt.map fun _ => (0, 0) }
end Go.Proofs.YtannckelmojkoaaGreat

/- node: a message's seal; a message to all others. -/
namespace Go.Proofs.YtannckelmojkoaaGreat
open Go.RowKit Go.Heap

theorem sealL_two (l : Nt) (p : Int) (b : Bys) : sealL (sealL l p b) p b = sealL l p b := by
  have h := mem_sealL l p b
  generalize sealL l p b = l2 at *
  unfold sealL
  rw [if_pos h]

section
variable {B : Nat} {w0 w W W' : World} {ss rs : List Res} {x : Np} {s s' : Ns} {l l' : Nt}

set_option maxHeartbeats 4000000 in
set_option maxRecDepth 100000 in
theorem nseal_any {m : Mm} {b : Bys} (h : NdIs B w0 W x s l (mmR m ss)) (hm : MmOk m) (hb : bodyP m.ms = some b) (hfm : m.fm = s.id) (hn : l.length ≤ 1000000000) :
    Calls Tryz.prog 219 #[ptrV x.p, .agg (mmA m)] W fun e w' => e = .returned (.int .i64 (sealN l s.id b)) ∧ NdIs B w0 w' x s (sealL l s.id b) (mmR m ss) := by
  have hok := h.ok
  have hid0 := hok.id0
  have hid1 := hok.id1
  have hf2 := hok.c.f2
  have hsk : SOk (s.id, b) := hfm ▸ body_sok hb (by show _ ≤ m.fm; rw [hfm]; omega) (by show m.fm ≤ _; rw [hfm]; omega)
  have h7 : NdIs B w0 (W.alloc (mmO m)) x s l (mmR m (blk W.heap.size (mmO m) :: ss)) := (h.box (mmO m)).perm ((List.perm_append_comm (l₁ := [_]) (l₂ := [_, _, _, _, _, _])).append_right ss)
  obtain ⟨r, hs, hback⟩ := h7.side
  have HB := Lib.hid (body_any (ss := blk W.heap.size (mmO m) :: (ss ++ [r])) hs hm)
  rw [hb] at HB
  have HK := Lib.hid hback
  have hb0 : (W.alloc (mmO m)).heap[W.heap.size]? = some (mmO m) := heap_alloc_new W _
  have HS := Lib.hid hsk
  clear hok hback h7 hm hb hid0 hid1 hf2 hsk hfm
  obtain ⟨kind, fm, view, inst, seq, res, vb, rs, vv, vs, vc, cts, vp, pts⟩ := m
  obtain ⟨a1, c1, rfl⟩ : ∃ a c, vb = .slice a rs.length c := let ⟨a, c, e, _⟩ := red_reads (k := 5) hs rfl; ⟨a, c, e⟩
  obtain ⟨a2, c2, rfl⟩ : ∃ a c, vv = .slice a vs.length c := let ⟨a, c, e, _⟩ := red_reads (k := 4) hs rfl; ⟨a, c, e⟩
  obtain ⟨a3, c3, rfl⟩ : ∃ a c, vc = .slice a cts.length c := let ⟨a, c, e, _⟩ := red_reads (k := 2) hs rfl; ⟨a, c, e⟩
  obtain ⟨a4, c4, rfl⟩ : ∃ a c, vp = .slice a pts.length c := let ⟨a, c, e, _⟩ := red_reads (k := 0) hs rfl; ⟨a, c, e⟩
  clear hs h
  go_enter Tryz.func219, Tryz.ntmps219
  go_wp2_with fail
  refine HB.out.mono ?_
  rintro e w1 ⟨v1, rfl, h2⟩
  simp only [bysO, Option.getD_some] at h2
  have h3 := HK.out w1 (bysR v1 b :: mmR ⟨kind, fm, view, inst, seq, res, .slice a1 rs.length c1, rs, .slice a2 vs.length c2, vs, .slice a3 cts.length c3, cts, .slice a4 pts.length c4, pts⟩ (blk W.heap.size (mmO ⟨kind, fm, view, inst, seq, res, .slice a1 rs.length c1, rs, .slice a2 vs.length c2, vs, .slice a3 cts.length c3, cts, .slice a4 pts.length c4, pts⟩) :: ss)) h2
  obtain ⟨r2, h4, hk2⟩ := h3.drew.sideN
  have HY : Byt w1.drew v1 b := ⟨bys_reads (k := 2) h4 rfl, HS.out.b⟩
  have c15 := h3.drew.cell 15 rfl (by decide)
  have c16 := h3.drew.cell 16 rfl (by decide)
  have HSE := Lib.hid (seal_any h4 h3.nok HS.out HY hn)
  have HK2 := Lib.hid hk2
  have HN3 := Lib.hid h3.nok
  obtain ⟨ao, cap, rfl, -, -⟩ := byt_form HY
  clear h2 h3 h4 HY hk2 HB HK hb0
  simp only [Option.isSome_some]
  go_upto_region 2 with fail
  refine Mix.wp_text2 (by kernel_rfl) (by kernel_rfl) ?_
  go_wp2_with fail
  refine HSE.out.mono ?_
  rintro e w2 ⟨rfl, h5⟩
  have HF := Lib.hid ((HK2.out w2 (sealL l s.id b) _ (sealL_ok HN3.out HS.out) h5).drop)
  clear h5 HK2 HSE
  go_wp2_with fail
  refine ⟨by rfl, ?_⟩
  go_wp2_with fail
  go_ret
  refine ⟨rfl, (HF.out.perm ((List.perm_append_comm (l₁ := [_, _, _, _, _, _]) (l₂ := [_])).append_right ss)).drop⟩

end
end Go.Proofs.YtannckelmojkoaaGreat

/- node: a message to all othersN. -/
namespace Go.Proofs.YtannckelmojkoaaGreat
open Go.RowKit Go.Heap

theorem Tryz.infoSd2 : (Tryz.prog.info? 62).map (fun i => (i.zero, i.size, i.bytes)) = some (some (.agg #[.int .i64 0, .slice none 0 0]), 2, 32) := by kernel_rfl

theorem sealP_ok {l : Nt} {m : Ms} (h : NtOk l) (h1 : -9223372036854775808 ≤ m.fm) (h2 : m.fm ≤ 9223372036854775807) : NtOk (sealP l m).2 := by
  unfold sealP
  cases hb : bodyP m with
  | none => exact h
  | some b => exact sealL_ok h (body_sok hb h1 h2)
theorem sealP_some {l : Nt} {m : Ms} {e : Bys} (h : (sealP l m).1 = some e) : ∃ b, bodyP m = some b ∧ e = numB (sealN l m.fm b) ++ b ∧ e.length ≤ 65536 ∧ (sealP l m).2 = sealL l m.fm b ∧ numOk (sealN l m.fm b) = true := by
  unfold sealP at h ⊢
  cases hb : bodyP m with
  | none => rw [hb] at h; simp at h
  | some b =>
    rw [hb] at h
    simp only at h ⊢
    unfold envP at h
    split at h
    · rename_i hc
      simp only [Bool.and_eq_true, decide_eq_true_eq] at hc
      simp only [Option.some.injEq] at h
      exact ⟨b, rfl, h.symm, by rw [← h, List.length_append]; exact hc.2, rfl, hc.1⟩
    · simp at h
theorem sealP_byte {l : Nt} {m : Ms} {e : Bys} (h : (sealP l m).1 = some e) : ∀ c ∈ e, c < 256 := by
  obtain ⟨b, h1, h2, -, -, h3⟩ := sealP_some h
  subst h2
  exact app_byte (num_byte h3) (body_byte h1).1
theorem sealP_len {l : Nt} {m : Ms} : (sealP l m).2.length ≤ l.length + 1 := by
  unfold sealP
  cases bodyP m with
  | none => simp
  | some b => simp only; unfold sealL; split <;> simp
theorem othersN_step (k : Nat) (id : Int) : othersN (k + 1) id = othersN k id ++ if (k : Int) = id then [] else [(k : Int)] := by
  unfold othersN
  rw [List.range_succ, List.map_append, List.filter_append]
  congr 1
  by_cases h : (k : Int) = id <;> simp [h]
theorem othersN_len (n : Nat) (id : Int) : (othersN n id).length ≤ n := by
  unfold othersN
  exact Nat.le_trans (List.length_filter_le _ _) (by simp)

section
variable {B : Nat} {w0 w W W' : World} {ss rs : List Res} {x : Np} {s s' : Ns} {l l' : Nt}

set_option maxHeartbeats 8000000 in
set_option maxRecDepth 100000 in
theorem nsend_any {m : Mm} (h : NdIs B w0 W x s l (mmR m ss)) (hm : MmOk m) (hn : l.length ≤ 900000000) (ho : s.out.length ≤ 900000000) :
    Calls Tryz.prog 160 #[ptrV x.p, .agg (mmA m)] W fun e w' => e = .returned (.tuple #[.int .i64 (sendN (s, l) m.ms), .bool (sendB (s, l) m.ms)]) ∧ NdIs B w0 w' x (sendS (s, l) m.ms).1 (sendS (s, l) m.ms).2 (mmR m ss) := by
  obtain ⟨i0, hi, hz0, hz1, hz2⟩ := info_parts Tryz.infoU8
  obtain ⟨j0, hj, hy0, hy1, hy2⟩ := info_parts Tryz.infoSd2
  have hok := h.ok
  have hid0 := hok.id0
  have hid1 := hok.id1
  have hf1 := hok.c.f1
  have hf2 := hok.c.f2
  have c15 := (h.alloc (mmO m)).cell 15 rfl (by decide)
  have hb0 : (W.alloc (mmO m)).heap[W.heap.size]? = some (mmO m) := heap_alloc_new W _
  obtain ⟨kind, fm, view, inst, seq, res, vb, rs, vv, vs, vc, cts, vp, pts⟩ := m
  obtain ⟨r0, hs0, -⟩ := h.side
  obtain ⟨a1, c1, rfl⟩ : ∃ a c, vb = .slice a rs.length c := let ⟨a, c, e, _⟩ := red_reads (k := 5) hs0 rfl; ⟨a, c, e⟩
  obtain ⟨a2, c2, rfl⟩ : ∃ a c, vv = .slice a vs.length c := let ⟨a, c, e, _⟩ := red_reads (k := 4) hs0 rfl; ⟨a, c, e⟩
  obtain ⟨a3, c3, rfl⟩ : ∃ a c, vc = .slice a cts.length c := let ⟨a, c, e, _⟩ := red_reads (k := 2) hs0 rfl; ⟨a, c, e⟩
  obtain ⟨a4, c4, rfl⟩ : ∃ a c, vp = .slice a pts.length c := let ⟨a, c, e, _⟩ := red_reads (k := 0) hs0 rfl; ⟨a, c, e⟩
  obtain ⟨m, hmdef⟩ : ∃ m : Mm, m = ⟨kind, s.id, view, inst, seq, res, .slice a1 rs.length c1, rs, .slice a2 vs.length c2, vs, .slice a3 cts.length c3, cts, .slice a4 pts.length c4, pts⟩ := ⟨_, rfl⟩
  have hmok : MmOk m := by subst hmdef; exact ⟨hm.r, hm.v, hm.c, hm.p⟩
  have hmfm : m.fm = s.id := by subst hmdef; rfl
  have hmms : withFm (Mm.ms ⟨kind, fm, view, inst, seq, res, .slice a1 rs.length c1, rs, .slice a2 vs.length c2, vs, .slice a3 cts.length c3, cts, .slice a4 pts.length c4, pts⟩) s.id = m.ms := by subst hmdef; rfl
  have H7 : Hid (NdIs B w0 (W.alloc (mmO m)) x s l (mmR m (blk W.heap.size (mmO m) :: ss))) := Lib.hid (by
    have h8 : NdIs B w0 W x s l (mmR m ss) := by subst hmdef; exact h
    exact (h8.box (mmO m)).perm ((List.perm_append_comm (l₁ := [_]) (l₂ := [_, _, _, _, _, _])).append_right ss))
  have HS : Hid (sendS (s, l) (Mm.ms ⟨kind, fm, view, inst, seq, res, .slice a1 rs.length c1, rs, .slice a2 vs.length c2, vs, .slice a3 cts.length c3, cts, .slice a4 pts.length c4, pts⟩) = match sealP l m.ms with
    | (none, l') => (s, l')
    | (some b, l') => ({ s with out := s.out ++ (othersN (3 * s.c.f + 1) s.id).map fun k => (k, b) }, l')) := Lib.hid (by unfold sendS; simp only; rw [hmms]; try rfl)
  have HB : Hid (sendB (s, l) (Mm.ms ⟨kind, fm, view, inst, seq, res, .slice a1 rs.length c1, rs, .slice a2 vs.length c2, vs, .slice a3 cts.length c3, cts, .slice a4 pts.length c4, pts⟩) = (sealP l m.ms).1.isSome) := Lib.hid (by unfold sendB; simp only; rw [hmms])
  have HN : Hid (sendN (s, l) (Mm.ms ⟨kind, fm, view, inst, seq, res, .slice a1 rs.length c1, rs, .slice a2 vs.length c2, vs, .slice a3 cts.length c3, cts, .slice a4 pts.length c4, pts⟩) = if (sealP l m.ms).1.isSome then msS l m.ms else 0) := Lib.hid (by unfold sendN sendB; simp only; rw [hmms])
  generalize sendS (s, l) (Mm.ms ⟨kind, fm, view, inst, seq, res, .slice a1 rs.length c1, rs, .slice a2 vs.length c2, vs, .slice a3 cts.length c3, cts, .slice a4 pts.length c4, pts⟩) = sS at *
  generalize sendB (s, l) (Mm.ms ⟨kind, fm, view, inst, seq, res, .slice a1 rs.length c1, rs, .slice a2 vs.length c2, vs, .slice a3 cts.length c3, cts, .slice a4 pts.length c4, pts⟩) = sB at *
  generalize sendN (s, l) (Mm.ms ⟨kind, fm, view, inst, seq, res, .slice a1 rs.length c1, rs, .slice a2 vs.length c2, vs, .slice a3 cts.length c3, cts, .slice a4 pts.length c4, pts⟩) = sN at *
  show Calls _ _ _ _ fun e w' => _ ∧ NdIs B w0 w' x sS.1 sS.2 (mmR ⟨kind, fm, view, inst, seq, res, .slice a1 rs.length c1, rs, .slice a2 vs.length c2, vs, .slice a3 cts.length c3, cts, .slice a4 pts.length c4, pts⟩ ss)
  obtain ⟨FIN, HFIN⟩ : ∃ F : World → Prop, Hid (∀ w', NdIs B w0 w' x sS.1 sS.2 (mmR m ss) → F w') ∧ Hid (∀ w', F w' → NdIs B w0 w' x sS.1 sS.2 (mmR ⟨kind, fm, view, inst, seq, res, .slice a1 rs.length c1, rs, .slice a2 vs.length c2, vs, .slice a3 cts.length c3, cts, .slice a4 pts.length c4, pts⟩ ss)) := ⟨fun w' => NdIs B w0 w' x sS.1 sS.2 (mmR m ss), Lib.hid (fun _ h => h), Lib.hid (fun w' h' => by subst hmdef; exact h')⟩
  have HMD := Lib.hid hmdef
  have HMF := Lib.hid hmfm
  have HMO := Lib.hid hmok
  have hnodes := Lib.hid (fun w => nodes_any (s.c.f : Int) w (by omega) (by omega))
  clear h hs0 hm hok hmms hmdef hmfm hmok
  go_enter Tryz.func160, Tryz.ntmps160
  go_upto_region 2 with fail
  have e := HMD.out
  clear HMD
  subst e
  have H8 := H7
  clear H7 hb0 c15
  obtain ⟨r, hs, hback⟩ := H8.out.drew.sideN
  have hs' : Own B w0 _ (mmR ⟨kind, s.id, view, inst, seq, res, .slice a1 rs.length c1, rs, .slice a2 vs.length c2, vs, .slice a3 cts.length c3, cts, .slice a4 pts.length c4, pts⟩ (blk x.nt (noB x.nm) :: ntR x.nm l :: blk W.heap.size (mmO ⟨kind, s.id, view, inst, seq, res, .slice a1 rs.length c1, rs, .slice a2 vs.length c2, vs, .slice a3 cts.length c3, cts, .slice a4 pts.length c4, pts⟩) :: (ss ++ [r]))) := hs.perm ((List.perm_append_comm (l₁ := [_, _]) (l₂ := [_, _, _, _, _, _])).append_right _)
  have HSE := Lib.hid (mseal_any hs' HMO.out H8.out.nok (by omega) (by show _ ≤ s.id; omega) (by show s.id ≤ _; omega))
  have HBK := Lib.hid hback
  have hbq := hs'.blkAt 8 rfl
  have c16 := H8.out.drew.cell 16 rfl (by decide)
  have c15' := H8.out.drew.cell 15 rfl (by decide)
  have HSO : Hid (∀ e, (sealP l (Mm.ms ⟨kind, s.id, view, inst, seq, res, .slice a1 rs.length c1, rs, .slice a2 vs.length c2, vs, .slice a3 cts.length c3, cts, .slice a4 pts.length c4, pts⟩)).1 = some e → ∃ b, bodyP (Mm.ms ⟨kind, s.id, view, inst, seq, res, .slice a1 rs.length c1, rs, .slice a2 vs.length c2, vs, .slice a3 cts.length c3, cts, .slice a4 pts.length c4, pts⟩) = some b ∧ (∀ c ∈ e, c < 256) ∧ e.length ≤ 65536 ∧ (sealP l (Mm.ms ⟨kind, s.id, view, inst, seq, res, .slice a1 rs.length c1, rs, .slice a2 vs.length c2, vs, .slice a3 cts.length c3, cts, .slice a4 pts.length c4, pts⟩)).2 = sealL l s.id b ∧ msS l (Mm.ms ⟨kind, s.id, view, inst, seq, res, .slice a1 rs.length c1, rs, .slice a2 vs.length c2, vs, .slice a3 cts.length c3, cts, .slice a4 pts.length c4, pts⟩) = sealN l s.id b) := Lib.hid (fun e he => by
    obtain ⟨b, q1, q2, q3, q4, q5⟩ := sealP_some he
    refine ⟨b, q1, sealP_byte he, q3, ?_, ?_⟩
    · rw [q4]; rfl
    · unfold msS; rw [q1]; rfl)
  have HNK : Hid (NtOk (sealP l (Mm.ms ⟨kind, s.id, view, inst, seq, res, .slice a1 rs.length c1, rs, .slice a2 vs.length c2, vs, .slice a3 cts.length c3, cts, .slice a4 pts.length c4, pts⟩)).2) := Lib.hid (sealP_ok H8.out.nok (by show _ ≤ s.id; omega) (by show s.id ≤ _; omega))
  have HLN : Hid ((sealP l (Mm.ms ⟨kind, s.id, view, inst, seq, res, .slice a1 rs.length c1, rs, .slice a2 vs.length c2, vs, .slice a3 cts.length c3, cts, .slice a4 pts.length c4, pts⟩)).2.length ≤ 900000001) := Lib.hid (Nat.le_trans sealP_len (by omega))
  generalize sealP l (Mm.ms ⟨kind, s.id, view, inst, seq, res, .slice a1 rs.length c1, rs, .slice a2 vs.length c2, vs, .slice a3 cts.length c3, cts, .slice a4 pts.length c4, pts⟩) = sp at *
  obtain ⟨o, l2⟩ := sp
  simp only at HNK HLN HSO HSE HS HB HN
  clear hs hs' hback H8
  refine Mix.wp_text2 (by kernel_rfl) (by kernel_rfl) ?_
  go_wp2_with fail
  refine HSE.out.mono ?_
  rintro e w2 ⟨v2, rfl, h3⟩
  have H4 := Lib.hid (HBK.out w2 l2 (bysR v2 (bysO o) :: mmR ⟨kind, s.id, view, inst, seq, res, .slice a1 rs.length c1, rs, .slice a2 vs.length c2, vs, .slice a3 cts.length c3, cts, .slice a4 pts.length c4, pts⟩ (blk W.heap.size (mmO ⟨kind, s.id, view, inst, seq, res, .slice a1 rs.length c1, rs, .slice a2 vs.length c2, vs, .slice a3 cts.length c3, cts, .slice a4 pts.length c4, pts⟩) :: ss)) HNK.out h3.rot')
  clear h3 HSE HBK hbq c16 c15'
  cases o with
  | none =>
    have e1 := HS.out
    have e2 := HB.out
    have e3 := HN.out
    simp only [Option.isSome_none, Bool.false_eq_true, if_false] at e1 e2 e3
    subst e1 e2 e3
    have HF := Lib.hid (HFIN.1.out w2 ((H4.out.drop.perm ((List.perm_append_comm (l₁ := [_, _, _, _, _, _]) (l₂ := [_])).append_right ss)).drop))
    clear H4
    simp only [Option.isSome_none]
    go_wp2_with fail
    refine ⟨by rfl, ?_⟩
    go_wp2_with fail
    go_ret2
    exact ⟨rfl, HFIN.2.out _ HF.out⟩
  | some eb =>
    obtain ⟨b, q1, q2, q3, q4, q5⟩ := HSO.out eb rfl
    have HQ := Lib.hid q1
    have HQ2 := Lib.hid q2
    have HQ3 := Lib.hid q3
    have HQ4 := Lib.hid q4
    have e1 := HS.out
    have e2 := HB.out
    have e3 := HN.out
    simp only [Option.isSome_some, if_true] at e1 e2 e3
    rw [q5] at e3
    subst e1 e2 e3
    clear HSO q1 q2 q3 q4 q5 HS HB HN
    simp only [bysO, Option.getD_some] at H4
    obtain ⟨r4, hs4, -⟩ := H4.out.side
    obtain ⟨eo, ek, rfl, -, -⟩ := bys_reads (k := 0) hs4 rfl
    clear hs4
    simp only [Option.isSome_some]
    go_wp2_with fail
    refine ⟨by rfl, ?_⟩
    go_wp2_with fail
    go_loopw [8] (fun n wr => ∃ k : Nat, k ≤ 3 * s.c.f + 1 ∧ n = .int .i64 k ∧ Hid (NdIs B w0 wr x { s with out := s.out ++ (othersN k s.id).map fun k => (k, eb) } l2 (bysR (.slice eo eb.length ek) eb :: mmR ⟨kind, s.id, view, inst, seq, res, .slice a1 rs.length c1, rs, .slice a2 vs.length c2, vs, .slice a3 cts.length c3, cts, .slice a4 pts.length c4, pts⟩ (blk W.heap.size (mmO ⟨kind, s.id, view, inst, seq, res, .slice a1 rs.length c1, rs, .slice a2 vs.length c2, vs, .slice a3 cts.length c3, cts, .slice a4 pts.length c4, pts⟩) :: ss)))) (fun n _ => 3 * s.c.f + 1 - (intOf n).toNat)
    case atStart => exact ⟨0, by omega, rfl, Lib.hid (by rw [show othersN 0 s.id = [] from rfl, List.map_nil, List.append_nil]; exact H4.out)⟩
    case round =>
      clear H4
      obtain ⟨k, hk, rfl, H1⟩ := hrel
      have d0 := H1.out.cell 0 rfl (by decide)
      have d15 := H1.out.cell 15 rfl (by decide)
      by_cases hlt : k < 3 * s.c.f + 1
      · have hkI : (k : Int) < 3 * (s.c.f : Int) + 1 := by omega
        by_cases hki : (k : Int) = s.id
        · have HE : Hid (othersN (k + 1) s.id = othersN k s.id) := Lib.hid (by rw [othersN_step, if_pos hki, List.append_nil])
          have hkb : ((k : Int) != s.id) = false := by simp [hki]
          clear hki
          go_wp2_with fail
          refine (hnodes.out _).mono ?_
          rintro e w' ⟨rfl, rfl⟩
          go_wp2_with fail
          go_roundw
          case rel => exact ⟨k + 1, by omega, by go_num, Lib.hid (by rw [HE.out]; exact H1.out)⟩
          case measure => simp [intOf]; omega
        · have HE : Hid (othersN (k + 1) s.id = othersN k s.id ++ [(k : Int)]) := Lib.hid (by rw [othersN_step, if_neg hki])
          have hkb : ((k : Int) != s.id) = true := by simp [hki]
          clear hki
          obtain ⟨v, rr, hvo, hO, hB⟩ := H1.out.drew.outs
          obtain ⟨av, kv, hav⟩ := hvo.ov
          have HLO : Hid (v.os.length ≤ 900000100) := Lib.hid (by
            have h1 := congrArg List.length hvo.os
            rw [List.length_map, List.length_append, List.length_map] at h1
            have h2 := othersN_len k s.id
            omega)
          have HVS : Hid (v.os.map Sd.p = s.out ++ (othersN k s.id).map fun k => (k, eb)) := Lib.hid hvo.os
          have HW := Lib.hid hB
          rw [hav] at hO
          have HO := Lib.hid hO
          obtain ⟨c34, z34⟩ := seg_at hO 0 rfl 34 rfl
          have HBR := Lib.hid (bys_reads (k := 3) hO rfl)
          have HBO := Lib.hid (bysC_one eb)
          clear hO hB hvo
          go_wp2_with fail
          refine (hnodes.out _).mono ?_
          rintro e w' ⟨rfl, rfl⟩
          go_wp2_with fail
          refine Held.wp_held [(x.p, 34, [.slice av v.os.length kv])] [(4, 0)] [13] [(8, true), (3, true)] (by kernel_rfl) (by kernel_rfl) ⟨⟨c34, trivial⟩, trivial⟩ ?_
          simp only [Held.cutAt, Held.walk, List.take_succ_cons, List.take_zero, List.drop_succ_cons, List.drop_zero]
          go_wp2_with (at_builtin; refine wpList_fresh rfl (.tmp 47) 60 rfl 5 i0 (.int .u8 0) 1 1 Tryz.underlying60 hi hz0 hz1 hz2 rfl (by decide) _ _ _ rfl HBR.out HBO.out (by have := HQ3.out; omega) ?_)
          intro v5 w5 ho5 hu5
          obtain ⟨b5, k5, rfl⟩ := row_shape ho5
          have h5 : Own B w0 w5 (bysR (.slice b5 eb.length k5) eb :: segR x.p 141 (nsC x { s with out := s.out ++ (othersN k s.id).map fun k => (k, eb) } (.slice av v.os.length kv)) :: ownR 62 2 (.slice av v.os.length kv) v.os.length (v.os.flatMap sdC) :: sdsR v.os :: ((bysR (.slice eo eb.length ek) eb :: mmR ⟨kind, s.id, view, inst, seq, res, .slice a1 rs.length c1, rs, .slice a2 vs.length c2, vs, .slice a3 cts.length c3, cts, .slice a4 pts.length c4, pts⟩ (blk W.heap.size (mmO ⟨kind, s.id, view, inst, seq, res, .slice a1 rs.length c1, rs, .slice a2 vs.length c2, vs, .slice a3 cts.length c3, cts, .slice a4 pts.length c4, pts⟩) :: ss)) ++ rr)) := HO.out.row1 hu5 ho5
          have HX := Lib.hid (h5.box (.cells #[.int .i64 k, .slice b5 eb.length k5] 62 (0, 0)))
          have HN5 := Lib.hid (heap_alloc_new w5 (.cells #[.int .i64 k, .slice b5 eb.length k5] 62 (0, 0)))
          obtain ⟨e34, -⟩ := seg_at h5 1 rfl 34 rfl
          clear ho5 hu5 h5 HO HBR c34 z34
          go_wp2_with fail
          refine ⟨⟨⟨e34, trivial⟩, trivial⟩, ?_⟩
          go_wp2_with (at_builtin; refine wpList_push rfl (.tmp 45) (.tmp 50) 54 rfl 62 j0 (.agg #[.int .i64 0, .slice none 0 0]) 2 32 Tryz.underlying54 hj hy0 hy1 hy2 rfl (by decide) HX.out 3 (.slice av v.os.length kv) v.os.length (v.os.flatMap sdC) rfl rfl w5.heap.size #[.int .i64 k, .slice b5 eb.length k5] 62 (0, 0) rfl HN5.out rfl (by simp [Value.oneCell']) (by have := HLO.out; unfold maxLen; omega) (by have := HLO.out; omega) ?_)
          intro g6 cap6 w6 h6
          have h7 : Own B w0 w6 (bysR (.slice b5 eb.length k5) eb :: segR x.p 141 (nsC x { s with out := s.out ++ (othersN k s.id).map fun k => (k, eb) } (.slice av v.os.length kv)) :: ownR 62 2 (.slice (some ⟨g6, 0, none⟩) (v.os.length + 1) cap6) (v.os.length + 1) (v.os.flatMap sdC ++ [.int .i64 k, .slice b5 eb.length k5]) :: sdsR v.os :: ((bysR (.slice eo eb.length ek) eb :: mmR ⟨kind, s.id, view, inst, seq, res, .slice a1 rs.length c1, rs, .slice a2 vs.length c2, vs, .slice a3 cts.length c3, cts, .slice a4 pts.length c4, pts⟩ (blk W.heap.size (mmO ⟨kind, s.id, view, inst, seq, res, .slice a1 rs.length c1, rs, .slice a2 vs.length c2, vs, .slice a3 cts.length c3, cts, .slice a4 pts.length c4, pts⟩) :: ss)) ++ rr)) := h6.drop
          obtain ⟨f34, y34⟩ := seg_at h7 1 rfl 34 rfl
          have h8 := h7.toRed.putAt 1 rfl 34 (.slice (some ⟨g6, 0, none⟩) (v.os.length + 1) cap6)
          have h9 : Own B w0 (w6.setCell ⟨x.p, 34, none⟩ (.slice (some ⟨g6, 0, none⟩) (v.os.length + 1) cap6)) (segR x.p 141 (nsC x { s with out := s.out ++ (othersN k s.id).map fun k => (k, eb) } (.slice (some ⟨g6, 0, none⟩) (v.os ++ [(⟨k, .slice b5 eb.length k5, eb⟩ : Sd)]).length cap6)) :: ownR 62 2 (.slice (some ⟨g6, 0, none⟩) (v.os ++ [(⟨k, .slice b5 eb.length k5, eb⟩ : Sd)]).length cap6) (v.os ++ [(⟨k, .slice b5 eb.length k5, eb⟩ : Sd)]).length ((v.os ++ [(⟨k, .slice b5 eb.length k5, eb⟩ : Sd)]).flatMap sdC) :: sdsR (v.os ++ [(⟨k, .slice b5 eb.length k5, eb⟩ : Sd)]) :: ((bysR (.slice eo eb.length ek) eb :: mmR ⟨kind, s.id, view, inst, seq, res, .slice a1 rs.length c1, rs, .slice a2 vs.length c2, vs, .slice a3 cts.length c3, cts, .slice a4 pts.length c4, pts⟩ (blk W.heap.size (mmO ⟨kind, s.id, view, inst, seq, res, .slice a1 rs.length c1, rs, .slice a2 vs.length c2, vs, .slice a3 cts.length c3, cts, .slice a4 pts.length c4, pts⟩) :: ss)) ++ rr)) := by
            have g1 : Own B w0 _ (sdsR (v.os ++ [(⟨k, .slice b5 eb.length k5, eb⟩ : Sd)]) :: _) := h8.mkSds (fun c hc => by
              rcases List.mem_append.1 hc with hc | hc
              · exact sds_fr h8 3 rfl c hc
              · simp only [List.mem_singleton] at hc
                subst hc
                exact ⟨h8.redFr 0 rfl, HQ2.out, HQ3.out⟩)
            have g2 := ((g1.dropAt 1 (by simp)).dropAt 3 (by simp)).rot'
            simpa [List.length_append, List.flatMap_append, sdC] using g2
          have HF := Lib.hid (HW.out _ (.slice (some ⟨g6, 0, none⟩) (v.os ++ [(⟨k, .slice b5 eb.length k5, eb⟩ : Sd)]).length cap6) (v.os ++ [(⟨k, .slice b5 eb.length k5, eb⟩ : Sd)]) _ ⟨_, _, rfl⟩ h9)
          have HG : Hid (({ ({ s with out := s.out ++ (othersN k s.id).map fun k => (k, eb) } : Ns) with out := (v.os ++ [(⟨k, .slice b5 eb.length k5, eb⟩ : Sd)]).map Sd.p } : Ns) = { s with out := s.out ++ (othersN (k + 1) s.id).map fun k => (k, eb) }) := Lib.hid (by
            rw [HE.out, List.map_append, List.map_append, HVS.out]
            simp [Sd.p])
          clear h6 h7 h8 h9 HX HN5
          go_wp2_with fail
          refine ⟨⟨⟨f34, trivial⟩, trivial⟩, ?_⟩
          go_wp2_with fail
          refine ⟨trivial, by rfl, ⟨⟨rfl, .inl ⟨by kernel_rfl, rfl⟩⟩, trivial⟩, ?_⟩
          go_wp2_with fail
          go_roundw
          case rel => exact ⟨k + 1, by omega, by go_num, Lib.hid (by rw [← HG.out]; exact HF.out)⟩
          case measure => simp [intOf]; omega
      · have hkI : decide ((k : Int) < 3 * (s.c.f : Int) + 1) = false := by simp; omega
        have hke : k = 3 * s.c.f + 1 := by omega
        subst hke
        have h9 : NdIs B w0 wr x { s with out := s.out ++ (othersN (3 * s.c.f + 1) s.id).map fun k => (k, eb) } l2 (mmR ⟨kind, s.id, view, inst, seq, res, .slice a1 rs.length c1, rs, .slice a2 vs.length c2, vs, .slice a3 cts.length c3, cts, .slice a4 pts.length c4, pts⟩ (bysR (.slice eo eb.length ek) eb :: blk W.heap.size (mmO ⟨kind, s.id, view, inst, seq, res, .slice a1 rs.length c1, rs, .slice a2 vs.length c2, vs, .slice a3 cts.length c3, cts, .slice a4 pts.length c4, pts⟩) :: ss)) := H1.out.perm ((List.perm_append_comm (l₁ := [_]) (l₂ := [_, _, _, _, _, _])).append_right _)
        have HC := Lib.hid (nseal_any h9 HMO.out HQ.out rfl (by have := HLN.out; omega))
        obtain ⟨r9, hs9, -⟩ := h9.side
        have hb9 := hs9.blkAt 7 rfl
        have y0 := cell_blk hb9 0 rfl
        have y1 := cell_blk hb9 1 rfl
        have y2 := cell_blk hb9 2 rfl
        have y3 := cell_blk hb9 3 rfl
        have y4 := cell_blk hb9 4 rfl
        have y5 := cell_blk hb9 5 rfl
        have y6 := cell_blk hb9 6 rfl
        have y7 := cell_blk hb9 7 rfl
        have y8 := cell_blk hb9 8 rfl
        have y9 := cell_blk hb9 9 rfl
        clear hb9
        clear h9 hs9 H1
        go_wp2_with fail
        refine (hnodes.out _).mono ?_
        rintro e w' ⟨rfl, rfl⟩
        go_wp2_with fail
        refine HC.out.mono ?_
        rintro e w7 ⟨rfl, h7⟩
        have HF := Lib.hid (HFIN.1.out w7 (by
          have h8 := (h7.perm ((List.perm_append_comm (l₁ := [_, _, _, _, _, _]) (l₂ := [_, _])).append_right ss)).drop.drop
          show NdIs B w0 w7 x _ l2 _
          have e2 : sealL l2 s.id b = l2 := by rw [show l2 = sealL l s.id b from HQ4.out, sealL_two]
          rw [← e2]
          exact h8))
        have HV : Hid (sealN l2 s.id b = sealN l s.id b) := Lib.hid (by rw [show l2 = sealL l s.id b from HQ4.out, sealN_sealL])
        clear h7 HC
        go_wp2_with fail
        go_ret2
        rw [HV.out]
        exact ⟨rfl, HFIN.2.out _ HF.out⟩

end
end Go.Proofs.YtannckelmojkoaaGreat

/- A node's meter: all is 0 again. -/
namespace Go.Proofs.YtannckelmojkoaaGreat
open Go.RowKit Go.Heap

def zeroTo (l : List (Int × Int)) (k : Nat) : List (Int × Int) := (l.take k).map (fun _ => (0, 0)) ++ l.drop k
theorem zeroTo_len (l : List (Int × Int)) (k : Nat) : (zeroTo l k).length = l.length := by simp [zeroTo]; omega
theorem zeroTo_step (l : List (Int × Int)) (k : Nat) (hk : k < l.length) : zeroTo l (k + 1) = (zeroTo l k).set k (0, 0) := by
  refine List.ext_getElem (by simp [zeroTo_len]) (fun j h1 h2 => ?_)
  rw [zeroTo_len] at h1
  have e : ∀ k j (h : j < l.length), (zeroTo l k)[j]'(by rw [zeroTo_len]; exact h) = if j < k then (0, 0) else l[j] := by
    intro k j h
    unfold zeroTo
    by_cases hjk : j < k
    · rw [if_pos hjk, List.getElem_append_left (by simp; omega)]; simp
    · rw [if_neg hjk, List.getElem_append_right (by simp; omega)]
      simp only [List.length_map, List.length_take, List.getElem_drop]
      congr 1; omega
  rw [e (k + 1) j h1, List.getElem_set]
  by_cases hkj : k = j
  · subst hkj; simp
  · rw [if_neg hkj, e k j h1]
    by_cases hjk : j < k
    · rw [if_pos hjk, if_pos (by omega)]
    · rw [if_neg hjk, if_neg (by omega)]
theorem mtC_len (l : List (Int × Int)) : (mtC l).length = l.length := by simp [mtC]
theorem mtV_zero : mtV (0, 0) = .complex .f64 0 0 := by unfold mtV; simp only [fn_zero]

section
variable {B : Nat} {w0 w W W' : World} {ss rs : List Res} {x : Np} {s s' : Ns} {l l' : Nt} {m g cap : Nat} {z : List (Int × Int)}

set_option maxHeartbeats 1000000 in
theorem mreset_any (hcap : z.length ≤ cap) (hz : z.length ≤ 100) (h : Own B w0 W (mtL m g z.length cap z ++ ss)) : Calls Tryz.prog 96 #[ptrV m] W fun e w' => e = .returned (.tuple #[]) ∧ Own B w0 w' (mtL m g z.length cap (z.map fun _ => (0, 0)) ++ ss) := by
  have H : Hid (Own B w0 W (mtL m g z.length cap (zeroTo z 0) ++ ss)) := Lib.hid (by simpa [zeroTo] using h)
  have c0 := cell_blk (h.blkAt 0 rfl) 0 rfl
  clear h
  go_enter Tryz.func96, Tryz.ntmps96
  go_wp2_with fail
  go_loopw [8] (fun i wr => ∃ k : Nat, k ≤ z.length ∧ i = .int .i64 k ∧ Hid (Own B w0 wr (mtL m g z.length cap (zeroTo z k) ++ ss))) (fun i _ => z.length - (intOf i).toNat)
  case atStart => exact ⟨0, by omega, rfl, H⟩
  case round =>
    clear H c0
    obtain ⟨k, hk, rfl, H⟩ := hrel
    have c0 := cell_blk (H.out.blkAt 0 rfl) 0 rfl
    by_cases hlt : k < z.length
    · have hkI : (k : Int) < (z.length : Int) := by omega
      have hcI : (z.length : Int) ≤ (cap : Int) := by omega
      have hk0 : (0 : Int) ≤ (k : Int) := by omega
      have hlen : k < (mtC (zeroTo z k)).length := by rw [mtC_len, zeroTo_len]; exact hlt
      obtain ⟨hcell, f0⟩ := seg_at H.out 1 rfl k (v := (mtC (zeroTo z k))[k]) (by simp [hlen])
      have H2 : Hid (Own B w0 (wr.setCell ⟨g, k, none⟩ (.complex .f64 0 0)) (mtL m g z.length cap (zeroTo z (k + 1)) ++ ss)) := Lib.hid (by
        have := (H.out.putAt 1 rfl k (.complex .f64 0 0))
        rw [zeroTo_step z k hlt]
        show Own B w0 _ (blk m (mtB g z.length cap) :: segR g 269 (mtC ((zeroTo z k).set k (0, 0))) :: ss)
        rw [show mtC ((zeroTo z k).set k (0, 0)) = (mtC (zeroTo z k)).set k (.complex .f64 0 0) from by unfold mtC; rw [List.map_set, mtV_zero]]
        exact this)
      have hst : (store ⟨g, k, none⟩ (.complex .f64 0 0)).run Tryz.prog wr = .ok () (wr.setCell ⟨g, k, none⟩ (.complex .f64 0 0)) := by
        rw [run_store _ _ _ _ _ rfl]
        simp [stored, hcell, f0]
      clear hcell f0
      go_wp2_with fail
      go_roundw
      case rel => exact ⟨k + 1, by omega, by go_num, H2⟩
      case measure => simp [intOf]; omega
    · have hkI : decide ((k : Int) < (z.length : Int)) = false := by simp; omega
      have e : zeroTo z k = z.map fun _ => (0, 0) := by
        unfold zeroTo
        rw [List.take_of_length_le (by omega), List.drop_eq_nil_of_le (by omega), List.append_nil]
      rw [e] at H
      go_wp2_with fail
      refine bodyPost_end (results_none rfl _ _ _) rfl ?_
      exact ⟨rfl, H.out⟩

theorem nd_reset (h : NdIs B w0 W x s l ss) : Calls Tryz.prog 96 #[ptrV x.mt] W fun e w' => e = .returned (.tuple #[]) ∧ NdIs B w0 w' x (resetM s) l ss := by
  have hok := h.ok
  have hf := hok.c.f2
  have hl := hok.mt
  obtain ⟨v, rr, c, d, g⟩ := h.lens 6 (by omega) (by omega)
  refine (mreset_any (by have := c.mtk; omega) (by omega) (Own.open d)).mono ?_
  rintro e w' ⟨he, ho⟩
  refine ⟨he, g _ (resetM s) v ss (joinR (mtL x.mt x.mg (s.mt.map fun _ => ((0 : Int), (0 : Int))).length x.mtk (s.mt.map fun _ => (0, 0)))) { hok with mt := by simpa [resetM] using hok.mt, mtn := ?_ } { c with } rfl (Own.shut (rs := [_, _]) ?_)⟩
  · intro k h1 h2
    simp only [resetM, List.getElem_map]
    omega
  · rw [List.length_map]; exact ho

end
end Go.Proofs.YtannckelmojkoaaGreat
