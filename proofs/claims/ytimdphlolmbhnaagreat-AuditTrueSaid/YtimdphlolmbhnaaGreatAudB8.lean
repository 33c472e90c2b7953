/- Parts of the proof, one behind the other. -/
import Derived.Test.YtimdphlolmbhnaaGreatAudB7

/- inst: New at bad arguments; Clone. -/
namespace Go.Proofs.YtimdphlolmbhnaaGreat
open Go.RowKit Go.Heap

def badI (f num ahead : Int) : Prop := f < 1 ∨ 4 < f ∨ num < 0 ∨ f < num ∨ ahead < 1 ∨ 16 < ahead

set_option maxHeartbeats 1000000 in
theorem new_bad (f num ahead : Int) (w : World) (h : badI f num ahead) : Calls Tryz.prog 87 #[.int .i64 f, .int .i64 num, .int .i64 ahead] w fun e w' => e = .returned (.tuple #[.pointer none, .int .i64 1]) ∧ w = w' := by
  by_cases h1 : f < 1
  · have b1 : decide (f < 1) = true := by simp [h1]
    clear h h1
    go_enter Tryz.func87, Tryz.ntmps87
    go_wp2_with fail
    go_ret2
    exact ⟨rfl, rfl⟩
  · have b1 : decide (f < 1) = false := by simp; omega
    by_cases h2 : 4 < f
    · have b2 : decide (4 < f) = true := by simp [h2]
      clear h h1 h2
      go_enter Tryz.func87, Tryz.ntmps87
      go_wp2_with fail
      go_ret2
      exact ⟨rfl, rfl⟩
    · have b2 : decide (4 < f) = false := by simp; omega
      by_cases h3 : num < 0
      · have b3 : decide (num < 0) = true := by simp [h3]
        clear h h1 h2 h3
        go_enter Tryz.func87, Tryz.ntmps87
        go_wp2_with fail
        go_ret2
        exact ⟨rfl, rfl⟩
      · have b3 : decide (num < 0) = false := by simp; omega
        by_cases h4 : f < num
        · have b4 : decide (f < num) = true := by simp [h4]
          clear h h1 h2 h3 h4
          go_enter Tryz.func87, Tryz.ntmps87
          go_wp2_with fail
          go_ret2
          exact ⟨rfl, rfl⟩
        · have b4 : decide (f < num) = false := by simp; omega
          by_cases h5 : ahead < 1
          · have b5 : decide (ahead < 1) = true := by simp [h5]
            clear h h1 h2 h3 h4 h5
            go_enter Tryz.func87, Tryz.ntmps87
            go_wp2_with fail
            go_ret2
            exact ⟨rfl, rfl⟩
          · have b5 : decide (ahead < 1) = false := by simp; omega
            have b6 : decide (16 < ahead) = true := by unfold badI at h; simp; omega
            clear h h1 h2 h3 h4 h5
            go_enter Tryz.func87, Tryz.ntmps87
            go_wp2_with fail
            go_ret2
            exact ⟨rfl, rfl⟩

/-- The places of the other one: those that were cloned, behind them the elder ones. -/
def mixL (ys l : List Pm) : List Pm := ys ++ l.drop ys.length

/-- ys are the first ones of l, with slots of their own. -/
structure Cloned (x : Ins) (ys : List Pm) : Prop where
  n : ys.length ≤ x.l.length
  pl : ∀ (j : Nat) (q : Pm), ys[j]? = some q → q.lc.f = x.f ∧ ∃ q', x.l[j]? = some q' ∧ q = { q' with lc := q.lc }

theorem mix_len {ys l : List Pm} (h : ys.length ≤ l.length) : (mixL ys l).length = l.length := by simp [mixL]; omega
theorem mix_at {ys l : List Pm} (h : ys.length < l.length) : (mixL ys l)[ys.length]? = some l[ys.length] := by
  unfold mixL
  rw [List.getElem?_append_right (Nat.le_refl _), Nat.sub_self, List.getElem?_drop]
  simp [h]
theorem mix_set {ys l : List Pm} (h : ys.length < l.length) (q : Pm) : (mixL ys l).set ys.length q = mixL (ys ++ [q]) l := by
  unfold mixL
  rw [List.set_append_right _ _ (Nat.le_refl _), Nat.sub_self, List.drop_eq_getElem_cons h, List.set_cons_zero, List.length_append, List.append_assoc]
  rfl
theorem mix_all {ys l : List Pm} (h : ys.length = l.length) : mixL ys l = ys := by unfold mixL; rw [h, List.drop_length, List.append_nil]

section
variable {B : Nat} {w0 W W' : World} {ss rs : List Res} {x : Ins}

theorem pm_one (h : OwnI B w0 W x ss) : ∀ u ∈ x.l.flatMap pmCells, u.oneCell' = true := by
  intro u hu
  obtain ⟨p, hp, hu⟩ := List.mem_flatMap.1 hu
  obtain ⟨k, hk, rfl⟩ := List.getElem_of_mem hp
  obtain ⟨a1, c1, a2, c2, a3, c3, a4, c4, e1, e2, e3, e4⟩ := ct_shape h k hk
  simp only [pmCells, List.mem_cons, List.not_mem_nil, or_false] at hu
  rcases hu with rfl | rfl | rfl | rfl | rfl | rfl | rfl | rfl | rfl | rfl | rfl | rfl | rfl | rfl <;> first | rfl | (rw [e1]; rfl) | (rw [e2]; rfl) | (rw [e3]; rfl) | (rw [e4]; rfl)

theorem cell_lt {w : World} {b o : Nat} {v : Value} (h : w.cell? ⟨b, o, none⟩ = some v) : b < w.heap.size := by
  by_cases hb : b < w.heap.size
  · exact hb
  · exfalso
    unfold World.cell? at h
    simp [Array.getElem?_eq_none (Nat.le_of_not_lt hb)] at h

theorem clone_seg {w : World} {j g : Nat} {o : Obj} {T : TypeId} {vals : List Value} {r1 r2 : Res} {er : List Res} (h : Own B w0 w (r1 :: r2 :: (insHd x ++ (er ++ (blk j o :: segR g T vals :: rs))))) :
    ∀ n, n < vals.length → w.frozen? ⟨g, n, none⟩ = false ∧ ∃ v, w.cell? ⟨g, n, none⟩ = some v := fun n hn => by
  obtain ⟨-, q2, q3⟩ := segR_at (h.all (segR g T vals) (by simp)).1
  exact ⟨q3 n, vals[n], by rw [q2 n hn]; simp [hn]⟩

theorem own_cloneput {w : World} {L : Loc} {k j g : Nat} {o : Obj} {T : TypeId} {ys : List Pm} (hk : k < x.l.length) (hy : ys.length = k)
    (h : Own B w0 w (slotR L x.l[k].sl :: pmR x.l[k] :: (insHd x ++ ((x.l.eraseIdx k).map pmR ++ (blk j o :: segR g T ((mixL ys x.l).flatMap pmCells) :: (ys.map pmR ++ ss)))))) :
    OwnI B w0 (w.setCell ⟨g, k * 14, none⟩ L.ptr) x (blk j o :: segR g T ((mixL (ys ++ [{ x.l[k] with lc := L }]) x.l).flatMap pmCells) :: ((ys ++ [{ x.l[k] with lc := L }]).map pmR ++ ss)) := by
  have h1 : Own B w0 w (pmR x.l[k] :: (insHd x ++ ((x.l.eraseIdx k).map pmR ++ (slotR L x.l[k].sl :: blk j o :: segR g T ((mixL ys x.l).flatMap pmCells) :: (ys.map pmR ++ ss))))) := h.swap.perm (List.Perm.cons _ (by
    have p := (List.perm_middle (a := slotR L x.l[k].sl) (l₁ := insHd x ++ (x.l.eraseIdx k).map pmR) (l₂ := blk j o :: segR g T ((mixL ys x.l).flatMap pmCells) :: (ys.map pmR ++ ss))).symm
    rw [List.append_assoc, List.append_assoc] at p
    exact p))
  have h2 := Own.unpick (f := pmR) (x := x.l[k]) k hk h1
  rw [List.set_getElem_self] at h2
  have h3 : Own B w0 w (segR g T ((mixL ys x.l).flatMap pmCells) :: instR x :: slotR L x.l[k].sl :: blk j o :: (ys.map pmR ++ ss)) := (own_shut h2).perm3'
  have h4 := h3.put (k * 14 + 0) L.ptr
  have e : ((mixL ys x.l).flatMap pmCells).set (k * 14 + 0) L.ptr = (mixL (ys ++ [{ x.l[k] with lc := L }]) x.l).flatMap pmCells := by
    subst hy
    rw [flat_set (cells := pmCells) (sz := 14) (fun _ => rfl) (mixL ys x.l) ys.length 0 x.l[ys.length] { x.l[ys.length] with lc := L } L.ptr (mix_at hk) (by omega) rfl, mix_set hk]
  rw [e] at h4
  have h5 : Own B w0 (w.setCell ⟨g, k * 14, none⟩ L.ptr) (instR x :: blk j o :: segR g T ((mixL (ys ++ [{ x.l[k] with lc := L }]) x.l).flatMap pmCells) :: ((ys ++ [{ x.l[k] with lc := L }]).map pmR ++ ss)) := h4.perm (by
    rw [List.map_append, List.append_assoc]
    refine List.Perm.trans (List.Perm.swap _ _ _) (List.Perm.cons _ ?_)
    refine List.Perm.trans (List.perm_middle (l₁ := [_, _])) (List.Perm.cons _ (List.Perm.cons _ ?_))
    exact (List.perm_middle (a := slotR L x.l[k].sl) (l₁ := ys.map pmR) (l₂ := ss)).symm)
  exact own_open h5

theorem Cloned.add {ys : List Pm} (h : Cloned x ys) (hk : ys.length < x.l.length) {L : Loc} (hf : L.f = x.f) : Cloned x (ys ++ [{ x.l[ys.length] with lc := L }]) where
  n := by simp; omega
  pl := fun j q hq => by
    rw [List.getElem?_append] at hq
    split at hq
    · exact h.pl j q hq
    · have hj : j = ys.length := by
        have := (List.getElem?_eq_some_iff.1 hq).1
        simp at this
        omega
      subst hj
      simp at hq
      subst hq
      exact ⟨hf, x.l[ys.length], by simp [hk], rfl⟩

theorem clone_after {w : World} {k j g cap2 : Nat} {ys : List Pm} {o : Obj} {T : TypeId} (h : OwnI B w0 w x (blk j o :: segR g T ((mixL ys x.l).flatMap pmCells) :: (ys.map pmR ++ ss))) (hk : k < x.l.length) (hy : ys.length = k) (hc : Cloned x ys)
    (dj : w.cell? ⟨j, 5, none⟩ = some (.slice (some ⟨g, 0, none⟩) 16 cap2)) (d5 : w.cell? ⟨x.i, 5, none⟩ = some (.slice (some ⟨x.b, 0, none⟩) 16 x.cap)) (dp : w.cell? ⟨x.b, k * 14, none⟩ = some x.l[k].lc.ptr) :
    Calls Tryz.prog 113 #[x.l[k].lc.ptr] w fun e w4 => ∃ L : Loc, e = .returned L.ptr ∧ L.f = x.f ∧
      (w4.cell? ⟨j, 5, none⟩ = some (.slice (some ⟨g, 0, none⟩) 16 cap2) ∧ w4.cell? ⟨x.i, 5, none⟩ = some (.slice (some ⟨x.b, 0, none⟩) 16 x.cap) ∧ w4.cell? ⟨x.b, k * 14, none⟩ = some x.l[k].lc.ptr) ∧
      (w4.frozen? ⟨g, k * 14, none⟩ = false ∧ ∃ v, w4.cell? ⟨g, k * 14, none⟩ = some v) ∧
      OwnI B w0 (w4.setCell ⟨g, k * 14, none⟩ L.ptr) x (blk j o :: segR g T ((mixL (ys ++ [{ x.l[k] with lc := L }]) x.l).flatMap pmCells) :: ((ys ++ [{ x.l[k] with lc := L }]).map pmR ++ ss)) ∧
      ((w4.setCell ⟨g, k * 14, none⟩ L.ptr).cell? ⟨j, 5, none⟩ = some (.slice (some ⟨g, 0, none⟩) 16 cap2) ∧ (w4.setCell ⟨g, k * 14, none⟩ L.ptr).cell? ⟨x.i, 5, none⟩ = some (.slice (some ⟨x.b, 0, none⟩) 16 x.cap) ∧ (w4.setCell ⟨g, k * 14, none⟩ L.ptr).cell? ⟨x.b, k * 14, none⟩ = some x.l[k].lc.ptr) := by
  refine (own_clone (oi_pick h k hk)).mono ?_
  rintro e w4 ⟨L, rfl, hf, hu4, h4⟩
  have h9 := own_cloneput hk hy h4
  have ej := (upd_cell0 (o := 5) hu4 (cell_lt dj)).trans dj
  have hjb := (own_shut h).drop.blk_out
  have hjb9 := (own_shut h9).drop.blk_out
  obtain ⟨-, -, -, -, -, g5, -, -⟩ := oi_cells h9
  refine ⟨L, rfl, hf.trans ((oi_ok h).lf _ (List.getElem_mem hk)), ⟨ej, (upd_cell0 hu4 (cell_lt d5)).trans d5, (upd_cell0 hu4 (cell_lt dp)).trans dp⟩, ?_, h9, ?_, g5, oi_ptr h9 k hk⟩
  · exact clone_seg h4 (k * 14) (by rw [flat_length (cells := pmCells) (sz := 14) (fun _ => rfl), mix_len hc.n]; omega)
  · exact (World.cell?_of_block (hjb9.trans hjb.symm)).trans dj

/-- All places are cloned: another instance, in the same state. -/
theorem own_cloned {w : World} {j g cap : Nat} {ys : List Pm} (hc : Cloned x ys) (hy : ys.length = 16) (hcap : 16 ≤ cap)
    (h : OwnI B w0 w x (blk j (insO x.f x.num x.ahead x.view x.on (.slice (some ⟨g, 0, none⟩) 16 cap)) :: segR g 254 ((mixL ys x.l).flatMap pmCells) :: (ys.map pmR ++ ss))) :
    ∃ y : Ins, y.i = j ∧ y.st = x.st ∧ Own B w0 w (instR y :: instR x :: ss) := by
  have hok := oi_ok h
  rw [mix_all (by rw [hy, hok.n])] at h
  have hat : ∀ q ∈ ys, q.lc.f = x.f ∧ ∃ q' ∈ x.l, q = { q' with lc := q.lc } := fun q hq => by
    obtain ⟨n, hn, rfl⟩ := List.getElem_of_mem hq
    obtain ⟨e1, q', e2, e3⟩ := hc.pl n ys[n] (by simp)
    exact ⟨e1, q', List.mem_of_getElem? e2, e3⟩
  refine ⟨⟨j, g, cap, x.f, x.num, x.ahead, x.view, x.on, ys⟩, rfl, ?_, ?_⟩
  · simp only [Ins.st, In.mk.injEq, true_and]
    apply List.ext_getElem?
    intro n
    rw [List.getElem?_map, List.getElem?_map]
    by_cases hn : n < ys.length
    · obtain ⟨-, q', e2, e3⟩ := hc.pl n ys[n] (by simp)
      rw [List.getElem?_eq_getElem hn, e2]
      simp only [Option.map_some, Option.some.injEq]
      rw [e3]
      rfl
    · rw [List.getElem?_eq_none (by omega), List.getElem?_eq_none (by rw [hok.n]; omega)]
  · have h1 : Own B w0 w (certsR ⟨j, g, cap, x.f, x.num, x.ahead, x.view, x.on, ys⟩ :: (insHd x ++ (x.l.map pmR ++ (blk j (insO x.f x.num x.ahead x.view x.on (.slice (some ⟨g, 0, none⟩) 16 cap)) :: segR g 254 (ys.flatMap pmCells) :: (ys.map pmR ++ ss))))) := by
      obtain ⟨D, ⟨⟨q1, q2⟩, q3⟩, q4, q5⟩ := (h.all (certsR x) (by simp [insHd])).1
      refine Own.new h (Upd.refl [] _) ⟨D, ⟨⟨⟨hy, q1.f1, q1.f2, fun q hq => (hat q hq).1, hcap, q1.a1, q1.a2, q1.vw⟩, fun q hq => ?_⟩, q3⟩, q4, q5⟩ (by simp [certsR, imm])
      obtain ⟨-, q', hm, e⟩ := hat q hq
      have := q2 q' hm
      rw [e]
      exact this
    have h2 : Own B w0 w (insHd x ++ (x.l.map pmR ++ (blk j (insO x.f x.num x.ahead x.view x.on (.slice (some ⟨g, 0, none⟩) 16 cap)) :: segR g 254 (ys.flatMap pmCells) :: certsR ⟨j, g, cap, x.f, x.num, x.ahead, x.view, x.on, ys⟩ :: (ys.map pmR ++ ss)))) := h1.perm (by
      have p := (List.perm_middle (a := certsR ⟨j, g, cap, x.f, x.num, x.ahead, x.view, x.on, ys⟩) (l₁ := insHd x ++ (x.l.map pmR ++ [blk j (insO x.f x.num x.ahead x.view x.on (.slice (some ⟨g, 0, none⟩) 16 cap)), segR g 254 (ys.flatMap pmCells)])) (l₂ := ys.map pmR ++ ss)).symm
      simp only [List.append_assoc, List.cons_append, List.nil_append] at p
      exact p)
    have h3 : Own B w0 w (instR x :: (insHd ⟨j, g, cap, x.f, x.num, x.ahead, x.view, x.on, ys⟩ ++ (ys.map pmR ++ ss))) := own_shut h2
    have h4 : Own B w0 w (insHd ⟨j, g, cap, x.f, x.num, x.ahead, x.view, x.on, ys⟩ ++ (ys.map pmR ++ (instR x :: ss))) := h3.perm (by
      have p := (List.perm_middle (a := instR x) (l₁ := insHd ⟨j, g, cap, x.f, x.num, x.ahead, x.view, x.on, ys⟩ ++ ys.map pmR) (l₂ := ss)).symm
      simp only [List.append_assoc] at p
      exact p)
    exact own_shut (x := ⟨j, g, cap, x.f, x.num, x.ahead, x.view, x.on, ys⟩) h4

set_option maxHeartbeats 4000000 in
set_option maxRecDepth 100000 in
theorem ins_clone (h : Own B w0 W (instR x :: ss)) {i : Nat} (hi : x.i = i) :
    Calls Tryz.prog 103 #[.pointer (some ⟨i, 0, none⟩)] W fun e w' => ∃ j y, e = .returned (.pointer (some ⟨j, 0, none⟩)) ∧ Ins.i y = j ∧ Ins.st y = Ins.st x ∧ Own B w0 w' (instR y :: instR x :: ss) := by
  subst hi
  obtain ⟨i0, hi, hz0, hz1, hz2⟩ := info_parts Tryz.infoPl
  have ho := own_open h
  obtain ⟨c0, c1, c2, c3, c4, c5, l1, l2⟩ := oi_cells ho
  have h1 : OwnI B w0 (W.alloc x.o) x (blk W.heap.size x.o :: ss) := own_open (h.box x.o).swap
  have H1 := Lib.hid h1
  have H2 := Lib.hid (Own.row0 (E := 254) (sz := 14) h1)
  have HN := Lib.hid (oi_ok h1).n
  have HONE := Lib.hid (pm_one h1)
  have HCL : Hid (∀ j u, (x.l.flatMap pmCells)[j]? = some u → (W.alloc x.o).cell? ((⟨x.b, 0, none⟩ : Addr).add j) = some u) := Lib.hid (fun j u hj => by
    obtain ⟨-, q2, -⟩ := segR_at (h1.all (segR x.b 254 (x.l.flatMap pmCells)) (by simp [insHd])).1
    have hl := (List.getElem?_eq_some_iff.1 hj).1
    have : (⟨x.b, 0, none⟩ : Addr).add j = ⟨x.b, j, none⟩ := by unfold Addr.add; split <;> simp_all
    rw [this, q2 j hl]
    exact hj)
  have hbj := (own_shut h1).drop.blk_out
  obtain ⟨k0, k1, k2, k3, k4, k5, m1, m2⟩ := oi_cells h1
  clear ho h1 h
  go_enter Tryz.func103, Tryz.ntmps103
  go_upto_region 2 with fail
  have hbj : (W.alloc x.o).heap[W.heap.size]? = some x.o := hbj
  have HLL := Lib.hid (show (x.l.flatMap pmCells).length = 16 * 14 by rw [flat_length (cells := pmCells) (sz := 14) (fun _ => rfl), HN.out])
  have HBJ := Lib.hid hbj
  clear hbj c0 c1 c2 c3 c4 c5
  generalize hj : W.heap.size = j at *
  generalize hw1 : W.alloc x.o = w1 at *
  go_wp2_with (at_builtin; refine wpList_append_lies _ rfl (.const (.slice none 0 0)) (.tmp 11) 247 rfl 0 254 i0 (.agg #[.pointer none, .bool false, .bool false, .int .i64 0, .int .i64 0, .int .i64 0, .slice none 0 0, .slice none 0 0, .bool false, .int .i64 0, .int .i64 0, .int .i64 0, .slice none 0 0, .slice none 0 0]) 14 168 Tryz.underlying247 hi hz0 hz1 hz2 rfl (by decide) _ 0 [] rfl (World.ownsRow_nil _ _ _ _) ⟨x.b, 0, none⟩ 16 x.cap (x.l.flatMap pmCells) rfl HLL.out HCL.out HONE.out (by decide) ?c3 ?c4 (Nat.zero_le _) _ rfl ?c6)
  case c3 => unfold maxLen; omega
  case c4 => omega
  case c6 =>
    intro g cap2 w2 hown hgrow hat hlt2
    have hcap : 16 ≤ cap2 := by
      rcases hown.2 with ⟨e, _⟩ | ⟨g', cap', cur, e, _, _, hnc, _⟩
      · cases e
      · cases e
        simpa using hnc
    have h3 := H2.out.grow hgrow (by simpa using hat) hown
    have h4 := h3.alter (r' := segR g 254 (x.l.flatMap pmCells)) (by simpa using ownR_seg h3.head) (fun k hk => by simpa [ownR, segR, blkOf] using hk)
    have h5 : OwnI B w0 w2 x (blk j x.o :: segR g 254 (x.l.flatMap pmCells) :: ss) := by
      have h6 : Own B w0 w2 (instR x :: blk j x.o :: segR g 254 (x.l.flatMap pmCells) :: ss) := by
        have h7 : Own B w0 w2 (insHd x ++ (x.l.map pmR ++ (segR g 254 (x.l.flatMap pmCells) :: blk j x.o :: ss))) := h4.perm (by
          have p := (List.perm_middle (a := segR g 254 (x.l.flatMap pmCells)) (l₁ := insHd x ++ x.l.map pmR) (l₂ := blk j x.o :: ss)).symm
          simp only [List.append_assoc] at p
          exact p)
        exact (own_shut h7).perm (List.Perm.cons _ (List.Perm.swap _ _ _))
      exact own_open h6
    have hbj := (own_shut h5).drop.blk_out
    have f5 : w2.cell? ⟨j, 5, none⟩ = some (.slice (some ⟨x.b, 0, none⟩) 16 x.cap) := by rw [block_cell hbj]; rfl
    have z5 : w2.frozen? ⟨j, 5, none⟩ = false := block_frozen hbj 5
    have H5 := Lib.hid h5
    clear h3 h4 h5 hbj hown hgrow hat hlt2 H1 H2 HONE HCL HLL HBJ k0 k1 k2 k3 k4 k5 m1 m2 hi hz0 hz1 hz2 l1 l2
    go_wp2_with fail
    have h6 : OwnI B w0 (w2.setCell ⟨j, 5, none⟩ (.slice (some ⟨g, 0, none⟩) 16 cap2)) x (blk j (insO x.f x.num x.ahead x.view x.on (.slice (some ⟨g, 0, none⟩) 16 cap2)) :: segR g 254 ((mixL [] x.l).flatMap pmCells) :: (([] : List Pm).map pmR ++ ss)) :=
      own_open (((own_shut H5.out).swap.store 5 _).swap)
    have H6 := Lib.hid h6
    clear H5 h6 f5 z5
    generalize w2.setCell ⟨j, 5, none⟩ (.slice (some ⟨g, 0, none⟩) 16 cap2) = w3 at *
    have hbj := (own_shut H6.out).drop.blk_out
    have f5 : w3.cell? ⟨j, 5, none⟩ = some (.slice (some ⟨g, 0, none⟩) 16 cap2) := by rw [block_cell hbj]; rfl
    clear hbj
    go_wp2_with fail
    clear f5
    go_loopw [17] (fun n wr => ∃ (k : Nat) (ys : List Pm), k ≤ 16 ∧ n = .int .i64 k ∧ Hid (ys.length = k ∧ Cloned x ys) ∧ Hid (OwnI B w0 wr x (blk j (insO x.f x.num x.ahead x.view x.on (.slice (some ⟨g, 0, none⟩) 16 cap2)) :: segR g 254 ((mixL ys x.l).flatMap pmCells) :: (ys.map pmR ++ ss)))) (fun n _ => 16 - (intOf n).toNat)
    case atStart => exact ⟨0, [], by omega, rfl, Lib.hid ⟨rfl, ⟨by simp, by simp⟩⟩, H6⟩
    case round =>
      clear H6
      obtain ⟨k, ys, hk, rfl, HY, H6⟩ := hrel
      by_cases hlt : k < 16
      · have hkI : (k : Int) < 16 := by omega
        have hk0 : (0 : Int) ≤ (k : Int) := by omega
        have hkl : k < x.l.length := by rw [HN.out]; exact hlt
        have hd := oi_drew H6.out
        obtain ⟨-, -, -, -, -, d5, -, -⟩ := oi_cells hd
        have dp := oi_ptr hd k hkl
        have hbj := (own_shut hd).drop.blk_out
        have dj : wr.drew.cell? ⟨j, 5, none⟩ = some (.slice (some ⟨g, 0, none⟩) 16 cap2) := by rw [block_cell hbj]; rfl
        have HC := Lib.hid (clone_after hd hkl HY.out.1 HY.out.2 dj d5 dp)
        clear hd hbj
        go_wp2_with fail
        go_region_held3 (fun w' => w'.cell? ⟨j, 5, none⟩ = some (.slice (some ⟨g, 0, none⟩) 16 cap2) ∧ w'.cell? ⟨x.i, 5, none⟩ = some (.slice (some ⟨x.b, 0, none⟩) 16 x.cap) ∧ w'.cell? ⟨x.b, k * 14, none⟩ = some x.l[k].lc.ptr)
          (first | (with_reducible exact ⟨dj, d5, dp⟩) | (with_reducible exact ⟨ej, e5, ep⟩) | (with_reducible exact ⟨gj, g5, gp⟩))
          ((go_at_call 113; refine HC.out.mono ?_; rintro e w4 ⟨L, rfl, hf, ⟨ej, e5, ep⟩, ⟨zg, vg, yg⟩, h9, gj, g5, gp⟩; have H9 := Lib.hid h9; have HLf := Lib.hid hf; clear h9 hf))
        all_goals
          go_wp2_with fail
          go_roundw
          case rel => exact ⟨k + 1, _, by omega, by go_num, Lib.hid ⟨by simp [HY.out.1], (by have := HY.out.2.add (L := L) (by rw [HY.out.1]; exact hkl) HLf.out; simpa [HY.out.1] using this)⟩, H9⟩
          case measure => simp [intOf]; omega
      · have hk16 : k = 16 := by omega
        subst hk16
        have hkI : decide ((16 : Int) < 16) = false := by decide
        obtain ⟨y, y1, y2, y3⟩ := own_cloned HY.out.2 HY.out.1 hcap H6.out
        have HZ := Lib.hid y3
        clear y3
        go_wp2_with fail
        go_ret
        exact ⟨j, y, rfl, y1, y2, HZ.out⟩

end
end Go.Proofs.YtimdphlolmbhnaaGreat
