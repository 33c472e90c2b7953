/- Parts of the proof, one behind the other. -/
import Derived.Test.YtdeadekeffficaaPlayB4
import Derived.Deep.MidRow

/- inst: New at bad arguments; Clone. -/
namespace Go.Proofs.Ytdeadekeffficaa
open Go.RowKit Go.Heap

def badI (f num ahead : Int) : Prop := f < 1 ∨ 4 < f ∨ num < 0 ∨ f < num ∨ ahead < 1 ∨ 16 < ahead

set_option maxHeartbeats 1000000 in
theorem new_bad (f num ahead : Int) (w : World) (h : badI f num ahead) : Calls Try.prog 34 #[.int .i64 f, .int .i64 num, .int .i64 ahead] w fun e w' => e = .returned (.tuple #[.pointer none, .int .i64 1]) ∧ w = w' := by
  by_cases h1 : f < 1
  · have b1 : decide (f < 1) = true := by simp [h1]
    clear h h1
    go_enter Try.func34, Try.ntmps34
    go_wp2_with fail
    go_ret2
    exact ⟨rfl, rfl⟩
  · have b1 : decide (f < 1) = false := by simp; omega
    by_cases h2 : 4 < f
    · have b2 : decide (4 < f) = true := by simp [h2]
      clear h h1 h2
      go_enter Try.func34, Try.ntmps34
      go_wp2_with fail
      go_ret2
      exact ⟨rfl, rfl⟩
    · have b2 : decide (4 < f) = false := by simp; omega
      by_cases h3 : num < 0
      · have b3 : decide (num < 0) = true := by simp [h3]
        clear h h1 h2 h3
        go_enter Try.func34, Try.ntmps34
        go_wp2_with fail
        go_ret2
        exact ⟨rfl, rfl⟩
      · have b3 : decide (num < 0) = false := by simp; omega
        by_cases h4 : f < num
        · have b4 : decide (f < num) = true := by simp [h4]
          clear h h1 h2 h3 h4
          go_enter Try.func34, Try.ntmps34
          go_wp2_with fail
          go_ret2
          exact ⟨rfl, rfl⟩
        · have b4 : decide (f < num) = false := by simp; omega
          by_cases h5 : ahead < 1
          · have b5 : decide (ahead < 1) = true := by simp [h5]
            clear h h1 h2 h3 h4 h5
            go_enter Try.func34, Try.ntmps34
            go_wp2_with fail
            go_ret2
            exact ⟨rfl, rfl⟩
          · have b5 : decide (ahead < 1) = false := by simp; omega
            have b6 : decide (16 < ahead) = true := by unfold badI at h; simp; omega
            clear h h1 h2 h3 h4 h5
            go_enter Try.func34, Try.ntmps34
            go_wp2_with fail
            go_ret2
            exact ⟨rfl, rfl⟩

/-- The places of the other one: those that were cloned, behind them the elder ones. -/
def mixL (ys l : List Pm) : List Pm := ys ++ l.drop ys.length

/-- ys are the first ones of l, with slots of their own. -/
structure Cloned (x : Ins) (ys : List Pm) : Prop where
  n : ys.length ≤ x.l.length
  pl : ∀ (j : Nat) (q : Pm), ys[j]? = some q → q.lc.f = x.f ∧ ∃ q', x.l[j]? = some q' ∧ q = { q' with lc := q.lc }

theorem mix_len {ys l : List Pm} (h : ys.length ≤ l.length) : (mixL ys l).length = l.length := by simp [mixL]; omega
theorem mix_at {ys l : List Pm} (h : ys.length < l.length) : (mixL ys l)[ys.length]? = some l[ys.length] := by
  unfold mixL
  rw [List.getElem?_append_right (Nat.le_refl _), Nat.sub_self, List.getElem?_drop]
  simp [h]
theorem mix_set {ys l : List Pm} (h : ys.length < l.length) (q : Pm) : (mixL ys l).set ys.length q = mixL (ys ++ [q]) l := by
  unfold mixL
  rw [List.set_append_right _ _ (Nat.le_refl _), Nat.sub_self, List.drop_eq_getElem_cons h, List.set_cons_zero, List.length_append, List.append_assoc]
  rfl
theorem mix_all {ys l : List Pm} (h : ys.length = l.length) : mixL ys l = ys := by unfold mixL; rw [h, List.drop_length, List.append_nil]

section
variable {B : Nat} {w0 W W' : World} {ss rs : List Res} {x : Ins}

theorem pm_one (h : OwnI B w0 W x ss) : ∀ u ∈ x.l.flatMap pmCells, u.oneCell' = true := by
  intro u hu
  obtain ⟨p, hp, hu⟩ := List.mem_flatMap.1 hu
  obtain ⟨k, hk, rfl⟩ := List.getElem_of_mem hp
  obtain ⟨a1, c1, a2, c2, a3, c3, a4, c4, e1, e2, e3, e4⟩ := ct_shape h k hk
  simp only [pmCells, List.mem_cons, List.not_mem_nil, or_false] at hu
  rcases hu with rfl | rfl | rfl | rfl | rfl | rfl | rfl | rfl | rfl | rfl | rfl | rfl | rfl | rfl <;> first | rfl | (rw [e1]; rfl) | (rw [e2]; rfl) | (rw [e3]; rfl) | (rw [e4]; rfl)

theorem cell_lt {w : World} {b o : Nat} {v : Value} (h : w.cell? ⟨b, o, none⟩ = some v) : b < w.heap.size := by
  by_cases hb : b < w.heap.size
  · exact hb
  · exfalso
    unfold World.cell? at h
    simp [Array.getElem?_eq_none (Nat.le_of_not_lt hb)] at h

theorem clone_seg {w : World} {j g : Nat} {o : Obj} {T : TypeId} {vals : List Value} {r1 r2 : Res} {er : List Res} (h : Own B w0 w (r1 :: r2 :: (insHd x ++ (er ++ (blk j o :: segR g T vals :: rs))))) :
    ∀ n, n < vals.length → w.frozen? ⟨g, n, none⟩ = false ∧ ∃ v, w.cell? ⟨g, n, none⟩ = some v := fun n hn => by
  obtain ⟨-, q2, q3⟩ := segR_at (h.all (segR g T vals) (by simp)).1
  exact ⟨q3 n, vals[n], by rw [q2 n hn]; simp [hn]⟩

theorem own_cloneput {w : World} {L : Loc} {k j g : Nat} {o : Obj} {T : TypeId} {ys : List Pm} (hk : k < x.l.length) (hy : ys.length = k)
    (h : Own B w0 w (slotR L x.l[k].sl :: pmR x.l[k] :: (insHd x ++ ((x.l.eraseIdx k).map pmR ++ (blk j o :: segR g T ((mixL ys x.l).flatMap pmCells) :: (ys.map pmR ++ ss)))))) :
    OwnI B w0 (w.setCell ⟨g, k * 14, none⟩ L.ptr) x (blk j o :: segR g T ((mixL (ys ++ [{ x.l[k] with lc := L }]) x.l).flatMap pmCells) :: ((ys ++ [{ x.l[k] with lc := L }]).map pmR ++ ss)) := by
  have h1 : Own B w0 w (pmR x.l[k] :: (insHd x ++ ((x.l.eraseIdx k).map pmR ++ (slotR L x.l[k].sl :: blk j o :: segR g T ((mixL ys x.l).flatMap pmCells) :: (ys.map pmR ++ ss))))) := h.swap.perm (List.Perm.cons _ (by
    have p := (List.perm_middle (a := slotR L x.l[k].sl) (l₁ := insHd x ++ (x.l.eraseIdx k).map pmR) (l₂ := blk j o :: segR g T ((mixL ys x.l).flatMap pmCells) :: (ys.map pmR ++ ss))).symm
    rw [List.append_assoc, List.append_assoc] at p
    exact p))
  have h2 := Own.unpick (f := pmR) (x := x.l[k]) k hk h1
  rw [List.set_getElem_self] at h2
  have h3 : Own B w0 w (segR g T ((mixL ys x.l).flatMap pmCells) :: instR x :: slotR L x.l[k].sl :: blk j o :: (ys.map pmR ++ ss)) := (own_shut h2).perm3'
  have h4 := h3.put (k * 14 + 0) L.ptr
  have e : ((mixL ys x.l).flatMap pmCells).set (k * 14 + 0) L.ptr = (mixL (ys ++ [{ x.l[k] with lc := L }]) x.l).flatMap pmCells := by
    subst hy
    rw [flat_set (cells := pmCells) (sz := 14) (fun _ => rfl) (mixL ys x.l) ys.length 0 x.l[ys.length] { x.l[ys.length] with lc := L } L.ptr (mix_at hk) (by omega) rfl, mix_set hk]
  rw [e] at h4
  have h5 : Own B w0 (w.setCell ⟨g, k * 14, none⟩ L.ptr) (instR x :: blk j o :: segR g T ((mixL (ys ++ [{ x.l[k] with lc := L }]) x.l).flatMap pmCells) :: ((ys ++ [{ x.l[k] with lc := L }]).map pmR ++ ss)) := h4.perm (by
    rw [List.map_append, List.append_assoc]
    refine List.Perm.trans (List.Perm.swap _ _ _) (List.Perm.cons _ ?_)
    refine List.Perm.trans (List.perm_middle (l₁ := [_, _])) (List.Perm.cons _ (List.Perm.cons _ ?_))
    exact (List.perm_middle (a := slotR L x.l[k].sl) (l₁ := ys.map pmR) (l₂ := ss)).symm)
  exact own_open h5

theorem Cloned.add {ys : List Pm} (h : Cloned x ys) (hk : ys.length < x.l.length) {L : Loc} (hf : L.f = x.f) : Cloned x (ys ++ [{ x.l[ys.length] with lc := L }]) where
  n := by simp; omega
  pl := fun j q hq => by
    rw [List.getElem?_append] at hq
    split at hq
    · exact h.pl j q hq
    · have hj : j = ys.length := by
        have := (List.getElem?_eq_some_iff.1 hq).1
        simp at this
        omega
      subst hj
      simp at hq
      subst hq
      exact ⟨hf, x.l[ys.length], by simp [hk], rfl⟩

theorem clone_after {w : World} {k j g cap2 : Nat} {ys : List Pm} {o : Obj} {T : TypeId} (h : OwnI B w0 w x (blk j o :: segR g T ((mixL ys x.l).flatMap pmCells) :: (ys.map pmR ++ ss))) (hk : k < x.l.length) (hy : ys.length = k) (hc : Cloned x ys)
    (dj : w.cell? ⟨j, 5, none⟩ = some (.slice (some ⟨g, 0, none⟩) 16 cap2)) (d5 : w.cell? ⟨x.i, 5, none⟩ = some (.slice (some ⟨x.b, 0, none⟩) 16 x.cap)) (dp : w.cell? ⟨x.b, k * 14, none⟩ = some x.l[k].lc.ptr) :
    Calls Try.prog 31 #[x.l[k].lc.ptr] w fun e w4 => ∃ L : Loc, e = .returned L.ptr ∧ L.f = x.f ∧
      (w4.cell? ⟨j, 5, none⟩ = some (.slice (some ⟨g, 0, none⟩) 16 cap2) ∧ w4.cell? ⟨x.i, 5, none⟩ = some (.slice (some ⟨x.b, 0, none⟩) 16 x.cap) ∧ w4.cell? ⟨x.b, k * 14, none⟩ = some x.l[k].lc.ptr) ∧
      (w4.frozen? ⟨g, k * 14, none⟩ = false ∧ ∃ v, w4.cell? ⟨g, k * 14, none⟩ = some v) ∧
      OwnI B w0 (w4.setCell ⟨g, k * 14, none⟩ L.ptr) x (blk j o :: segR g T ((mixL (ys ++ [{ x.l[k] with lc := L }]) x.l).flatMap pmCells) :: ((ys ++ [{ x.l[k] with lc := L }]).map pmR ++ ss)) ∧
      ((w4.setCell ⟨g, k * 14, none⟩ L.ptr).cell? ⟨j, 5, none⟩ = some (.slice (some ⟨g, 0, none⟩) 16 cap2) ∧ (w4.setCell ⟨g, k * 14, none⟩ L.ptr).cell? ⟨x.i, 5, none⟩ = some (.slice (some ⟨x.b, 0, none⟩) 16 x.cap) ∧ (w4.setCell ⟨g, k * 14, none⟩ L.ptr).cell? ⟨x.b, k * 14, none⟩ = some x.l[k].lc.ptr) := by
  refine (own_clone (oi_pick h k hk)).mono ?_
  rintro e w4 ⟨L, rfl, hf, hu4, h4⟩
  have h9 := own_cloneput hk hy h4
  have ej := (upd_cell0 (o := 5) hu4 (cell_lt dj)).trans dj
  have hjb := (own_shut h).drop.blk_out
  have hjb9 := (own_shut h9).drop.blk_out
  obtain ⟨-, -, -, -, -, g5, -, -⟩ := oi_cells h9
  refine ⟨L, rfl, hf.trans ((oi_ok h).lf _ (List.getElem_mem hk)), ⟨ej, (upd_cell0 hu4 (cell_lt d5)).trans d5, (upd_cell0 hu4 (cell_lt dp)).trans dp⟩, ?_, h9, ?_, g5, oi_ptr h9 k hk⟩
  · exact clone_seg h4 (k * 14) (by rw [flat_length (cells := pmCells) (sz := 14) (fun _ => rfl), mix_len hc.n]; omega)
  · exact (World.cell?_of_block (hjb9.trans hjb.symm)).trans dj

/-- All places are cloned: another instance, in the same state. -/
theorem own_cloned {w : World} {j g cap : Nat} {ys : List Pm} (hc : Cloned x ys) (hy : ys.length = 16) (hcap : 16 ≤ cap)
    (h : OwnI B w0 w x (blk j (insO x.f x.num x.ahead x.view x.on (.slice (some ⟨g, 0, none⟩) 16 cap)) :: segR g 122 ((mixL ys x.l).flatMap pmCells) :: (ys.map pmR ++ ss))) :
    ∃ y : Ins, y.i = j ∧ y.st = x.st ∧ Own B w0 w (instR y :: instR x :: ss) := by
  have hok := oi_ok h
  rw [mix_all (by rw [hy, hok.n])] at h
  have hat : ∀ q ∈ ys, q.lc.f = x.f ∧ ∃ q' ∈ x.l, q = { q' with lc := q.lc } := fun q hq => by
    obtain ⟨n, hn, rfl⟩ := List.getElem_of_mem hq
    obtain ⟨e1, q', e2, e3⟩ := hc.pl n ys[n] (by simp)
    exact ⟨e1, q', List.mem_of_getElem? e2, e3⟩
  refine ⟨⟨j, g, cap, x.f, x.num, x.ahead, x.view, x.on, ys⟩, rfl, ?_, ?_⟩
  · simp only [Ins.st, In.mk.injEq, true_and]
    apply List.ext_getElem?
    intro n
    rw [List.getElem?_map, List.getElem?_map]
    by_cases hn : n < ys.length
    · obtain ⟨-, q', e2, e3⟩ := hc.pl n ys[n] (by simp)
      rw [List.getElem?_eq_getElem hn, e2]
      simp only [Option.map_some, Option.some.injEq]
      rw [e3]
      rfl
    · rw [List.getElem?_eq_none (by omega), List.getElem?_eq_none (by rw [hok.n]; omega)]
  · have h1 : Own B w0 w (certsR ⟨j, g, cap, x.f, x.num, x.ahead, x.view, x.on, ys⟩ :: (insHd x ++ (x.l.map pmR ++ (blk j (insO x.f x.num x.ahead x.view x.on (.slice (some ⟨g, 0, none⟩) 16 cap)) :: segR g 122 (ys.flatMap pmCells) :: (ys.map pmR ++ ss))))) := by
      obtain ⟨D, ⟨⟨q1, q2⟩, q3⟩, q4, q5⟩ := (h.all (certsR x) (by simp [insHd])).1
      refine Own.new h (Upd.refl [] _) ⟨D, ⟨⟨⟨hy, q1.f1, q1.f2, fun q hq => (hat q hq).1, hcap, q1.a1, q1.a2, q1.vw⟩, fun q hq => ?_⟩, q3⟩, q4, q5⟩ (by simp [certsR, imm])
      obtain ⟨-, q', hm, e⟩ := hat q hq
      have := q2 q' hm
      rw [e]
      exact this
    have h2 : Own B w0 w (insHd x ++ (x.l.map pmR ++ (blk j (insO x.f x.num x.ahead x.view x.on (.slice (some ⟨g, 0, none⟩) 16 cap)) :: segR g 122 (ys.flatMap pmCells) :: certsR ⟨j, g, cap, x.f, x.num, x.ahead, x.view, x.on, ys⟩ :: (ys.map pmR ++ ss)))) := h1.perm (by
      have p := (List.perm_middle (a := certsR ⟨j, g, cap, x.f, x.num, x.ahead, x.view, x.on, ys⟩) (l₁ := insHd x ++ (x.l.map pmR ++ [blk j (insO x.f x.num x.ahead x.view x.on (.slice (some ⟨g, 0, none⟩) 16 cap)), segR g 122 (ys.flatMap pmCells)])) (l₂ := ys.map pmR ++ ss)).symm
      simp only [List.append_assoc, List.cons_append, List.nil_append] at p
      exact p)
    have h3 : Own B w0 w (instR x :: (insHd ⟨j, g, cap, x.f, x.num, x.ahead, x.view, x.on, ys⟩ ++ (ys.map pmR ++ ss))) := own_shut h2
    have h4 : Own B w0 w (insHd ⟨j, g, cap, x.f, x.num, x.ahead, x.view, x.on, ys⟩ ++ (ys.map pmR ++ (instR x :: ss))) := h3.perm (by
      have p := (List.perm_middle (a := instR x) (l₁ := insHd ⟨j, g, cap, x.f, x.num, x.ahead, x.view, x.on, ys⟩ ++ ys.map pmR) (l₂ := ss)).symm
      simp only [List.append_assoc] at p
      exact p)
    exact own_shut (x := ⟨j, g, cap, x.f, x.num, x.ahead, x.view, x.on, ys⟩) h4

set_option maxHeartbeats 4000000 in
set_option maxRecDepth 100000 in
theorem ins_clone (h : Own B w0 W (instR x :: ss)) {i : Nat} (hi : x.i = i) :
    Calls Try.prog 55 #[.pointer (some ⟨i, 0, none⟩)] W fun e w' => ∃ j y, e = .returned (.pointer (some ⟨j, 0, none⟩)) ∧ Ins.i y = j ∧ Ins.st y = Ins.st x ∧ Own B w0 w' (instR y :: instR x :: ss) := by
  subst hi
  obtain ⟨i0, hi, hz0, hz1, hz2⟩ := info_parts Try.infoPl
  have ho := own_open h
  obtain ⟨c0, c1, c2, c3, c4, c5, l1, l2⟩ := oi_cells ho
  have h1 : OwnI B w0 (W.alloc x.o) x (blk W.heap.size x.o :: ss) := own_open (h.box x.o).swap
  have H1 := Lib.hid h1
  have H2 := Lib.hid (Own.row0 (E := 122) (sz := 14) h1)
  have HN := Lib.hid (oi_ok h1).n
  have HONE := Lib.hid (pm_one h1)
  have HCL : Hid (∀ j u, (x.l.flatMap pmCells)[j]? = some u → (W.alloc x.o).cell? ((⟨x.b, 0, none⟩ : Addr).add j) = some u) := Lib.hid (fun j u hj => by
    obtain ⟨-, q2, -⟩ := segR_at (h1.all (segR x.b 122 (x.l.flatMap pmCells)) (by simp [insHd])).1
    have hl := (List.getElem?_eq_some_iff.1 hj).1
    have : (⟨x.b, 0, none⟩ : Addr).add j = ⟨x.b, j, none⟩ := by unfold Addr.add; split <;> simp_all
    rw [this, q2 j hl]
    exact hj)
  have hbj := (own_shut h1).drop.blk_out
  obtain ⟨k0, k1, k2, k3, k4, k5, m1, m2⟩ := oi_cells h1
  clear ho h1 h
  go_enter Try.func55, Try.ntmps55
  go_upto_region 2 with fail
  have hbj : (W.alloc x.o).heap[W.heap.size]? = some x.o := hbj
  have HLL := Lib.hid (show (x.l.flatMap pmCells).length = 16 * 14 by rw [flat_length (cells := pmCells) (sz := 14) (fun _ => rfl), HN.out])
  have HBJ := Lib.hid hbj
  clear hbj c0 c1 c2 c3 c4 c5
  generalize hj : W.heap.size = j at *
  generalize hw1 : W.alloc x.o = w1 at *
  go_wp2_with (at_builtin; refine wpList_append_lies _ rfl (.const (.slice none 0 0)) (.tmp 11) 118 rfl 0 122 i0 (.agg #[.pointer none, .bool false, .bool false, .int .i64 0, .int .i64 0, .int .i64 0, .slice none 0 0, .slice none 0 0, .bool false, .int .i64 0, .int .i64 0, .int .i64 0, .slice none 0 0, .slice none 0 0]) 14 168 Try.underlying118 hi hz0 hz1 hz2 rfl (by decide) _ 0 [] rfl (World.ownsRow_nil _ _ _ _) ⟨x.b, 0, none⟩ 16 x.cap (x.l.flatMap pmCells) rfl HLL.out HCL.out HONE.out (by decide) ?c3 ?c4 (Nat.zero_le _) _ rfl ?c6)
  case c3 => unfold maxLen; omega
  case c4 => omega
  case c6 =>
    intro g cap2 w2 hown hgrow hat hlt2
    have hcap : 16 ≤ cap2 := by
      rcases hown.2 with ⟨e, _⟩ | ⟨g', cap', cur, e, _, _, hnc, _⟩
      · cases e
      · cases e
        simpa using hnc
    have h3 := H2.out.grow hgrow (by simpa using hat) hown
    have h4 := h3.alter (r' := segR g 122 (x.l.flatMap pmCells)) (by simpa using ownR_seg h3.head) (fun k hk => by simpa [ownR, segR, blkOf] using hk)
    have h5 : OwnI B w0 w2 x (blk j x.o :: segR g 122 (x.l.flatMap pmCells) :: ss) := by
      have h6 : Own B w0 w2 (instR x :: blk j x.o :: segR g 122 (x.l.flatMap pmCells) :: ss) := by
        have h7 : Own B w0 w2 (insHd x ++ (x.l.map pmR ++ (segR g 122 (x.l.flatMap pmCells) :: blk j x.o :: ss))) := h4.perm (by
          have p := (List.perm_middle (a := segR g 122 (x.l.flatMap pmCells)) (l₁ := insHd x ++ x.l.map pmR) (l₂ := blk j x.o :: ss)).symm
          simp only [List.append_assoc] at p
          exact p)
        exact (own_shut h7).perm (List.Perm.cons _ (List.Perm.swap _ _ _))
      exact own_open h6
    have hbj := (own_shut h5).drop.blk_out
    have f5 : w2.cell? ⟨j, 5, none⟩ = some (.slice (some ⟨x.b, 0, none⟩) 16 x.cap) := by rw [block_cell hbj]; rfl
    have z5 : w2.frozen? ⟨j, 5, none⟩ = false := block_frozen hbj 5
    have H5 := Lib.hid h5
    clear h3 h4 h5 hbj hown hgrow hat hlt2 H1 H2 HONE HCL HLL HBJ k0 k1 k2 k3 k4 k5 m1 m2 hi hz0 hz1 hz2 l1 l2
    go_wp2_with fail
    have h6 : OwnI B w0 (w2.setCell ⟨j, 5, none⟩ (.slice (some ⟨g, 0, none⟩) 16 cap2)) x (blk j (insO x.f x.num x.ahead x.view x.on (.slice (some ⟨g, 0, none⟩) 16 cap2)) :: segR g 122 ((mixL [] x.l).flatMap pmCells) :: (([] : List Pm).map pmR ++ ss)) :=
      own_open (((own_shut H5.out).swap.store 5 _).swap)
    have H6 := Lib.hid h6
    clear H5 h6 f5 z5
    generalize w2.setCell ⟨j, 5, none⟩ (.slice (some ⟨g, 0, none⟩) 16 cap2) = w3 at *
    have hbj := (own_shut H6.out).drop.blk_out
    have f5 : w3.cell? ⟨j, 5, none⟩ = some (.slice (some ⟨g, 0, none⟩) 16 cap2) := by rw [block_cell hbj]; rfl
    clear hbj
    go_wp2_with fail
    clear f5
    go_loopw [17] (fun n wr => ∃ (k : Nat) (ys : List Pm), k ≤ 16 ∧ n = .int .i64 k ∧ Hid (ys.length = k ∧ Cloned x ys) ∧ Hid (OwnI B w0 wr x (blk j (insO x.f x.num x.ahead x.view x.on (.slice (some ⟨g, 0, none⟩) 16 cap2)) :: segR g 122 ((mixL ys x.l).flatMap pmCells) :: (ys.map pmR ++ ss)))) (fun n _ => 16 - (intOf n).toNat)
    case atStart => exact ⟨0, [], by omega, rfl, Lib.hid ⟨rfl, ⟨by simp, by simp⟩⟩, H6⟩
    case round =>
      clear H6
      obtain ⟨k, ys, hk, rfl, HY, H6⟩ := hrel
      by_cases hlt : k < 16
      · have hkI : (k : Int) < 16 := by omega
        have hk0 : (0 : Int) ≤ (k : Int) := by omega
        have hkl : k < x.l.length := by rw [HN.out]; exact hlt
        have hd := oi_drew H6.out
        obtain ⟨-, -, -, -, -, d5, -, -⟩ := oi_cells hd
        have dp := oi_ptr hd k hkl
        have hbj := (own_shut hd).drop.blk_out
        have dj : wr.drew.cell? ⟨j, 5, none⟩ = some (.slice (some ⟨g, 0, none⟩) 16 cap2) := by rw [block_cell hbj]; rfl
        have HC := Lib.hid (clone_after hd hkl HY.out.1 HY.out.2 dj d5 dp)
        clear hd hbj
        go_wp2_with fail
        go_region_held3 (fun w' => w'.cell? ⟨j, 5, none⟩ = some (.slice (some ⟨g, 0, none⟩) 16 cap2) ∧ w'.cell? ⟨x.i, 5, none⟩ = some (.slice (some ⟨x.b, 0, none⟩) 16 x.cap) ∧ w'.cell? ⟨x.b, k * 14, none⟩ = some x.l[k].lc.ptr)
          (first | (with_reducible exact ⟨dj, d5, dp⟩) | (with_reducible exact ⟨ej, e5, ep⟩) | (with_reducible exact ⟨gj, g5, gp⟩))
          ((go_at_call 31; refine HC.out.mono ?_; rintro e w4 ⟨L, rfl, hf, ⟨ej, e5, ep⟩, ⟨zg, vg, yg⟩, h9, gj, g5, gp⟩; have H9 := Lib.hid h9; have HLf := Lib.hid hf; clear h9 hf))
        all_goals
          go_wp2_with fail
          go_roundw
          case rel => exact ⟨k + 1, _, by omega, by go_num, Lib.hid ⟨by simp [HY.out.1], (by have := HY.out.2.add (L := L) (by rw [HY.out.1]; exact hkl) HLf.out; simpa [HY.out.1] using this)⟩, H9⟩
          case measure => simp [intOf]; omega
      · have hk16 : k = 16 := by omega
        subst hk16
        have hkI : decide ((16 : Int) < 16) = false := by decide
        obtain ⟨y, y1, y2, y3⟩ := own_cloned HY.out.2 HY.out.1 hcap H6.out
        have HZ := Lib.hid y3
        clear y3
        go_wp2_with fail
        go_ret
        exact ⟨j, y, rfl, y1, y2, HZ.out⟩

end
end Go.Proofs.Ytdeadekeffficaa

/- psephoslaw15.do. -/
namespace Go.Proofs.Ytdeadekeffficaa
open Go.RowKit Go.Heap

/-- Behind an act. -/
def DoP (B : Nat) (w0 : World) (i : Nat) (st : In) (p : Nat) (sd : In) (a : A7) (v : Value) (n : Nat) (ss : List Res) (ok : Value) (w : World) : Prop :=
  ∃ t, ok = .bool t ∧ (st = sd → t = true) ∧ AtB B w0 w i (stepI st a) p (stepI sd a) (rowR 32 6 v n :: ss)

section
variable {B : Nat} {w0 W W' : World} {ss : List Res} {i p : Nat} {st sd : In} {r : Res} {a : A7}

theorem step_pre (h : a.act % 15 < 3) (st : In) : stepI st a = preI st a.seq (bt a.which) := by unfold stepI; rw [if_pos h]
theorem step_vote (h1 : ¬ a.act % 15 < 3) (h2 : a.act % 15 < 10) (st : In) : stepI st a = voteI st a.kind a.seq a.node a.sl (bt a.which) := by unfold stepI; rw [if_neg h1, if_pos h2]
theorem step_prep (h : a.act % 15 = 10) (st : In) : stepI st a = preparedI st a.seq := by unfold stepI; rw [if_neg (by omega), if_neg (by omega), if_pos h]
theorem step_comm (h : a.act % 15 = 11) (st : In) : stepI st a = commitsI st a.seq := by unfold stepI; rw [if_neg (by omega), if_neg (by omega), if_neg (by omega), if_pos h]
theorem step_adopt (h : a.act % 15 = 12) (st : In) : stepI st a = adoptI st ⟨a.view, a.kind, a.seq, bt a.which, [(1, a.sl)]⟩ := by unfold stepI; rw [if_neg (by omega), if_neg (by omega), if_neg (by omega), if_neg (by omega), if_pos h]
theorem step_leave (h : a.act % 15 = 13) (st : In) : stepI st a = leaveI st a.view := by unfold stepI; rw [if_neg (by omega), if_neg (by omega), if_neg (by omega), if_neg (by omega), if_neg (by omega), if_pos h]
theorem step_inst (h1 : ¬ a.act % 15 < 10) (h2 : a.act % 15 ≠ 10) (h3 : a.act % 15 ≠ 11) (h4 : a.act % 15 ≠ 12) (h5 : a.act % 15 ≠ 13) (st : In) : stepI st a = installI st (btsOf a (a.seq % 19).toNat) := by
  unfold stepI; rw [if_neg (by omega), if_neg h1, if_neg h2, if_neg h3, if_neg h4, if_neg h5]

theorem doP_of {v : Value} {l : List Rq} {b : Nat} {t : Bool} {st' sd' : In} (hs : stepI st a = st') (hd : stepI sd a = sd') (ht : st = sd → t = true) (h : AtB B w0 W i st' p sd' (cpR v l :: blk b (a7O a) :: ss)) : DoP B w0 i st p sd a v l.length ss (.bool t) W := by
  subst hs hd
  exact ⟨t, rfl, ht, ab_turn (ab_drop (ab_perm h (.swap _ _ _))) (fun rs q => q.alter (r' := rowR 32 6 v l.length) (cpR_row q.head) (fun k hk => hk))⟩

theorem ab_a7 {b : Nat} (h : AtB B w0 W i st p sd (r :: blk b (a7O a) :: ss)) : W.heap[b]? = some (a7O a) := h.ss_own.drop.blk_out
theorem ab_cpbat {v : Value} {l : List Rq} (h : AtB B w0 W i st p sd (cpR v l :: ss)) : Bat W v l := cpR_bat h.ss_own.head

abbrev voO (sl : Int) : Obj := .cells #[.int .i64 1, .int .i64 sl] 44 (0, 0)
theorem vts_one {w : World} {b : Nat} {sl : Int} (h : w.heap[b]? = some (voO sl)) : Vts w (.slice (some ⟨b, 0, none⟩) 1 1) [(1, sl)] :=
  own_reads (B := 0) (E := 44) (sz := 2) ⟨rfl, .inr ⟨b, 1, _, rfl, Nat.zero_le _, h, by simp, by unfold maxLen; omega, rfl, rfl⟩⟩

/-- A certificate's parts in new memory come beside. -/
theorem ab_parts {vb vv : Value} {rs : List Rq} {vs : Vs} (h : AtB B w0 W i st p sd ss) (hu : Upd [] W W') (hb : Bat W' vb rs) (hv : Vts W' vv vs) (n1 : ∀ k ∈ blkOf vb, W.heap.size ≤ k) (n2 : ∀ k ∈ blkOf vv, W.heap.size ≤ k) :
    AtB B w0 W' i st p sd (batR vb rs :: votR vv vs :: ss) := by
  obtain ⟨x, a, m, e1, e2, o⟩ := h
  have h2 : Own B w0 W' (votR vv vs :: batR vb rs :: instR x :: docB p a m :: docI a m sd :: ss) := own_red2 o hu hb hv n1 n2
  exact ⟨x, a, m, e1, e2, (h2.perm ((List.perm_append_comm (l₁ := [_, _]) (l₂ := [_, _, _])).append_right ss)).perm ((((List.Perm.swap _ _ _).cons _).cons _).cons _)⟩

def DoE (B : Nat) (w0 : World) (i : Nat) (st : In) (p : Nat) (sd : In) (a : A7) (ss : List Res) (e : Ending) (w' : World) : Prop := ∃ t, e = .returned (.bool t) ∧ (st = sd → t = true) ∧ AtB B w0 w' i (stepI st a) p (stepI sd a) ss

theorem bts_succ (a : A7) (k : Nat) : btsOf a (k + 1) = btsOf a k ++ [bt (IntKind.i64.wrap (a.which + (k : Int)))] := by simp [btsOf, List.range_succ]
theorem one_slice {ao : Option Addr} {n c : Nat} : ∀ u ∈ [Value.slice ao n c], u.oneCell' = true := by simp [Value.oneCell']
theorem ls_cell {ao : Option Addr} {k c r : Nat} {us : List (Value × List Rq)} (h : AtB B w0 W i st p sd (lsR (.slice ao k c) k (us.map (·.1)) :: ss)) (hr : r < k) (hru : r < us.length) : ∃ b o, ao = some ⟨b, o, none⟩ ∧ b < W.heap.size ∧ W.cell? ⟨b, o + r, none⟩ = some us[r].1 := by
  obtain ⟨ao', cap', e, -, -, -, -, h5⟩ := own_reads (ownR_owns h.ss_own.head)
  cases e
  obtain ⟨b, o, rfl, hb, hc⟩ := h5 (by omega)
  exact ⟨b, o, rfl, hb, by rw [hc r (by omega)]; simp [hru]⟩

set_option maxHeartbeats 8000000 in
set_option maxRecDepth 100000 in
theorem do15_any (a : A7) (h : AtB B w0 W i st p sd ss) :
    Calls Try.prog 49 #[.pointer (some ⟨i, 0, none⟩), .pointer (some ⟨p, 0, none⟩), a7Agg a] W (DoE B w0 i st p sd a ss) := by
  have H1 := Lib.hid (ab_box h (a7O a))
  have hbl := bt_len a.which
  clear h
  go_enter Try.func49, Try.ntmps49
  go_wp2_with fail
  refine (batch15_any a.which _).mono ?_
  rintro e w1 ⟨v1, rfl, hu1, ho1⟩
  have H2 := Lib.hid (ab_cp H1.out hu1 ho1)
  obtain ⟨ao, cap, rfl⟩ := bat_form (own_reads ho1)
  clear hu1 ho1 H1
  obtain ⟨b0, b1, b2, b3, b4, b5, b6⟩ := a7_box (ab_a7 H2.out)
  go_wp2_with fail
  refine (Within_any a.act 15 _ (by omega) (by omega)).mono ?_
  rintro e w' ⟨rfl, rfl⟩
  obtain ⟨k1, k2⟩ := emod_in a.act 15 (by omega)
  have SP := Lib.hid (@step_pre a)
  have SV := Lib.hid (@step_vote a)
  have SR := Lib.hid (@step_prep a)
  have SC := Lib.hid (@step_comm a)
  have SA := Lib.hid (@step_adopt a)
  have SL := Lib.hid (@step_leave a)
  have SI := Lib.hid (@step_inst a)
  generalize W.heap.size = bx at *
  generalize a.act % 15 = k at *
  go_upto_block 0 with fail
  go_cut [8] (fun ok wx => Hid (DoP B w0 i st p sd a (.slice ao (bt a.which).length cap) (bt a.which).length ss ok wx))
  case first =>
    have T2 := Lib.hid (ab_cpbat H2.out)
    by_cases hk3 : k < 3
    · have hkb : decide (k < 3) = true := by simp [hk3]
      have S1 := Lib.hid (SP.out hk3)
      have HX := Lib.hid (ab_pre H2.out.drew a.seq (.slice ao (bt a.which).length cap) (bt a.which) T2.out (by omega))
      clear hk3 k1 k2 SP SV SR SC SA SL SI b0 b2 b3 b4 b6
      go_upto_region 21 with fail
      have d1 : w1.drew.cell? ⟨bx, 1, none⟩ = some (.int .i64 a.seq) := b1
      have d5 : w1.drew.cell? ⟨bx, 5, none⟩ = some (.int .i64 a.which) := b5
      go_region_held3 (fun w' => w'.cell? ⟨bx, 1, none⟩ = some (.int .i64 a.seq) ∧ w'.cell? ⟨bx, 5, none⟩ = some (.int .i64 a.which))
        (first | (with_reducible exact ⟨d1, d5⟩) | (with_reducible exact ⟨e1, e5⟩) | (with_reducible exact ⟨f1, f5⟩) | (with_reducible exact ⟨g1, g5⟩))
        (first
          | (go_at_call 40; refine HX.out.mono ?_; rintro e w4 ⟨rfl, h4⟩; have H4 := Lib.hid h4; clear h4; obtain ⟨-, e1, -, -, -, e5, -⟩ := a7_box (ab_a7 H4.out))
          | (go_at_call 69; refine (batch15_any a.which _).mono ?_; rintro e w5 ⟨v5, rfl, hu5, ho5⟩; have H5 := Lib.hid (ab_bat H4.out hu5 ho5); obtain ⟨ao5, cap5, rfl⟩ := bat_form (own_reads ho5); clear hu5 ho5; obtain ⟨-, f1, -, -, -, f5, -⟩ := a7_box (ab_a7 (ab_drop H5.out)))
          | (go_at_call 70; refine (ab_dpre H5.out a.seq (by omega)).mono ?_; rintro e w6 ⟨rfl, h6⟩; have H6 := Lib.hid h6; clear h6; obtain ⟨-, g1, -, -, -, g5, -⟩ := a7_box (ab_a7 H6.out)))
      all_goals
        go_wp2_with fail
        go_meet
        exact Lib.hid (doP_of (S1.out st) (S1.out sd) (fun e => by rw [e]; simp) H6.out)
    · have hkb : decide (k < 3) = false := by simp; omega
      by_cases hk10 : k < 10
      · have hkc : decide (k < 10) = true := by simp [hk10]
        have S1 := Lib.hid (SV.out (by omega) hk10)
        have HX := Lib.hid (ab_vote H2.out.drew a.kind a.seq a.node a.sl (.slice ao (bt a.which).length cap) (bt a.which) T2.out (by omega))
        clear hk3 hk10 k1 k2 SP SV SR SC SA SL SI b0 b6
        go_upto_region 23 with fail
        have d1 : w1.drew.cell? ⟨bx, 1, none⟩ = some (.int .i64 a.seq) := b1
        have d2 : w1.drew.cell? ⟨bx, 2, none⟩ = some (.int .i64 a.kind) := b2
        have d3 : w1.drew.cell? ⟨bx, 3, none⟩ = some (.int .i64 a.node) := b3
        have d4 : w1.drew.cell? ⟨bx, 4, none⟩ = some (.int .i64 a.sl) := b4
        have d5 : w1.drew.cell? ⟨bx, 5, none⟩ = some (.int .i64 a.which) := b5
        go_region_held3 (fun w' => w'.cell? ⟨bx, 1, none⟩ = some (.int .i64 a.seq) ∧ w'.cell? ⟨bx, 2, none⟩ = some (.int .i64 a.kind) ∧ w'.cell? ⟨bx, 3, none⟩ = some (.int .i64 a.node) ∧ w'.cell? ⟨bx, 4, none⟩ = some (.int .i64 a.sl) ∧ w'.cell? ⟨bx, 5, none⟩ = some (.int .i64 a.which))
          (first | (with_reducible exact ⟨d1, d2, d3, d4, d5⟩) | (with_reducible exact ⟨e1, e2, e3, e4, e5⟩) | (with_reducible exact ⟨f1, f2, f3, f4, f5⟩) | (with_reducible exact ⟨g1, g2, g3, g4, g5⟩))
          (first
            | (go_at_call 35; refine HX.out.mono ?_; rintro e w4 ⟨rfl, h4⟩; have H4 := Lib.hid h4; clear h4; obtain ⟨-, e1, e2, e3, e4, e5, -⟩ := a7_box (ab_a7 H4.out))
            | (go_at_call 69; refine (batch15_any a.which _).mono ?_; rintro e w5 ⟨v5, rfl, hu5, ho5⟩; have H5 := Lib.hid (ab_bat H4.out hu5 ho5); obtain ⟨ao5, cap5, rfl⟩ := bat_form (own_reads ho5); clear hu5 ho5; obtain ⟨-, f1, f2, f3, f4, f5, -⟩ := a7_box (ab_a7 (ab_drop H5.out)))
            | (go_at_call 71; refine (ab_dvote H5.out a.kind a.seq a.node a.sl (by omega)).mono ?_; rintro e w6 ⟨rfl, h6⟩; have H6 := Lib.hid h6; clear h6; obtain ⟨-, g1, g2, g3, g4, g5, -⟩ := a7_box (ab_a7 H6.out)))
        all_goals
          go_wp2_with fail
          go_meet
          exact Lib.hid (doP_of (S1.out st) (S1.out sd) (fun e => by rw [e]; simp) H6.out)
      · have hkc : decide (k < 10) = false := by simp; omega
        by_cases e10 : k = 10
        · have q10 : (k == 10) = true := by simp [e10]
          have S1 := Lib.hid (SR.out e10)
          clear hk3 hk10 k1 k2 SP SV SR SC SA SL SI b0 b2 b3 b4 b5 b6 e10
          have HX := Lib.hid (ab_prepared H2.out a.seq)
          go_wp2_with fail
          refine HX.out.mono ?_
          rintro e w4 ⟨⟨view, inst, seq, vb, vv, rs, vs⟩, rfl, hcp, hsz, h4⟩
          simp only at hsz h4
          obtain ⟨vo, vcp, rfl⟩ := vts_form (redR_out h4.ss_own.head)
          obtain ⟨bo, bcp, rfl⟩ := bat_form (batR_out h4.ss_own.drop.head)
          have H4 := Lib.hid (ab_box h4 (ctO view inst seq (.slice bo rs.length bcp) (.slice vo vs.length vcp)))
          have HCP := Lib.hid hcp
          have HSZ := Lib.hid hsz
          clear h4 hcp hsz b1 HX T2 H2
          have hbb := a7_box (ab_a7 (ab_drop (ab_drop (ab_drop H4.out))))
          obtain ⟨-, b1, -⟩ := hbb
          go_wp2_with fail
          refine (ab_dprepared H4.out a.seq).mono ?_
          rintro e w5 ⟨⟨view', inst', seq', ub, uv, rs', vs'⟩, rfl, hcp', hsz', hb5, hv5, h5⟩
          simp only at hsz' hb5 hv5
          obtain ⟨uo, ucp, rfl⟩ := vts_form hv5
          obtain ⟨eo, ecp, rfl⟩ := bat_form hb5
          have hxo := h5.ss_own.blk_out
          obtain ⟨f0, f1, f2, f3, f4, fl, -⟩ := ct_cells (ab_box h5 (ctO view' inst' seq' (.slice eo rs'.length ecp) (.slice uo vs'.length ucp))).ss_own.drop.blk_out
          obtain ⟨g0, g1, g2, g3, g4, gl, -⟩ := ct_cells (ab_box h5 (ctO view' inst' seq' (.slice eo rs'.length ecp) (.slice uo vs'.length ucp))).ss_own.blk_out
          have H5 := Lib.hid (ab_box h5 (ctO view' inst' seq' (.slice eo rs'.length ecp) (.slice uo vs'.length ucp)))
          have HC := Lib.hid (keepCert_dec ⟨view, inst, seq, .slice bo rs.length bcp, .slice vo vs.length vcp, rs, vs⟩ ⟨view', inst', seq', .slice eo rs'.length ecp, .slice uo vs'.length ucp, rs', vs'⟩ _ HSZ.out.1 HSZ.out.2 hsz'.1 hsz'.2 (batR_out H5.out.ss_own.drop.drop.drop.head) (redR_out H5.out.ss_own.drop.drop.head) (hb5.upd (M := []) ((Upd.refl _ _).alloc _) (by simp)) (Reads.upd (M := []) hv5 ((Upd.refl _ _).alloc _) (by simp)))
          have HCQ := Lib.hid hcp'
          generalize hw5 : w5.alloc (ctO view' inst' seq' (.slice eo rs'.length ecp) (.slice uo vs'.length ucp)) = w6 at *
          clear hxo h5 hb5 hv5 hcp' hsz' b1 H4
          have HEQ := Lib.hid (fun e : st = sd => show ((prepI st a.seq).isSome == (prepI sd a.seq).isSome) = true by rw [e]; simp)
          generalize (prepI st a.seq).isSome = is1 at *
          generalize (prepI sd a.seq).isSome = is2 at *
          cases hq : (is1 == is2) with
          | false =>
            rw [hq] at HEQ
            subst hw5
            go_wp2_with fail
            go_meet
            exact Lib.hid (doP_of (S1.out st) (S1.out sd) (fun e => HEQ.out e) (ab_drop (ab_drop (ab_drop (ab_drop H5.out)))))
          | true =>
            subst hw5
            go_wp2_with fail
            refine HC.out.mono ?_
            rintro e w7 ⟨rfl, hu7⟩
            have H7 := Lib.hid (H5.out.upd0 hu7)
            clear hu7 f0 f1 f2 f3 f4 fl g0 g1 g2 g3 g4 gl HC
            go_wp2_with fail
            go_meet
            exact Lib.hid (doP_of (S1.out st) (S1.out sd) (fun e => decide_eq_true (by rw [HCP.out, HCQ.out, e])) (ab_drop (ab_drop (ab_drop (ab_drop H7.out)))))
        · have q10 : (k == 10) = false := by simp [e10]
          by_cases e11 : k = 11
          · have q11 : (k == 11) = true := by simp [e11]
            have S1 := Lib.hid (SC.out e11)
            clear hk3 hk10 k1 k2 SP SV SR SC SA SL SI b0 b2 b3 b4 b5 b6 e10 e11
            have HX := Lib.hid (ab_commits H2.out a.seq)
            go_wp2_with fail
            refine HX.out.mono ?_
            rintro e w4 ⟨⟨view, inst, seq, vb, vv, rs, vs⟩, rfl, hcp, hsz, h4⟩
            simp only at hsz h4
            obtain ⟨vo, vcp, rfl⟩ := vts_form (redR_out h4.ss_own.head)
            obtain ⟨bo, bcp, rfl⟩ := bat_form (batR_out h4.ss_own.drop.head)
            have H4 := Lib.hid (ab_box h4 (ctO view inst seq (.slice bo rs.length bcp) (.slice vo vs.length vcp)))
            have HCP := Lib.hid hcp
            have HSZ := Lib.hid hsz
            clear h4 hcp hsz b1 HX T2 H2
            have hbb := a7_box (ab_a7 (ab_drop (ab_drop (ab_drop H4.out))))
            obtain ⟨-, b1, -⟩ := hbb
            go_wp2_with fail
            refine (ab_dcommits H4.out a.seq).mono ?_
            rintro e w5 ⟨⟨view', inst', seq', ub, uv, rs', vs'⟩, rfl, hcp', hsz', hb5, hv5, h5⟩
            simp only at hsz' hb5 hv5
            obtain ⟨uo, ucp, rfl⟩ := vts_form hv5
            obtain ⟨eo, ecp, rfl⟩ := bat_form hb5
            have hxo := h5.ss_own.blk_out
            obtain ⟨f0, f1, f2, f3, f4, fl, -⟩ := ct_cells (ab_box h5 (ctO view' inst' seq' (.slice eo rs'.length ecp) (.slice uo vs'.length ucp))).ss_own.drop.blk_out
            obtain ⟨g0, g1, g2, g3, g4, gl, -⟩ := ct_cells (ab_box h5 (ctO view' inst' seq' (.slice eo rs'.length ecp) (.slice uo vs'.length ucp))).ss_own.blk_out
            have H5 := Lib.hid (ab_box h5 (ctO view' inst' seq' (.slice eo rs'.length ecp) (.slice uo vs'.length ucp)))
            have HC := Lib.hid (keepCert_dec ⟨view, inst, seq, .slice bo rs.length bcp, .slice vo vs.length vcp, rs, vs⟩ ⟨view', inst', seq', .slice eo rs'.length ecp, .slice uo vs'.length ucp, rs', vs'⟩ _ HSZ.out.1 HSZ.out.2 hsz'.1 hsz'.2 (batR_out H5.out.ss_own.drop.drop.drop.head) (redR_out H5.out.ss_own.drop.drop.head) (hb5.upd (M := []) ((Upd.refl _ _).alloc _) (by simp)) (Reads.upd (M := []) hv5 ((Upd.refl _ _).alloc _) (by simp)))
            have HCQ := Lib.hid hcp'
            generalize hw5 : w5.alloc (ctO view' inst' seq' (.slice eo rs'.length ecp) (.slice uo vs'.length ucp)) = w6 at *
            clear hxo h5 hb5 hv5 hcp' hsz' b1 H4
            have HEQ := Lib.hid (fun e : st = sd => show ((commI st a.seq).isSome == (commI sd a.seq).isSome) = true by rw [e]; simp)
            generalize (commI st a.seq).isSome = is1 at *
            generalize (commI sd a.seq).isSome = is2 at *
            cases hq : (is1 == is2) with
            | false =>
              rw [hq] at HEQ
              subst hw5
              go_wp2_with fail
              go_meet
              exact Lib.hid (doP_of (S1.out st) (S1.out sd) (fun e => HEQ.out e) (ab_drop (ab_drop (ab_drop (ab_drop H5.out)))))
            | true =>
              subst hw5
              go_wp2_with fail
              refine HC.out.mono ?_
              rintro e w7 ⟨rfl, hu7⟩
              have H7 := Lib.hid (H5.out.upd0 hu7)
              clear hu7 f0 f1 f2 f3 f4 fl g0 g1 g2 g3 g4 gl HC
              go_wp2_with fail
              go_meet
              exact Lib.hid (doP_of (S1.out st) (S1.out sd) (fun e => decide_eq_true (by rw [HCP.out, HCQ.out, e])) (ab_drop (ab_drop (ab_drop (ab_drop H7.out)))))
          · have q11 : (k == 11) = false := by simp [e11]
            by_cases e12 : k = 12
            · have q12 : (k == 12) = true := by simp [e12]
              have S1 := Lib.hid (SA.out e12)
              clear hk3 hk10 k1 k2 SP SV SR SC SA SL SI b0 b3 b5 e10 e11 e12
              have h3 := ab_box (ab_box (ab_box H2.out (voO a.sl)) (ctO a.view a.kind a.seq (.slice ao (bt a.which).length cap) (.slice (some ⟨w1.heap.size, 0, none⟩) 1 1))) (ctO a.view a.kind a.seq (.slice ao (bt a.which).length cap) (.slice (some ⟨w1.heap.size, 0, none⟩) 1 1))
              simp only [hs_alloc] at h3
              have H3 := Lib.hid h3
              clear h3
              have HCC := Lib.hid (copyCerts_one ⟨a.view, a.kind, a.seq, .slice ao (bt a.which).length cap, .slice (some ⟨w1.heap.size, 0, none⟩) 1 1, bt a.which, [(1, a.sl)]⟩ (w1.heap.size + 1 + 1) _ H3.out.ss_own.blk_out (by simp only; omega) (by simp) (T2.out.upd (M := []) ((((Upd.refl _ _).alloc _).alloc _).alloc _) (by simp)) (vts_one H3.out.ss_own.drop.drop.blk_out))
              go_wp2_with fail
              refine HCC.out.mono ?_
              rintro e w4 ⟨out, rfl, g', cap', ⟨view', inst', seq', ub, uv, rs', vs'⟩, rfl, hu4, hcp, hlg, hcell, hb4, hv4, n1, n2⟩
              simp only at hb4 hv4 n1 n2
              obtain ⟨uo, ucp, rfl⟩ := vts_form hv4
              obtain ⟨eo, ecp, rfl⟩ := bat_form hb4
              have hsz : rs' = bt a.which ∧ vs' = [(1, a.sl)] := by
                simp only [Ct.cp, Cp.mk.injEq] at hcp
                exact ⟨hcp.2.2.2.1, hcp.2.2.2.2⟩
              have hs1 : rs'.length ≤ 100000 := by rw [hsz.1]; omega
              have hs2 : vs'.length ≤ 100000 := by rw [hsz.2]; simp
              have y0 : w4.cell? ⟨g', 0, none⟩ = some (.int .i64 view') := hcell 0 (by omega)
              have y1 : w4.cell? ⟨g', 1, none⟩ = some (.int .i64 inst') := hcell 1 (by omega)
              have y2 : w4.cell? ⟨g', 2, none⟩ = some (.int .i64 seq') := hcell 2 (by omega)
              have y3 : w4.cell? ⟨g', 3, none⟩ = some (.slice eo rs'.length ecp) := hcell 3 (by omega)
              have y4 : w4.cell? ⟨g', 4, none⟩ = some (.slice uo vs'.length ucp) := hcell 4 (by omega)
              have H4 := Lib.hid (ab_perm (ab_box (ab_parts H3.out hu4 hb4 hv4 n1 n2) (ctO view' inst' seq' (.slice eo rs'.length ecp) (.slice uo vs'.length ucp))) (((List.Perm.swap _ _ _).trans ((List.Perm.swap _ _ _).cons _))))
              have HCP := Lib.hid hcp
              have TB := Lib.hid ((T2.out.upd (M := []) ((((Upd.refl _ _).alloc _).alloc _).alloc _) (by simp)).upd (M := []) hu4 (by simp))
              clear hu4 hcp hcell hb4 hv4 n1 n2 b1 b2 b4 b6 H3 HCC hsz H2 T2
              have hx9 := H4.out.ss_own.drop.drop
              obtain ⟨f0, f1, f2, f3, f4, fl, -⟩ := ct_cells hx9.blk_out
              obtain ⟨g0, g1, g2, g3, g4, gl, -⟩ := ct_cells hx9.drop.drop.blk_out
              clear hx9
              go_upto_region 35 with fail
              generalize hw5 : w4.alloc (ctO view' inst' seq' (.slice eo rs'.length ecp) (.slice uo vs'.length ucp)) = w5 at *
              have HX := Lib.hid (ab_adopt H4.out.drew ⟨a.view, a.kind, a.seq, .slice ao (bt a.which).length cap, .slice (some ⟨w1.heap.size, 0, none⟩) 1 1, bt a.which, [(1, a.sl)]⟩ (by subst hw5; exact TB.out.upd (M := []) (((Upd.refl _ _).alloc _).drew) (by simp)) (by simp only; omega) (vts_one H4.out.drew.ss_own.drop.drop.drop.drop.drop.blk_out) (by simp))
              generalize hbv : w1.heap.size = bv at *
              generalize hbd : w4.heap.size = bd at *
              have d0 : w5.drew.cell? ⟨bd, 0, none⟩ = some (.int .i64 view') := f0
              have d1 : w5.drew.cell? ⟨bd, 1, none⟩ = some (.int .i64 inst') := f1
              have d2 : w5.drew.cell? ⟨bd, 2, none⟩ = some (.int .i64 seq') := f2
              have d3 : w5.drew.cell? ⟨bd, 3, none⟩ = some (.slice eo rs'.length ecp) := f3
              have d4 : w5.drew.cell? ⟨bd, 4, none⟩ = some (.slice uo vs'.length ucp) := f4
              have c0 : w5.drew.cell? ⟨bv + 1, 0, none⟩ = some (.int .i64 a.view) := g0
              have c1 : w5.drew.cell? ⟨bv + 1, 1, none⟩ = some (.int .i64 a.kind) := g1
              have c2 : w5.drew.cell? ⟨bv + 1, 2, none⟩ = some (.int .i64 a.seq) := g2
              have c3 : w5.drew.cell? ⟨bv + 1, 3, none⟩ = some (.slice ao (bt a.which).length cap) := g3
              have c4 : w5.drew.cell? ⟨bv + 1, 4, none⟩ = some (.slice (some ⟨bv, 0, none⟩) 1 1) := g4
              clear f0 f1 f2 f3 f4 fl g0 g1 g2 g3 g4 gl y0 y1 y2 y3 y4 hlg
              go_region_held3 (fun w' => (w'.cell? ⟨bd, 0, none⟩ = some (.int .i64 view') ∧ w'.cell? ⟨bd, 1, none⟩ = some (.int .i64 inst') ∧ w'.cell? ⟨bd, 2, none⟩ = some (.int .i64 seq') ∧ w'.cell? ⟨bd, 3, none⟩ = some (.slice eo rs'.length ecp) ∧ w'.cell? ⟨bd, 4, none⟩ = some (.slice uo vs'.length ucp)) ∧
                  w'.cell? ⟨bv + 1, 0, none⟩ = some (.int .i64 a.view) ∧ w'.cell? ⟨bv + 1, 1, none⟩ = some (.int .i64 a.kind) ∧ w'.cell? ⟨bv + 1, 2, none⟩ = some (.int .i64 a.seq) ∧ w'.cell? ⟨bv + 1, 3, none⟩ = some (.slice ao (bt a.which).length cap) ∧ w'.cell? ⟨bv + 1, 4, none⟩ = some (.slice (some ⟨bv, 0, none⟩) 1 1))
                (first | (with_reducible exact ⟨⟨d0, d1, d2, d3, d4⟩, c0, c1, c2, c3, c4⟩) | (with_reducible exact ⟨⟨e0, e1, e2, e3, e4⟩, q0, q1, q2, q3, q4⟩) | (with_reducible exact ⟨⟨m0, m1, m2, m3, m4⟩, n0, n1, n2, n3, n4⟩))
                (first
                  | (go_at_call 39; refine HX.out.mono ?_; rintro e w6 ⟨rfl, h6⟩; have H6 := Lib.hid h6; have hx6 := h6.ss_own.drop.drop; clear h6; obtain ⟨e0, e1, e2, e3, e4, -, -⟩ := ct_cells hx6.blk_out; obtain ⟨q0, q1, q2, q3, q4, -, -⟩ := ct_cells hx6.drop.drop.blk_out; clear hx6)
                  | (go_at_call 75; refine (ab_dadopt ⟨view', inst', seq', .slice eo rs'.length ecp, .slice uo vs'.length ucp, rs', vs'⟩ H6.out hs1 hs2).mono ?_; rintro e w7 ⟨rfl, h7⟩; have H7 := Lib.hid h7; have hx7 := h7.ss_own; clear h7; obtain ⟨m0, m1, m2, m3, m4, -, -⟩ := ct_cells hx7.blk_out; obtain ⟨n0, n1, n2, n3, n4, -, -⟩ := ct_cells hx7.drop.drop.blk_out; clear hx7))
              all_goals
                have H8 := Lib.hid (ab_drop (ab_drop (ab_drop H7.out)))
                have hbv8 := H8.out.ss_own.blk_out
                have s0 : w7.cell? ⟨bv, 0, none⟩ = some (.int .i64 1) := by rw [block_cell hbv8]; rfl
                have s1 : w7.cell? ⟨bv, 1, none⟩ = some (.int .i64 a.sl) := by rw [block_cell hbv8]; rfl
                have z1 : w7.frozen? ⟨bv, 1, none⟩ = false := block_frozen hbv8 1
                clear hbv8
                go_wp2_with fail
                go_meet
                exact Lib.hid (doP_of (S1.out st) (by rw [S1.out sd, HCP.out]; rfl) (fun e => by rw [e, HCP.out]; simp [Ct.cp]) (ab_drop (ab_turn H8.out fun rs q => q.store 1 _)))

            · have q12 : (k == 12) = false := by simp [e12]
              by_cases e13 : k = 13
              · have q13 : (k == 13) = true := by simp [e13]
                have S1 := Lib.hid (SL.out e13)
                have HX := Lib.hid (ab_leave H2.out.drew a.view)
                clear hk3 hk10 k1 k2 SP SV SR SC SA SL SI b0 b1 b2 b3 b4 b5 e10 e11 e12 e13
                go_upto_region 38 with fail
                have d6 : w1.drew.cell? ⟨bx, 6, none⟩ = some (.int .i64 a.view) := b6
                go_region_held3 (fun w' => w'.cell? ⟨bx, 6, none⟩ = some (.int .i64 a.view))
                  (first | (with_reducible exact d6) | (with_reducible exact e6) | (with_reducible exact g6))
                  (first
                    | (go_at_call 41; refine HX.out.mono ?_; rintro e w4 ⟨rfl, h4⟩; have H4 := Lib.hid h4; clear h4; obtain ⟨-, -, -, -, -, -, e6⟩ := a7_box (ab_a7 H4.out))
                    | (go_at_call 76; refine (ab_dleave H4.out a.view).mono ?_; rintro e w6 ⟨rfl, h6⟩; have H6 := Lib.hid h6; clear h6; obtain ⟨-, -, -, -, -, -, g6⟩ := a7_box (ab_a7 H6.out)))
                all_goals
                  go_wp2_with fail
                  go_meet
                  exact Lib.hid (doP_of (S1.out st) (S1.out sd) (fun e => by rw [e]; simp) H6.out)
              · have q13 : (k == 13) = false := by simp [e13]
                have S1 := Lib.hid (SI.out (by omega) e10 e11 e12 e13)
                clear hk3 hk10 k1 k2 SP SV SR SC SA SL SI b0 b2 b3 b4 b6 e10 e11 e12 e13
                go_wp2_with fail
                refine (Within_any a.seq 19 _ (by omega) (by omega)).mono ?_
                rintro e w' ⟨rfl, rfl⟩
                obtain ⟨q1, q2⟩ := emod_in a.seq 19 (by omega)
                generalize a.seq % 19 = q at *
                obtain ⟨n, rfl⟩ : ∃ n : Nat, q = n := ⟨q.toNat, by omega⟩
                rw [Int.toNat_natCast] at S1
                obtain ⟨i0, hi, hz0, hz1, hz2⟩ := info_parts Try.infoBatch
                have H3 : Hid (AtB B w0 w1 i st p sd (lsR (.slice none 0 0) 0 [] :: usR [] :: lsR (.slice none 0 0) 0 [] :: bR [] [] :: cpR (.slice ao (bt a.which).length cap) (bt a.which) :: blk bx (a7O a) :: ss)) :=
                  Lib.hid (ab_new (ab_new (ab_new (ab_new H2.out (fun _ h => own_bR0 h)) (fun _ h => h.row0)) (fun _ h => own_us0 h)) (fun _ h => h.row0))
                clear H2 T2 b1 b5
                go_wp2_with fail
                go_loopw [21, 22, 23] (fun vl vm j wr => ∃ (k : Nat) (a1 : Option Addr) (c1 : Nat) (a2 : Option Addr) (c2 : Nat) (us : List (Value × List Rq)) (vals : List Value), k ≤ n ∧ j = .int .i64 k ∧ vl = .slice a1 k c1 ∧ vm = .slice a2 k c2 ∧ Hid (us.length = k ∧ us.map (·.2) = btsOf a k) ∧
                  Hid (AtB B w0 wr i st p sd (lsR (.slice a1 k c1) k (us.map (·.1)) :: usR us :: lsR (.slice a2 k c2) k vals :: bR vals (btsOf a k) :: cpR (.slice ao (bt a.which).length cap) (bt a.which) :: blk bx (a7O a) :: ss))) (fun _ _ j _ => n - (intOf j).toNat)
                case atStart => exact ⟨0, none, 0, none, 0, [], [], by omega, rfl, rfl, rfl, Lib.hid ⟨rfl, rfl⟩, H3⟩
                case round =>
                  clear H3
                  obtain ⟨k, a1, c1, a2, c2, us, vals, hk, rfl, rfl, rfl, HU, H3⟩ := hrel
                  by_cases hlt : k < n
                  · have hkI : (k : Int) < (n : Int) := by omega
                    have HO3 := Lib.hid (H3.out.drew.ss_own)
                    have hxb := (blk_out (H3.out.drew.ss_own.all (blk bx (a7O a)) (by simp)).1)
                    obtain ⟨-, -, -, -, -, d5, -⟩ := a7_box hxb
                    clear hxb
                    go_upto_region 9 with fail
                    go_region_held3 (fun w' => w'.cell? ⟨bx, 5, none⟩ = some (.int .i64 a.which))
                      (first | (with_reducible exact d5) | (with_reducible exact e5) | (with_reducible exact f5) | (with_reducible exact g5) | (with_reducible exact m5) | (with_reducible exact n5) | (with_reducible exact x5))
                      (first
                        | (go_at_call 69; have _q := H5; refine (batch15_any (IntKind.i64.wrap (a.which + (k : Int))) _).mono ?_; rintro e w5 ⟨v5, rfl, hu5, ho5⟩; have h6 := ab_perm (ab_bat H5.out hu5 ho5) (List.perm_middle (l₁ := [_, _, _, _])); obtain ⟨a5, c5, rfl⟩ := bat_form (own_reads ho5); have H6 := Lib.hid (h6.alloc (.cells #[.slice a5 (bt (IntKind.i64.wrap (a.which + (k : Int)))).length c5] 33)); have hxb := (blk_out (h6.ss_own.all (blk bx (a7O a)) (by simp)).1); obtain ⟨-, -, -, -, -, m5, -⟩ := a7_box hxb; clear hxb; have hxb := (blk_out (H6.out.ss_own.all (blk bx (a7O a)) (by simp)).1); obtain ⟨-, -, -, -, -, n5, -⟩ := a7_box hxb; clear hxb h6 hu5 ho5; have HO6 := Lib.hid (ownR_owns H6.out.ss_own.head))
                        | (go_at_call 69; refine (batch15_any (IntKind.i64.wrap (a.which + (k : Int))) _).mono ?_; rintro e w3 ⟨v3, rfl, hu3, ho3⟩; have h4 := ab_perm (ab_cp H3.out.drew hu3 ho3) (List.Perm.swap _ _ _); obtain ⟨a3, c3, rfl⟩ := bat_form (own_reads ho3); have H4 := Lib.hid (h4.alloc (.cells #[.slice a3 (bt (IntKind.i64.wrap (a.which + (k : Int)))).length c3] 33)); have hxb := (blk_out (h4.ss_own.all (blk bx (a7O a)) (by simp)).1); obtain ⟨-, -, -, -, -, e5, -⟩ := a7_box hxb; clear hxb; have hxb := (blk_out (H4.out.ss_own.all (blk bx (a7O a)) (by simp)).1); obtain ⟨-, -, -, -, -, f5, -⟩ := a7_box hxb; clear hxb h4 hu3 ho3; have HO4 := Lib.hid (ownR_owns H4.out.ss_own.head))
                        | (refine step_append_lies _ rfl (.tmp 49) (.tmp 55) 97 rfl 0 33 i0 (.slice none 0 0) 1 24 Try.underlying97 hi hz0 hz1 hz2 rfl (by decide) (.slice a2 k c2) k _ rfl HO6.out ⟨w5.heap.size, 0, none⟩ 1 1 [.slice a5 (bt (IntKind.i64.wrap (a.which + (k : Int)))).length c5] rfl rfl (World.news_of_block (heap_alloc_new w5 _)) one_slice (by decide) (by unfold maxLen; omega) (by omega) (Nat.zero_le _) _ rfl ?_; intro g6 cap6 w6 hown hgrow hat hlt6; have H7 := Lib.hid (ab_turn H6.out fun rs q => q.grow hgrow (by first | exact hat | (rw [hs_alloc]; exact hat)) hown); have hxb := (blk_out (H7.out.ss_own.all (blk bx (a7O a)) (by simp)).1); obtain ⟨-, -, -, -, -, x5, -⟩ := a7_box hxb; clear hxb hown hgrow hat hlt6)
                        | (refine step_append_lies _ rfl (.tmp 41) (.tmp 47) 97 rfl 0 33 i0 (.slice none 0 0) 1 24 Try.underlying97 hi hz0 hz1 hz2 rfl (by decide) (.slice a1 k c1) k _ rfl HO4.out ⟨w3.heap.size, 0, none⟩ 1 1 [.slice a3 (bt (IntKind.i64.wrap (a.which + (k : Int)))).length c3] rfl rfl (World.news_of_block (heap_alloc_new w3 _)) one_slice (by decide) (by unfold maxLen; omega) (by omega) (Nat.zero_le _) _ rfl ?_; intro g4 cap4 w4 hown hgrow hat hlt4; have H5 := Lib.hid (ab_turn H4.out fun rs q => q.grow hgrow (by first | exact hat | (rw [hs_alloc]; exact hat)) hown); have hxb := (blk_out (H5.out.ss_own.all (blk bx (a7O a)) (by simp)).1); obtain ⟨-, -, -, -, -, g5, -⟩ := a7_box hxb; clear hxb hown hgrow hat hlt4))
                    all_goals
                      have h8 := ab_two (ab_perm (ab_perm H7.out (List.perm_middle (l₁ := [_, _, _]))) (List.perm_middle (l₁ := [_, _, _, _]))) (fun _ h => own_usadd h)
                      have h9 := ab_two (ab_perm (ab_perm h8 (List.perm_middle (l₁ := [_, _]))) (List.perm_middle (l₁ := [_, _, _, _]))) (fun _ h => own_bRadd h)
                      have h10 := ab_perm (ab_perm (ab_perm h9 (List.perm_middle (l₁ := [_, _]))) (List.perm_middle (l₁ := [_, _]))) (List.perm_middle (l₁ := [_, _, _]))
                      have H10 := Lib.hid h10
                      clear h8 h9 h10 H7
                      go_wp2_with fail
                      go_roundw
                      case rel =>
                        refine ⟨k + 1, _, _, _, _, us ++ [(.slice a3 (bt (IntKind.i64.wrap (a.which + (k : Int)))).length c3, bt (IntKind.i64.wrap (a.which + (k : Int))))], vals ++ [.slice a5 (bt (IntKind.i64.wrap (a.which + (k : Int)))).length c5], by omega, by go_num, rfl, rfl, Lib.hid ⟨by simp [HU.out.1], by rw [List.map_append, HU.out.2, bts_succ]; rfl⟩, Lib.hid ?_⟩
                        have h := H10.out
                        rw [List.map_append, bts_succ]
                        exact h
                      case measure => simp [intOf]; omega
                  · have hkn : k = n := by omega
                    subst hkn
                    have hkI : decide ((k : Int) < (k : Int)) = false := by simp
                    obtain ⟨hul, hub⟩ := HU.out
                    have HUB := Lib.hid hub
                    have h4 : AtB B w0 wr i st p sd (lsR (.slice a1 k c1) us.length (us.map (·.1)) :: usR us :: lsR (.slice a2 k c2) k vals :: bR vals (btsOf a k) :: cpR (.slice ao (bt a.which).length cap) (bt a.which) :: blk bx (a7O a) :: ss) := by rw [hul]; exact H3.out
                    have HI := Lib.hid (ab_install h4 (fun u hu => by
                      have : u.2 ∈ us.map (·.2) := List.mem_map.2 ⟨u, hu, rfl⟩
                      rw [hub] at this
                      obtain ⟨j, -, e⟩ := List.mem_map.1 this
                      have := bt_len (IntKind.i64.wrap (a.which + (j : Int)))
                      rw [← e]; omega) (by omega))
                    have hbl2 : (btsOf a k).length = k := by simp [btsOf]
                    have HBL := Lib.hid hbl2
                    clear h4 hub hbl2 H3
                    go_wp2_with fail
                    refine HI.out.mono ?_
                    rintro e w4 ⟨rfl, h5⟩
                    rw [hul, HUB.out] at h5
                    rw [hul]
                    have h6 : AtB B w0 w4 i (installI st (btsOf a k)) p sd (lsR (.slice a2 k c2) (btsOf a k).length vals :: bR vals (btsOf a k) :: lsR (.slice a1 k c1) k (us.map (·.1)) :: usR us :: cpR (.slice ao (bt a.which).length cap) (bt a.which) :: blk bx (a7O a) :: ss) := by
                      rw [HBL.out]
                      exact ab_perm (ab_perm h5 (List.perm_middle (l₁ := [_, _, _]))) (List.perm_middle (l₁ := [_, _, _]))
                    have HD := Lib.hid (ab_dinstall (ab_two h6 (fun _ h => own_bsR h)) (fun b hb => by
                      obtain ⟨j, -, e⟩ := List.mem_map.1 hb
                      have := bt_len (IntKind.i64.wrap (a.which + (j : Int)))
                      rw [← e]; omega))
                    clear h5 h6 HI
                    go_wp2_with fail
                    refine HD.out.mono ?_
                    rintro e w5 ⟨rfl, h7⟩
                    rw [HBL.out]
                    have H7 : Hid (AtB B w0 w5 i (installI st (btsOf a k)) p (installI sd (btsOf a k)) (lsR (.slice a1 k c1) k (us.map (·.1)) :: rwR us :: cpR (.slice ao (bt a.which).length cap) (bt a.which) :: blk bx (a7O a) :: ss)) :=
                      Lib.hid (ab_perm (ab_turn (ab_perm h7 (List.Perm.swap _ _ _)) (fun _ h => own_rows h)) (List.Perm.swap _ _ _))
                    have HUL := Lib.hid hul
                    clear h7 HD hul HU
                    go_wp2_with fail
                    go_loopw [66] (fun i' wx => ∃ r : Nat, r ≤ k ∧ i' = .int .i64 r ∧ Hid (AtB B w0 wx i (installI st (btsOf a k)) p (installI sd (btsOf a k)) (lsR (.slice a1 k c1) k (us.map (·.1)) :: rwR us :: cpR (.slice ao (bt a.which).length cap) (bt a.which) :: blk bx (a7O a) :: ss))) (fun i' _ => k - (intOf i').toNat)
                    case atStart => exact ⟨0, by omega, rfl, H7⟩
                    case round =>
                      clear H7
                      obtain ⟨r, hr, rfl, H7⟩ := hrel
                      by_cases hltr : r < k
                      · have hrI : (r : Int) < (k : Int) := by omega
                        have hru : r < us.length := by rw [HUL.out]; exact hltr
                        obtain ⟨b, o, rfl, hb, cu⟩ := ls_cell H7.out hltr hru
                        obtain ⟨ao6, cap6, hur⟩ := row_form (rw_row (ab_drop H7.out).ss_own r hru)
                        rw [hur] at cu
                        have HUR := Lib.hid hur
                        clear hur
                        have hlen2 : us[r].2.length ≤ 2 := by
                          have : us[r].2 ∈ us.map (·.2) := List.mem_map.2 ⟨us[r], by simp, rfl⟩
                          rw [HUB.out] at this
                          obtain ⟨j, -, e⟩ := List.mem_map.1 this
                          rw [← e]; exact bt_len _
                        go_wp2_with fail
                        go_loopw [74] (fun i' wx => ∃ s : Nat, s ≤ us[r].2.length ∧ i' = .int .i64 s ∧ Hid (AtB B w0 wx i (installI st (btsOf a k)) p (installI sd (btsOf a k)) (lsR (.slice (some ⟨b, o, none⟩) k c1) k (us.map (·.1)) :: rwR us :: cpR (.slice ao (bt a.which).length cap) (bt a.which) :: blk bx (a7O a) :: ss))) (fun i' _ => us[r].2.length - (intOf i').toNat)
                        case atStart => exact ⟨0, by omega, rfl, H7⟩
                        case round =>
                          clear H7 cu hb
                          obtain ⟨s, hs, rfl, H7⟩ := hrel
                          by_cases hlts : s < us[r].2.length
                          · have hsI : (s : Int) < (us[r].2.length : Int) := by omega
                            obtain ⟨b', o', e, hb, cu⟩ := ls_cell H7.out hltr hru
                            cases e
                            rw [HUR.out] at cu
                            have hrow := rw_row (ab_drop H7.out).ss_own r hru
                            rw [HUR.out] at hrow
                            obtain ⟨g, cur, rfl, hg, hsz, hcap⟩ := row_at hrow hlts
                            have fz := fun o => block_frozen hg o
                            have hc := row_cells hg hsz
                            obtain ⟨x0, c0⟩ := hc (s * 6) (by omega)
                            obtain ⟨x1, c1'⟩ := hc (s * 6 + 1) (by omega)
                            obtain ⟨x2, c2'⟩ := hc (s * 6 + 2) (by omega)
                            obtain ⟨x3, c3⟩ := hc (s * 6 + 3) (by omega)
                            obtain ⟨x4, c4⟩ := hc (s * 6 + 4) (by omega)
                            obtain ⟨x5, c5⟩ := hc (s * 6 + 5) (by omega)
                            clear hc hg hrow
                            go_wp2_with fail
                            go_roundw
                            case rel =>
                              refine ⟨s + 1, by omega, by go_num, Lib.hid (ab_perm (ab_turn (ab_perm H7.out (List.Perm.swap _ _ _)) (fun rs q => rw_put6 q r hru HUR.out _ _ _ _ _ _ _ _ _ _ _ _)) (List.Perm.swap _ _ _))⟩
                            case measure => simp [intOf]; omega
                          · have hsI : decide ((s : Int) < (us[r].2.length : Int)) = false := by simp; omega
                            go_wp2_with fail
                            go_roundw
                            case rel => exact ⟨r + 1, by omega, by go_num, H7⟩
                            case measure => simp [intOf]; omega
                      · have hrI : decide ((r : Int) < (k : Int)) = false := by simp; omega
                        go_wp2_with fail
                        go_meet
                        exact Lib.hid (doP_of (S1.out st) (S1.out sd) (fun e => by rw [e]; simp) (ab_drop (ab_drop H7.out)))

  case rest =>
    clear H2 b0 b1 b2 b3 b4 b5 b6 SP SV SR SC SA SL SI k1 k2
    obtain ⟨t, rfl, ht, H3⟩ := hcut.out
    have HT := Lib.hid ht
    have HS := Lib.hid H3
    clear ht H3 hcut
    generalize (bt a.which).length = nb at *
    go_wp2_with fail
    go_loopw [229] (fun i' wr => ∃ k : Nat, k ≤ nb ∧ i' = .int .i64 k ∧ Hid (AtB B w0 wr i (stepI st a) p (stepI sd a) (rowR 32 6 (.slice ao nb cap) nb :: ss))) (fun i' _ => nb - (intOf i').toNat)
    case atStart => exact ⟨0, by omega, rfl, HS⟩
    case round =>
      clear HS
      obtain ⟨k, hk, rfl, H2⟩ := hrel
      by_cases hlt : k < nb
      · have hkI : (k : Int) < (nb : Int) := by omega
        obtain ⟨g, cur, rfl, hg, hsz, hcap⟩ := row_at H2.out.ss_own.head hlt
        have fz := fun o => block_frozen hg o
        have hc := row_cells hg hsz
        obtain ⟨x0, c0⟩ := hc (k * 6) (by omega)
        obtain ⟨x1, c1⟩ := hc (k * 6 + 1) (by omega)
        obtain ⟨x2, c2⟩ := hc (k * 6 + 2) (by omega)
        obtain ⟨x3, c3⟩ := hc (k * 6 + 3) (by omega)
        obtain ⟨x4, c4⟩ := hc (k * 6 + 4) (by omega)
        obtain ⟨x5, c5⟩ := hc (k * 6 + 5) (by omega)
        clear hc hg
        go_wp2_with fail
        go_roundw
        case rel =>
          refine ⟨k + 1, by omega, by go_num, Lib.hid (ab_turn H2.out fun rs q => row_put6 q _ _ _ _ _ _ _ _ _ _ _ _)⟩
        case measure => simp [intOf]; omega
      · have hkI : ¬ (k : Int) < (nb : Int) := by omega
        have hkJ : decide ((k : Int) < (nb : Int)) = false := by simp; omega
        go_wp2_with fail
        go_ret
        exact ⟨t, rfl, HT.out, ab_drop H2.out⟩

end
end Go.Proofs.Ytdeadekeffficaa

/- psephoslaw15.InstPlays walked. -/
namespace Go.Proofs.Ytdeadekeffficaa
open Go.RowKit Go.Heap

theorem setCells_block {b : Nat} {T : TypeId} {fr : Nat × Nat} : ∀ (vs : List Value) (o : Nat) (w : World) (cur : Array Value), w.heap[b]? = some (.cells cur T fr) → ∃ cur', (w.setCells b o vs).heap[b]? = some (.cells cur' T fr) ∧ cur'.size = cur.size ∧
    ∀ j, cur'[j]? = if o ≤ j ∧ j < o + vs.length ∧ j < cur.size then vs[j - o]? else cur[j]?
  | [], o, w, cur, h => ⟨cur, h, rfl, fun j => by rw [if_neg (by simp; omega)]⟩
  | v :: vs, o, w, cur, h => by
    have h1 : (w.setCell ⟨b, o, none⟩ v).heap[b]? = some (.cells (cur.setIfInBounds o v) T fr) := by rw [hp_same rfl, h]; rfl
    obtain ⟨cur', e1, e2, e3⟩ := setCells_block vs (o + 1) _ _ h1
    refine ⟨cur', e1, by simpa using e2, fun j => ?_⟩
    rw [e3 j]
    simp only [Array.size_setIfInBounds, List.length_cons]
    by_cases hj : o = j
    · subst hj
      rw [if_neg (by omega), Array.getElem?_setIfInBounds_self]
      by_cases hs : o < cur.size
      · rw [if_pos hs, if_pos ⟨Nat.le_refl _, by omega, hs⟩]; simp
      · rw [if_neg hs, if_neg (by omega), Array.getElem?_eq_none (by omega)]
    · rw [Array.getElem?_setIfInBounds_ne hj]
      by_cases h2 : o + 1 ≤ j ∧ j < o + 1 + vs.length ∧ j < cur.size
      · rw [if_pos h2, if_pos ⟨by omega, by omega, h2.2.2⟩]
        rw [show j - o = (j - (o + 1)) + 1 by omega, List.getElem?_cons_succ]
      · rw [if_neg h2, if_neg (by omega)]

theorem upd_setCells {b : Nat} : ∀ (vs : List Value) (o : Nat) (w0 w : World), Upd [b] w0 w → Upd [b] w0 (w.setCells b o vs)
  | [], _, _, _, h => h
  | v :: vs, o, w0, w, h => upd_setCells vs (o + 1) w0 _ (h.setCell (.inl (by simp)) v)

section
variable {B : Nat} {w0 w W W' : World} {ss rs : List Res} {i p : Nat} {st sd : In} {h : Nat → Value} {m : Nat → Nat → Value} {D : List Nat}

theorem CtV.one {r : Nat → Value} {a : Nat} {c : Cp} (hc : CtV W r a c D) : ∀ q, a ≤ q → q < a + 5 → (r q).oneCell' = true := fun q h1 h2 => by
  obtain ⟨t, -, t2, e0, e1, e2, e3, e4⟩ := hc
  have : q = a ∨ q = a + 1 ∨ q = a + 2 ∨ q = a + 3 ∨ q = a + 4 := by omega
  rcases this with rfl | rfl | rfl | rfl | rfl
  · rw [e0]; rfl
  · rw [e1]; rfl
  · rw [e2]; rfl
  · obtain ⟨x, y, e⟩ := bat_form t2.b.1
    rw [e3, e]; rfl
  · obtain ⟨x, y, e⟩ := vts_form t2.v.1
    rw [e4, e]; rfl

theorem DPl.one {f : Nat} {r : Nat → Value} {q : Pl} (hp : DPl W f r q D) : ∀ c, c < 17 → (r c).oneCell' = true := fun c hc => by
  obtain ⟨pl, p1, -⟩ := hp.dc.p
  obtain ⟨cl, c1, -⟩ := hp.dc.c
  by_cases h5 : 5 ≤ c ∧ c < 10
  · exact hp.ct.one c h5.1 h5.2
  · by_cases h10 : 10 ≤ c ∧ c < 15
    · exact hp.dw.one c h10.1 h10.2
    · have : c = 0 ∨ c = 1 ∨ c = 2 ∨ c = 3 ∨ c = 4 ∨ c = 15 ∨ c = 16 := by omega
      rcases this with rfl | rfl | rfl | rfl | rfl | rfl | rfl
      · rw [hp.has]; rfl
      · obtain ⟨x, y, e⟩ := bat_form hp.dc.b.1
        rw [e]; rfl
      · obtain ⟨x, n, y, e⟩ := rvs_form p1.rvs
        rw [e]; rfl
      · obtain ⟨x, n, y, e⟩ := rvs_form c1.rvs
        rw [e]; rfl
      · rw [hp.told]; rfl
      · rw [hp.hc]; rfl
      · rw [hp.hd]; rfl

theorem doc_one (hd : DocI W h m st D) (j : Nat) (hj : j < 294) : (docCell h m j).oneCell' = true := by
  by_cases h5 : j < 5
  · rw [docCell_head h5]
    have : j = 0 ∨ j = 1 ∨ j = 2 ∨ j = 3 ∨ j = 4 := by omega
    rcases this with rfl | rfl | rfl | rfl | rfl
    · rw [hd.h0]; rfl
    · rw [hd.h1]; rfl
    · rw [hd.h2]; rfl
    · rw [hd.h3]; rfl
    · rw [hd.h4]; rfl
  · rw [docCell_row (by omega)]
    have hr : rowJ j < 17 ∧ colJ j < 17 := by
      unfold rowJ colJ
      repeat' split
      all_goals omega
    by_cases h0 : rowJ j = 0
    · rw [h0]; exact hd.z _
    · have hk : rowJ j - 1 < st.l.length := by rw [hd.n]; omega
      have hp := (hd.pl (rowJ j - 1) hk).one (colJ j) hr.2
      rwa [show rowJ j - 1 + 1 = rowJ j by omega] at hp

/-- A copy of the document's instance. -/
theorem own_doccopy (hw : Own B w0 W (docB p h m :: docI h m st :: ss)) {cur : Array Value} (hs : cur.size = 294) :
    Own B w0 ((W.alloc (.cells cur 95 (0, 0))).setCells W.heap.size 0 ((List.range 294).map (docCell h m))) (docB W.heap.size h m :: docI h m st :: docB p h m :: docI h m st :: ss) := by
  have h1 := hw.box (.cells cur 95 (0, 0))
  have hu : Upd [W.heap.size] (W.alloc (.cells cur 95 (0, 0))) ((W.alloc (.cells cur 95 (0, 0))).setCells W.heap.size 0 ((List.range 294).map (docCell h m))) := upd_setCells _ _ _ _ (Upd.refl _ _)
  obtain ⟨cur', e1, e2, e3⟩ := setCells_block ((List.range 294).map (docCell h m)) 0 (W.alloc (.cells cur 95 (0, 0))) cur (heap_alloc_new W _)
  have h2 : Own B w0 ((W.alloc (.cells cur 95 (0, 0))).setCells W.heap.size 0 ((List.range 294).map (docCell h m))) (docB W.heap.size h m :: docB p h m :: docI h m st :: ss) := h1.step (r' := docB W.heap.size h m) hu ⟨[], ⟨⟨cur', e1, by rw [e2, hs], fun j hj => by
    rw [e3 j, if_pos ⟨by omega, by simp; omega, by omega⟩]
    simp [hj]⟩, rfl⟩, by simp, fun k hk => Nat.lt_of_lt_of_le (h1.lt k hk) hu.size⟩ (fun k hk => .inl hk)
  have h3 : Own B w0 _ (docI h m st :: docB W.heap.size h m :: docB p h m :: ss) := h2.rot
  have h4 := own_dup rfl h3
  exact h4.perm ((List.perm_append_comm (l₁ := [_, _]) (l₂ := [_, _])).append_right ss |>.trans (by
    refine List.Perm.cons _ ?_
    refine List.Perm.trans (List.perm_middle (l₁ := [_]) ) ?_
    refine List.Perm.cons _ ?_
    exact List.Perm.refl _))

theorem ab_swap {j q : Nat} {st2 : In} {x : Ins} (hx : Ins.i x = i) (hs : Ins.st x = st) (hw : AtB B w0 W j st2 q st2 [instR x, docB p h m, docI h m st]) : ∃ y h' m', Ins.i y = j ∧ Ins.st y = st2 ∧ AtB B w0 W i st p st [instR y, docB q h' m', docI h' m' st2] := by
  obtain ⟨y, h', m', y1, y2, o⟩ := hw
  exact ⟨y, h', m', y1, y2, x, h, m, hx, hs, o.perm (List.perm_append_comm (l₁ := [_, _, _]) (l₂ := [_, _, _]))⟩

def PyS (w wx : World) (i p : Nat) (ss : List Res) : Prop := ∃ st, AtB w.heap.size w wx i st p st ss

theorem pys_len (hw : AtB B w0 W i st p sd ss) : st.l.length = 16 := let ⟨_, hx⟩ := ab_ai hw; (ai_ok hx).1

end

theorem Try.zc95b (f : Nat) (num ahead : Int) : ((((Try.zeroCells95.setIfInBounds 0 (.int .i64 f)).setIfInBounds 1 (.int .i64 num)).setIfInBounds 2 (.int .i64 ahead)).setIfInBounds 4 (.bool true)).toList = (List.range 294).map (docCell (zhead f num ahead) fun _ => zrow) := by kernel_rfl
theorem Try.info95 : (Try.prog.info? 95).map (·.size) = some 294 := by kernel_rfl
theorem Try.zc95s : Try.zeroCells95.size = 294 := by kernel_rfl

/-- Where what was copied lies. -/
theorem own_copied {B : Nat} {w0 W : World} {p q : Nat} {h : Nat → Value} {m : Nat → Nat → Value} {st : In} {x y : Ins} (hw : Own B w0 W (docB q h m :: docI h m st :: docB p h m :: docI h m st :: [instR y, instR x])) (hy : y.st = st) :
    AtB B w0 W y.i st q st [instR x, docB p h m, docI h m st] :=
  ⟨y, h, m, rfl, hy, hw.perm (by
    refine List.Perm.trans (List.perm_middle (l₁ := [_, _, _, _])) (List.Perm.cons _ (List.Perm.cons _ (List.Perm.cons _ ?_)))
    exact List.perm_middle (l₁ := [_, _]) (l₂ := []))⟩

set_option maxHeartbeats 16000000 in
set_option maxRecDepth 100000 in
theorem plays15_bad (f num ahead : Int) (v u : Value) {w : World} (hbad : badI f num ahead) :
    Calls Try.prog 16 #[.int .i64 f, .int .i64 num, .int .i64 ahead, v, u] w fun e w' => e = .returned (.bool true) ∧ Below w.heap.size w w' := by
  have HB := Lib.hid (new_bad f num ahead w hbad)
  have HWK := Lib.hid (wakes15_any w)
  have hc : decide (f < 1) = true ∨ (decide (f < 1) = false ∧ decide (4 < f) = true) ∨ (decide (f < 1) = false ∧ decide (4 < f) = false ∧ decide (num < 0) = true) ∨ (decide (f < 1) = false ∧ decide (4 < f) = false ∧ decide (num < 0) = false ∧ decide (f < num) = true) ∨
      (decide (f < 1) = false ∧ decide (4 < f) = false ∧ decide (num < 0) = false ∧ decide (f < num) = false ∧ decide (ahead < 1) = true) ∨ (decide (f < 1) = false ∧ decide (4 < f) = false ∧ decide (num < 0) = false ∧ decide (f < num) = false ∧ decide (ahead < 1) = false ∧ decide (16 < ahead) = true) := by
    unfold badI at hbad
    simp only [decide_eq_true_eq, decide_eq_false_iff_not]
    omega
  clear hbad
  rcases hc with b1 | ⟨b1, b2⟩ | ⟨b1, b2, b3⟩ | ⟨b1, b2, b3, b4⟩ | ⟨b1, b2, b3, b4, b5⟩ | ⟨b1, b2, b3, b4, b5, b6⟩
  all_goals
    go_enter Try.func16, Try.ntmps16
    go_wp2_with fail
    refine HB.out.mono ?_
    rintro e w' ⟨rfl, rfl⟩
    go_wp2_with fail
    refine HWK.out.mono ?_
    rintro e w7 ⟨rfl, hb7⟩
    have H7 := Lib.hid hb7
    clear hb7
    go_wp2_with fail
    go_ret
    exact ⟨rfl, H7.out⟩

set_option maxHeartbeats 16000000 in
set_option maxRecDepth 100000 in
theorem plays15_good (f : Nat) (num ahead : Int) (v : Value) (xs : List A7) {w : World} (hv : Acts7 w v xs) (u : Value) (ys : List A7) (hu : Acts7 w u ys) (hf1 : 1 ≤ f) (hf2 : f ≤ 4) (hn1 : 0 ≤ num) (hn2 : num ≤ f) (ha1 : 1 ≤ ahead) (ha2 : ahead ≤ 16) :
    Calls Try.prog 16 #[.int .i64 f, .int .i64 num, .int .i64 ahead, v, u] w fun e w' => e = .returned (.bool true) ∧ Below w.heap.size w w' := by
  have HV := Lib.hid hv
  have HU := Lib.hid hu
  obtain ⟨ao, cap, rfl, hl1, hl2, -⟩ := id hv
  obtain ⟨bo, bcap, rfl, kl1, kl2, -⟩ := id hu
  have hmx : xs.length ≤ 9223372036854775807 := by unfold maxLen at hl2; omega
  have hmy : ys.length ≤ 9223372036854775807 := by unfold maxLen at kl2; omega
  clear hl1 hl2 kl1 kl2 hv hu
  have b1 : decide ((f : Int) < 1) = false := by simp; omega
  have b2 : decide (4 < (f : Int)) = false := by simp; omega
  have b3 : decide (num < 0) = false := by simp; omega
  have b4 : decide ((f : Int) < num) = false := by simp; omega
  have b5 : decide (ahead < 1) = false := by simp; omega
  have b6 : decide (16 < ahead) = false := by simp; omega
  have HNW := Lib.hid (ai_new f num ahead hf1 hf2 hn1 hn2 ha1 ha2 (Own.start (Below.refl w.heap.size w) (Nat.le_refl _)))
  go_enter Try.func16, Try.ntmps16
  go_wp2_with fail
  refine HNW.out.mono ?_
  rintro e w1 ⟨i, rfl, h1⟩
  have h2 := ab_start h1 f num ahead hf1 hf2 ha1 ha2 (Try.zc95b f num ahead)
  have H2 : Hid (PyS w _ i w1.heap.size []) := Lib.hid ⟨_, h2⟩
  clear h1 h2 HNW
  go_upto_region 7 with fail
  generalize w1.heap.size = p at *
  generalize w1.alloc _ = w2 at *
  clear b1 b2 b3 b4 b5 b6 hf1 hf2 hn1 hn2 ha1 ha2
  go_upto_block 0 with fail
  go_cut [] (fun wx => Hid (PyS w wx i p []))
  case first =>
    go_wp2_with fail
    go_loopw [14] (fun j wr => ∃ k : Nat, k ≤ xs.length ∧ j = .int .i64 k ∧ Hid (PyS w wr i p [])) (fun j _ => xs.length - (intOf j).toNat)
    case atStart => exact ⟨0, by omega, rfl, H2⟩
    case round =>
      clear H2
      obtain ⟨k, hk, rfl, H2⟩ := hrel
      by_cases hlt : k < xs.length
      · have hkI : (k : Int) < (xs.length : Int) := by omega
        by_cases h120 : k < 80
        · have hk120 : (k : Int) < 80 := by omega
          obtain ⟨st, h1⟩ := H2.out
          have hat := (HV.out.below (Upd.of_below h1.below)).at k hlt
          obtain ⟨-, b, o, rfl, hbl, c0, c1, c2, c3, c4, c5, c6⟩ := hat
          have HD := Lib.hid (do15_any xs[k] h1)
          clear h1 H2
          generalize xs[k] = X at *
          go_wp2_with fail
          refine HD.out.mono ?_
          rintro e w3 ⟨t, rfl, ht, h3⟩
          obtain rfl := ht rfl
          have HR := Lib.hid (right15_any h3 (pys_len h3))
          clear h3 ht HD c0 c1 c2 c3 c4 c5 c6 hbl
          go_wp2_with fail
          refine HR.out.mono ?_
          rintro e w4 ⟨rfl, h4⟩
          have H4 : Hid (PyS w w4 i p []) := Lib.hid ⟨_, h4⟩
          clear h4 HR
          go_wp2_with fail
          go_roundw
          case rel => exact ⟨k + 1, by omega, by go_num, H4⟩
          case measure => simp [intOf]; omega
        · have hk120 : decide ((k : Int) < 80) = false := by simp; omega
          go_wp2_with fail
          go_meet
          exact H2
      · have hkI : decide ((k : Int) < (xs.length : Int)) = false := by simp; omega
        go_wp2_with fail
        go_meet
        exact H2
  case rest =>
    clear H2
    obtain ⟨st, x, a, m, e1, e2, o1⟩ := hcut.out
    have HC := Lib.hid (ins_clone o1 e1)
    have E1 := Lib.hid e1
    have E2 := Lib.hid e2
    clear o1 e1 e2 hcut
    go_wp2_with fail
    refine HC.out.mono ?_
    rintro e w3 ⟨j, y, rfl, y1, y2, o2⟩
    subst y1
    have o3 : Own w.heap.size w w3 (docB p a m :: docI a m st :: [instR y, instR x]) := o2.perm (List.perm_append_comm (l₁ := [_, _]) (l₂ := [_, _]))
    obtain ⟨D, ⟨hdi, -⟩, -, -⟩ := o3.drop.head
    have HONE := Lib.hid (doc_one hdi)
    have HRA : Hid (w3.rangeAt p 0 ((List.range 294).map (docCell a m))) := Lib.hid (fun j v hj => by
      have hl := (List.getElem?_eq_some_iff.1 hj).1
      simp at hl
      rw [Nat.zero_add, docB_cell o3.head j hl]
      rw [← hj]; simp [hl])
    have HI : Hid ((Try.prog.info? 95).map (·.size) = some ((List.range 294).map (docCell a m)).length) := Lib.hid (by rw [Try.info95]; simp)
    have HO := Lib.hid (own_doccopy o3 Try.zc95s)
    have HTH : Hid ((w3.alloc (.cells Try.zeroCells95 95 (0, 0))).there w3.heap.size 0 ((List.range 294).map (docCell a m)).toArray.size) := Lib.hid (fun j hj => by
      have hl : j < 294 := by simpa using hj
      have hb := heap_alloc_new w3 (.cells Try.zeroCells95 95 (0, 0))
      refine ⟨?_, block_frozen hb _⟩
      rw [Nat.zero_add, block_cell hb, Array.getElem?_eq_getElem (by rw [Try.zc95s]; exact hl)]
      rfl)
    have HST := Lib.hid (show y.st = st by rw [y2]; exact E2.out)
    have HALL : Hid (((List.range 294).map (docCell a m)).toArray.all (·.oneCell') = true) := Lib.hid (all_oneCell_toArray (fun v hv => by
      obtain ⟨n, hn, rfl⟩ := List.mem_map.1 hv
      exact HONE.out n (by simpa using hn)))
    have HI2 : Hid ((Try.prog.info? 95).map (·.size) = some ((List.range 294).map (docCell a m)).toArray.size) := Lib.hid (by rw [Try.info95]; simp)
    have H5 : Hid (PyS w ((w3.alloc (.cells Try.zeroCells95 95 (0, 0))).setCells w3.heap.size 0 ((List.range 294).map (docCell a m))) y.i w3.heap.size [instR x, docB p a m, docI a m st]) := Lib.hid ⟨st, own_copied HO.out HST.out⟩
    clear o2 o3 hdi y2 HC HONE HO HST
    generalize (List.range 294).map (docCell a m) = cs at *
    go_upto_block 2 with (first
      | (refine wpList_load_mid rfl 95 (.tmp 97) rfl p 0 rfl cs _ HRA.out Try.underlying95 rfl HI.out ?_)
      | (refine wpList_store_mid rfl 95 (.tmp 16) (.tmp 98) rfl w3.heap.size 0 cs.toArray rfl rfl HTH.out HI2.out HALL.out ?_))
    clear HRA HI HTH HI2 HALL
    generalize (w3.alloc (.cells Try.zeroCells95 95 (0, 0))).setCells w3.heap.size 0 cs = w4 at *
    generalize w3.heap.size = q at *
    generalize hyi : y.i = j at *
    clear hyi
    go_cut [] (fun wx => Hid (PyS w wx j q [instR x, docB p a m, docI a m st]))
    case first =>
      go_wp2_with fail
      go_loopw [17] (fun n wr => ∃ k : Nat, k ≤ ys.length ∧ n = .int .i64 k ∧ Hid (PyS w wr j q [instR x, docB p a m, docI a m st])) (fun n _ => ys.length - (intOf n).toNat)
      case atStart => exact ⟨0, by omega, rfl, H5⟩
      case round =>
        clear H5
        obtain ⟨k, hk, rfl, H5⟩ := hrel
        by_cases hlt : k < ys.length
        · have hkI : (k : Int) < (ys.length : Int) := by omega
          by_cases h120 : k < 40
          · have hk120 : (k : Int) < 40 := by omega
            obtain ⟨st2, h1⟩ := H5.out
            have hat := (HU.out.below (Upd.of_below h1.below)).at k hlt
            obtain ⟨-, b, o, rfl, hbl, c0, c1, c2, c3, c4, c5, c6⟩ := hat
            have HD := Lib.hid (do15_any ys[k] h1)
            clear h1 H5
            generalize ys[k] = X at *
            go_wp2_with fail
            refine HD.out.mono ?_
            rintro e w5 ⟨t, rfl, ht, h3⟩
            obtain rfl := ht rfl
            have H6 : Hid (PyS w w5 j q [instR x, docB p a m, docI a m st]) := Lib.hid ⟨_, h3⟩
            clear h3 ht HD c0 c1 c2 c3 c4 c5 c6 hbl
            go_wp2_with fail
            go_roundw
            case rel => exact ⟨k + 1, by omega, by go_num, H6⟩
            case measure => simp [intOf]; omega
          · have hk120 : decide ((k : Int) < 40) = false := by simp; omega
            go_wp2_with fail
            go_meet
            exact H5
        · have hkI : decide ((k : Int) < (ys.length : Int)) = false := by simp; omega
          go_wp2_with fail
          go_meet
          exact H5
    case rest =>
      clear H5
      obtain ⟨st2, h1⟩ := hcut.out
      obtain ⟨y1, h', m', z1, z2, h2⟩ := ab_swap E1.out E2.out h1
      have HR := Lib.hid (right15_any h2 (pys_len h2))
      have Z1 := Lib.hid z1
      have Z2 := Lib.hid z2
      clear hcut h1 h2 z1 z2
      go_wp2_with fail
      refine HR.out.mono ?_
      rintro e w5 ⟨rfl, h3⟩
      obtain ⟨y2, h'', m'', z3, z4, h4⟩ := ab_swap Z1.out Z2.out h3
      have HR2 := Lib.hid (right15_any h4 (pys_len h4))
      clear h3 h4 HR
      go_wp2_with fail
      refine HR2.out.mono ?_
      rintro e w6 ⟨rfl, h5⟩
      have H6 := Lib.hid h5
      clear h5 HR2
      go_wp2_with fail
      refine (wakes15_any _).mono ?_
      rintro e w7 ⟨rfl, hb7⟩
      have H7 := Lib.hid (H6.out.below.trans (hb7.mono H6.out.ss_own.size))
      clear hb7 H6
      go_wp2_with fail
      go_ret
      exact ⟨rfl, H7.out⟩

theorem plays15_any (f num ahead : Int) (v : Value) (xs : List A7) {w : World} (hv : Acts7 w v xs) (u : Value) (ys : List A7) (hu : Acts7 w u ys) :
    Calls Try.prog 16 #[.int .i64 f, .int .i64 num, .int .i64 ahead, v, u] w fun e w' => e = .returned (.bool true) ∧ Below w.heap.size w w' := by
  by_cases hbad : badI f num ahead
  · exact plays15_bad f num ahead v u hbad
  · unfold badI at hbad
    obtain ⟨g, rfl⟩ : ∃ g : Nat, f = g := ⟨f.toNat, by omega⟩
    exact plays15_good g num ahead v xs hv u ys hu (by omega) (by omega) (by omega) (by omega) (by omega) (by omega)

end Go.Proofs.Ytdeadekeffficaa
