/- inst: Leave. -/
import Derived.Test.YtdeadekeffficaaInL
import Derived.Test.YtdeadekeffficaaGapP
namespace Go.Proofs.Ytdeadekeffficaa
open Go.RowKit Go.Heap

section
variable {B : Nat} {w0 W W' : World} {ss rs : List Res} {x : Ins}

/-- One cell of a place is stored that leads nowhere. -/
theorem oi_put {k r : Nat} {v : Value} {p : Pm} (h : OwnI B w0 W x ss) (hk : k < x.l.length) (hl : p.lc = x.l[k].lc) (hs : p.sl = x.l[k].sl) (hc : p.ct = x.l[k].ct ∧ p.dw = x.l[k].dw) (hr : r < 14) (hcells : pmCells p = (pmCells x.l[k]).set r v) :
    OwnI B w0 (W.setCell ⟨x.b, k * 14 + r, none⟩ v) (x.sl k p) ss := by
  have h1 : Own B w0 (W.setCell ⟨x.b, k * 14 + r, none⟩ v) (segR x.b 122 ((x.l.flatMap pmCells).set (k * 14 + r) v) :: blk x.i x.o :: certsR x :: (x.l.map pmR ++ ss)) := Own.put (Own.swap h) (k * 14 + r) v
  rw [flat_set (cells := pmCells) (sz := 14) (fun _ => rfl) x.l k r x.l[k] p v (by simp) hr hcells] at h1
  have h2 : Own B w0 (W.setCell ⟨x.b, k * 14 + r, none⟩ v) (certsR x :: segR x.b 122 ((x.l.set k p).flatMap pmCells) :: blk x.i x.o :: (x.l.map pmR ++ ss)) := h1.rot
  have h3 := h2.alter (r' := certsR (x.sl k p)) (by
    obtain ⟨D, ⟨⟨q1, q2⟩, q3⟩, q4, q5⟩ := h2.head
    refine ⟨D, ⟨⟨⟨by simpa using q1.n, q1.f1, q1.f2, fun p' hp' => ?_, q1.c1, q1.a1, q1.a2, q1.vw⟩, fun p' hp' => ?_⟩, q3⟩, q4, q5⟩
    · rcases List.mem_or_eq_of_mem_set hp' with hp' | rfl
      · exact q1.lf p' hp'
      · rw [hl]; exact q1.lf _ (by simp)
    · rcases List.mem_or_eq_of_mem_set hp' with hp' | rfl
      · exact q2 p' hp'
      · rw [hc.1, hc.2]; exact q2 _ (by simp)) (by simp [certsR, imm])
  have hmap : (x.l.set k p).map pmR = x.l.map pmR := by
    rw [List.map_set, show pmR p = pmR x.l[k] by simp [pmR, hl, hs]]
    conv => lhs; arg 3; rw [← List.getElem_map (f := pmR) (h := by simpa using hk)]
    exact List.set_getElem_self _
  show Own B w0 _ (insHd (x.sl k p) ++ ((x.l.set k p).map pmR ++ ss))
  rw [hmap]
  exact h3.swap.rot

/-- The instance's own block is stored. -/
theorem oi_hd {view : Int} {on : Bool} (h : Own B w0 W (blk x.i (insO x.f x.num x.ahead view on (.slice (some ⟨x.b, 0, none⟩) 16 x.cap)) :: segR x.b 122 (x.l.flatMap pmCells) :: certsR x :: (x.l.map pmR ++ ss))) (hv : 0 ≤ view ∧ view ≤ 12) :
    OwnI B w0 W { x with view := view, on := on } ss := by
  have h2 := h.rot
  have h3 := h2.alter (r' := certsR { x with view := view, on := on }) (by
    obtain ⟨D, ⟨⟨q1, q2⟩, q3⟩, q4, q5⟩ := h2.head
    exact ⟨D, ⟨⟨⟨q1.n, q1.f1, q1.f2, q1.lf, q1.c1, q1.a1, q1.a2, hv⟩, q2⟩, q3⟩, q4, q5⟩) (by simp [certsR, imm])
  exact h3.rot'

def clr (f : Nat) (p : Pl) : Pl := { p with sl := emptySl f, told := false }
/-- A view is left: k slots are empty already. -/
def lvI (st : In) (v : Int) (k : Nat) : In := { st with view := v, on := false, l := (st.l.take k).map (clr st.f) ++ st.l.drop k }

theorem lv_step (st : In) (v : Int) (k : Nat) (hk : k < st.l.length) : (lvI st v k).upd k (clr st.f) = lvI st v (k + 1) := by
  simp only [In.upd, lvI, In.mk.injEq, true_and]
  apply List.ext_getElem?
  intro j
  have hlen : ((st.l.take k).map (clr st.f)).length = k := by simp; omega
  have hlen2 : ((st.l.take (k + 1)).map (clr st.f)).length = k + 1 := by simp; omega
  rw [List.getElem?_modify]
  by_cases h1 : j < k
  · rw [List.getElem?_append_left (by omega), List.getElem?_append_left (by omega)]
    simp only [if_neg (show ¬ k = j by omega), List.getElem?_map, List.getElem?_take_of_lt h1, List.getElem?_take_of_lt (show j < k + 1 by omega)]
    cases st.l[j]? <;> rfl
  · by_cases h2 : j = k
    · subst h2
      rw [List.getElem?_append_right (by omega), List.getElem?_append_left (by omega), hlen]
      simp [List.getElem?_eq_getElem hk]
    · rw [List.getElem?_append_right (by omega), List.getElem?_append_right (by omega), hlen, hlen2]
      simp only [if_neg (show ¬ k = j by omega), List.getElem?_drop]
      rw [show k + (j - k) = j by omega, show k + 1 + (j - (k + 1)) = j by omega]
      cases st.l[j]? <;> rfl

theorem lv_zero (st : In) (v : Int) : lvI st v 0 = { st with view := v, on := false } := by simp [lvI]
theorem lv_all (st : In) (v : Int) (h : leaveB st v = true) : lvI st v st.l.length = leaveI st v := by
  unfold leaveI
  rw [if_pos h]
  simp [lvI, clr]

set_option maxHeartbeats 2000000 in
set_option maxRecDepth 100000 in
theorem ai_leave {i : Nat} {st : In} (h : AtI B w0 W i st ss) (v : Int) : Calls Try.prog 41 #[.pointer (some ⟨i, 0, none⟩), .int .i64 v] W fun e w' => e = .returned (.bool (leaveB st v)) ∧ AtI B w0 w' i (leaveI st v) ss := by
  obtain ⟨x, h1, hst, h3⟩ := h
  have ho := own_open h3
  obtain ⟨-, -, -, c3, c4, c5, l1, l2⟩ := oi_cells ho
  obtain ⟨-, fz⟩ := oi_fz ho
  have hvw : x.view = st.view := by rw [← hst]; rfl
  have z3 := fz 3
  have z4 := fz 4
  have hn := (oi_ok ho).n
  have hvw2 := (oi_ok ho).vw
  rw [h1] at c3 c4 c5 l1 z3 z4
  by_cases hle : v ≤ x.view
  · have HE := Lib.hid (show leaveB st v = false by simp [leaveB]; omega)
    have H := Lib.hid (show AtI B w0 W i st ss from ⟨x, h1, hst, h3⟩)
    clear h3 ho fz z3 z4 c4 c5 hvw hn hst
    go_enter Try.func41, Try.ntmps41
    go_wp2_with fail
    go_ret
    rw [HE.out, leaveI, if_neg (by rw [HE.out]; simp)]
    exact ⟨rfl, H.out⟩
  · have hleb : decide (v ≤ x.view) = false := by simp; omega
    by_cases h12 : 12 < v
    · have HE := Lib.hid (show leaveB st v = false by simp [leaveB]; omega)
      have H := Lib.hid (show AtI B w0 W i st ss from ⟨x, h1, hst, h3⟩)
      clear h3 ho fz z3 z4 c4 c5 hvw hn hst
      go_enter Try.func41, Try.ntmps41
      go_wp2_with fail
      go_ret
      rw [HE.out, leaveI, if_neg (by rw [HE.out]; simp)]
      exact ⟨rfl, H.out⟩
    · have h12b : decide (12 < v) = false := by simp; omega
      have HE := Lib.hid (show leaveB st v = true by simp [leaveB]; omega)
      have hstn : st.l.length = 16 := by rw [← hst]; simp [Ins.st, hn]
      have HLA := Lib.hid (by have := lv_all st v HE.out; rwa [hstn] at this)
      have HLS := Lib.hid (fun k hk => lv_step st v k (by rw [hstn]; exact hk))
      have hz := oi_hd (x := x) (view := v) (on := false) ((Own.store ho 3 (.int .i64 v)).store 4 (.bool false)) (by omega)
      have H1 : Hid (AtI B w0 ((W.setCell ⟨i, 3, none⟩ (.int .i64 v)).setCell ⟨i, 4, none⟩ (.bool false)) i (lvI st v 0) ss) := Lib.hid (by
        rw [lv_zero]
        refine ⟨{ x with view := v, on := false }, h1, ?_, ?_⟩
        · rw [← hst]; rfl
        · rw [← h1]; exact own_shut hz)
      clear hz h3 ho fz hvw hst hvw2 hn hstn h1
      go_enter Try.func41, Try.ntmps41
      go_wp2_with fail
      generalize (W.setCell ⟨i, 3, none⟩ (.int .i64 v)).setCell ⟨i, 4, none⟩ (.bool false) = w1 at *
      clear c3 c4 c5 z3 z4 hleb h12b l1 l2 hle h12
      go_loopw [28] (fun n wr => ∃ k : Nat, k ≤ 16 ∧ n = .int .i64 k ∧ Hid (AtI B w0 wr i (lvI st v k) ss)) (fun n _ => 16 - (intOf n).toNat)
      case atStart => exact ⟨0, by omega, rfl, H1⟩
      case round =>
        clear H1
        obtain ⟨k, hk, rfl, HK⟩ := hrel
        by_cases hlt : k < 16
        · have hkI : (k : Int) < 16 := by omega
          obtain ⟨y, hy1, hy2, hy3⟩ := HK.out
          have hoy := own_open hy3
          obtain ⟨-, -, -, -, -, c5, -, -⟩ := oi_cells hoy
          rw [hy1] at c5
          have hl : k < y.l.length := by rw [(oi_ok hoy).n]; exact hlt
          have cp := oi_ptr hoy k hl
          have hlf : y.l[k].lc.f = st.f := by rw [(oi_ok hoy).lf _ (by simp)]; exact congrArg In.f hy2
          have HLF := Lib.hid hlf
          have HC := Lib.hid (own_reset (oi_pick hoy k hl))
          have HY1 := Lib.hid hy1
          have HY2 := Lib.hid hy2
          clear hoy hy3 hy1 hy2 hlf
          go_wp2_with fail
          refine HC.out.mono ?_
          rintro e w2 ⟨L', rfl, hf, hs, -, h2⟩
          have h4 := oi_unpick k hl { y.l[k] with lc := L', sl := emptySl y.l[k].lc.f } h2 (by simp [pmCells, hs]) ⟨rfl, rfl⟩ hf
          have H4 := Lib.hid h4
          have hl4 : k < (y.sl k { y.l[k] with lc := L', sl := emptySl y.l[k].lc.f }).l.length := by simpa using hl
          have ht := oi_told h4 k hl4
          obtain ⟨-, -, -, -, -, c5', -, -⟩ := oi_cells h4
          have fz := (oi_fz h4).1 (k * 14 + 1)
          have c5' : w2.cell? ⟨i, 5, none⟩ = some (.slice (some ⟨y.b, 0, none⟩) 16 y.cap) := by rw [← HY1.out]; exact c5'
          clear h2 h4 hf hs HC cp c5
          go_wp2_with fail
          have h5 := oi_put (r := 1) (v := .bool false) (p := { (y.sl k { y.l[k] with lc := L', sl := emptySl y.l[k].lc.f }).l[k] with told := false }) H4.out hl4 rfl rfl ⟨rfl, rfl⟩ (by omega) rfl
          have H5 : Hid (AtI B w0 (w2.setCell ⟨y.b, k * 14 + 1, none⟩ (.bool false)) i (lvI st v (k + 1)) ss) := Lib.hid ⟨(y.sl k { y.l[k] with lc := L', sl := emptySl y.l[k].lc.f }).sl k { (y.sl k { y.l[k] with lc := L', sl := emptySl y.l[k].lc.f }).l[k] with told := false }, HY1.out, by
            rw [st_set _ k hl4 _ (fun p => { p with told := false }) rfl, st_set y k hl _ (fun p => { p with sl := emptySl y.l[k].lc.f }) rfl, upd_upd, HY2.out, HLF.out]
            exact HLS.out k hlt, own_shut h5⟩
          clear h5 ht fz c5'
          go_roundw
          case rel => exact ⟨k + 1, by omega, by go_num, H5⟩
          case measure => simp [intOf]; omega
        · have hk16 : k = 16 := by omega
          subst hk16
          go_wp2_with fail
          go_ret
          rw [HE.out, ← HLA.out]
          exact ⟨rfl, HK.out⟩

end
end Go.Proofs.Ytdeadekeffficaa
