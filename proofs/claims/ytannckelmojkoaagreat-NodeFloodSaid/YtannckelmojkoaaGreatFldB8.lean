/- Parts of the proof, one behind the other. -/
import Derived.Test.YtannckelmojkoaaGreatFldB7

/- inst: Leave. -/
namespace Go.Proofs.YtannckelmojkoaaGreat
open Go.RowKit Go.Heap

section
variable {B : Nat} {w0 W W' : World} {ss rs : List Res} {x : Ins}

/-- One cell of a place is stored that leads nowhere. -/
theorem oi_put {k r : Nat} {v : Value} {p : Pm} (h : OwnI B w0 W x ss) (hk : k < x.l.length) (hl : p.lc = x.l[k].lc) (hs : p.sl = x.l[k].sl) (hc : p.ct = x.l[k].ct ∧ p.dw = x.l[k].dw) (hr : r < 14) (hcells : pmCells p = (pmCells x.l[k]).set r v) :
    OwnI B w0 (W.setCell ⟨x.b, k * 14 + r, none⟩ v) (x.sl k p) ss := by
  have h1 : Own B w0 (W.setCell ⟨x.b, k * 14 + r, none⟩ v) (segR x.b 241 ((x.l.flatMap pmCells).set (k * 14 + r) v) :: blk x.i x.o :: certsR x :: (x.l.map pmR ++ ss)) := Own.put (Own.swap h) (k * 14 + r) v
  rw [flat_set (cells := pmCells) (sz := 14) (fun _ => rfl) x.l k r x.l[k] p v (by simp) hr hcells] at h1
  have h2 : Own B w0 (W.setCell ⟨x.b, k * 14 + r, none⟩ v) (certsR x :: segR x.b 241 ((x.l.set k p).flatMap pmCells) :: blk x.i x.o :: (x.l.map pmR ++ ss)) := h1.rot
  have h3 := h2.alter (r' := certsR (x.sl k p)) (by
    obtain ⟨D, ⟨⟨q1, q2⟩, q3⟩, q4, q5⟩ := h2.head
    refine ⟨D, ⟨⟨⟨by simpa using q1.n, q1.f1, q1.f2, fun p' hp' => ?_, q1.c1, q1.a1, q1.a2, q1.vw⟩, fun p' hp' => ?_⟩, q3⟩, q4, q5⟩
    · rcases List.mem_or_eq_of_mem_set hp' with hp' | rfl
      · exact q1.lf p' hp'
      · rw [hl]; exact q1.lf _ (by simp)
    · rcases List.mem_or_eq_of_mem_set hp' with hp' | rfl
      · exact q2 p' hp'
      · rw [hc.1, hc.2]; exact q2 _ (by simp)) (by simp [certsR, imm])
  have hmap : (x.l.set k p).map pmR = x.l.map pmR := by
    rw [List.map_set, show pmR p = pmR x.l[k] by simp [pmR, hl, hs]]
    conv => lhs; arg 3; rw [← List.getElem_map (f := pmR) (h := by simpa using hk)]
    exact List.set_getElem_self _
  show Own B w0 _ (insHd (x.sl k p) ++ ((x.l.set k p).map pmR ++ ss))
  rw [hmap]
  exact h3.swap.rot

/-- The instance's own block is stored. -/
theorem oi_hd {view : Int} {on : Bool} (h : Own B w0 W (blk x.i (insO x.f x.num x.ahead view on (.slice (some ⟨x.b, 0, none⟩) 16 x.cap)) :: segR x.b 241 (x.l.flatMap pmCells) :: certsR x :: (x.l.map pmR ++ ss))) (hv : 0 ≤ view ∧ view ≤ 12) :
    OwnI B w0 W { x with view := view, on := on } ss := by
  have h2 := h.rot
  have h3 := h2.alter (r' := certsR { x with view := view, on := on }) (by
    obtain ⟨D, ⟨⟨q1, q2⟩, q3⟩, q4, q5⟩ := h2.head
    exact ⟨D, ⟨⟨⟨q1.n, q1.f1, q1.f2, q1.lf, q1.c1, q1.a1, q1.a2, hv⟩, q2⟩, q3⟩, q4, q5⟩) (by simp [certsR, imm])
  exact h3.rot'

def clr (f : Nat) (p : Pl) : Pl := { p with sl := emptySl f, told := false }
/-- A view is left: k slots are empty already. -/
def lvI (st : In) (v : Int) (k : Nat) : In := { st with view := v, on := false, l := (st.l.take k).map (clr st.f) ++ st.l.drop k }

theorem lv_step (st : In) (v : Int) (k : Nat) (hk : k < st.l.length) : (lvI st v k).upd k (clr st.f) = lvI st v (k + 1) := by
  simp only [In.upd, lvI, In.mk.injEq, true_and]
  apply List.ext_getElem?
  intro j
  have hlen : ((st.l.take k).map (clr st.f)).length = k := by simp; omega
  have hlen2 : ((st.l.take (k + 1)).map (clr st.f)).length = k + 1 := by simp; omega
  rw [List.getElem?_modify]
  by_cases h1 : j < k
  · rw [List.getElem?_append_left (by omega), List.getElem?_append_left (by omega)]
    simp only [if_neg (show ¬ k = j by omega), List.getElem?_map, List.getElem?_take_of_lt h1, List.getElem?_take_of_lt (show j < k + 1 by omega)]
    cases st.l[j]? <;> rfl
  · by_cases h2 : j = k
    · subst h2
      rw [List.getElem?_append_right (by omega), List.getElem?_append_left (by omega), hlen]
      simp [List.getElem?_eq_getElem hk]
    · rw [List.getElem?_append_right (by omega), List.getElem?_append_right (by omega), hlen, hlen2]
      simp only [if_neg (show ¬ k = j by omega), List.getElem?_drop]
      rw [show k + (j - k) = j by omega, show k + 1 + (j - (k + 1)) = j by omega]
      cases st.l[j]? <;> rfl

theorem lv_zero (st : In) (v : Int) : lvI st v 0 = { st with view := v, on := false } := by simp [lvI]
theorem lvI_all (st : In) (v : Int) (h : leaveB st v = true) : lvI st v st.l.length = leaveI st v := by
  unfold leaveI
  rw [if_pos h]
  simp [lvI, clr]

set_option maxHeartbeats 2000000 in
set_option maxRecDepth 100000 in
theorem ai_leave {i : Nat} {st : In} (h : AtI B w0 W i st ss) (v : Int) : Calls Tryz.prog 225 #[.pointer (some ⟨i, 0, none⟩), .int .i64 v] W fun e w' => e = .returned (.bool (leaveB st v)) ∧ AtI B w0 w' i (leaveI st v) ss := by
  obtain ⟨x, h1, hst, h3⟩ := h
  have ho := own_open h3
  obtain ⟨-, -, -, c3, c4, c5, l1, l2⟩ := oi_cells ho
  obtain ⟨-, fz⟩ := oi_fz ho
  have hvw : x.view = st.view := by rw [← hst]; rfl
  have z3 := fz 3
  have z4 := fz 4
  have hn := (oi_ok ho).n
  have hvw2 := (oi_ok ho).vw
  rw [h1] at c3 c4 c5 l1 z3 z4
  by_cases hle : v ≤ x.view
  · have HE := Lib.hid (show leaveB st v = false by simp [leaveB]; omega)
    have H := Lib.hid (show AtI B w0 W i st ss from ⟨x, h1, hst, h3⟩)
    clear h3 ho fz z3 z4 c4 c5 hvw hn hst
    go_enter Tryz.func225, Tryz.ntmps225
    go_wp2_with fail
    go_ret
    rw [HE.out, leaveI, if_neg (by rw [HE.out]; simp)]
    exact ⟨rfl, H.out⟩
  · have hleb : decide (v ≤ x.view) = false := by simp; omega
    by_cases h12 : 12 < v
    · have HE := Lib.hid (show leaveB st v = false by simp [leaveB]; omega)
      have H := Lib.hid (show AtI B w0 W i st ss from ⟨x, h1, hst, h3⟩)
      clear h3 ho fz z3 z4 c4 c5 hvw hn hst
      go_enter Tryz.func225, Tryz.ntmps225
      go_wp2_with fail
      go_ret
      rw [HE.out, leaveI, if_neg (by rw [HE.out]; simp)]
      exact ⟨rfl, H.out⟩
    · have h12b : decide (12 < v) = false := by simp; omega
      have HE := Lib.hid (show leaveB st v = true by simp [leaveB]; omega)
      have hstn : st.l.length = 16 := by rw [← hst]; simp [Ins.st, hn]
      have HLA := Lib.hid (by have := lvI_all st v HE.out; rwa [hstn] at this)
      have HLS := Lib.hid (fun k hk => lv_step st v k (by rw [hstn]; exact hk))
      have hz := oi_hd (x := x) (view := v) (on := false) ((Own.store ho 3 (.int .i64 v)).store 4 (.bool false)) (by omega)
      have H1 : Hid (AtI B w0 ((W.setCell ⟨i, 3, none⟩ (.int .i64 v)).setCell ⟨i, 4, none⟩ (.bool false)) i (lvI st v 0) ss) := Lib.hid (by
        rw [lv_zero]
        refine ⟨{ x with view := v, on := false }, h1, ?_, ?_⟩
        · rw [← hst]; rfl
        · rw [← h1]; exact own_shut hz)
      clear hz h3 ho fz hvw hst hvw2 hn hstn h1
      go_enter Tryz.func225, Tryz.ntmps225
      go_wp2_with fail
      generalize (W.setCell ⟨i, 3, none⟩ (.int .i64 v)).setCell ⟨i, 4, none⟩ (.bool false) = w1 at *
      clear c3 c4 c5 z3 z4 hleb h12b l1 l2 hle h12
      go_loopw [28] (fun n wr => ∃ k : Nat, k ≤ 16 ∧ n = .int .i64 k ∧ Hid (AtI B w0 wr i (lvI st v k) ss)) (fun n _ => 16 - (intOf n).toNat)
      case atStart => exact ⟨0, by omega, rfl, H1⟩
      case round =>
        clear H1
        obtain ⟨k, hk, rfl, HK⟩ := hrel
        by_cases hlt : k < 16
        · have hkI : (k : Int) < 16 := by omega
          obtain ⟨y, hy1, hy2, hy3⟩ := HK.out
          have hoy := own_open hy3
          obtain ⟨-, -, -, -, -, c5, -, -⟩ := oi_cells hoy
          rw [hy1] at c5
          have hl : k < y.l.length := by rw [(oi_ok hoy).n]; exact hlt
          have cp := oi_ptr hoy k hl
          have hlf : y.l[k].lc.f = st.f := by rw [(oi_ok hoy).lf _ (by simp)]; exact congrArg In.f hy2
          have HLF := Lib.hid hlf
          have HC := Lib.hid (own_reset (oi_pick hoy k hl))
          have HY1 := Lib.hid hy1
          have HY2 := Lib.hid hy2
          clear hoy hy3 hy1 hy2 hlf
          go_wp2_with fail
          refine HC.out.mono ?_
          rintro e w2 ⟨L', rfl, hf, hs, -, h2⟩
          have h4 := oi_unpick k hl { y.l[k] with lc := L', sl := emptySl y.l[k].lc.f } h2 (by simp [pmCells, hs]) ⟨rfl, rfl⟩ hf
          have H4 := Lib.hid h4
          have hl4 : k < (y.sl k { y.l[k] with lc := L', sl := emptySl y.l[k].lc.f }).l.length := by simpa using hl
          have ht := oi_told h4 k hl4
          obtain ⟨-, -, -, -, -, c5', -, -⟩ := oi_cells h4
          have fz := (oi_fz h4).1 (k * 14 + 1)
          have c5' : w2.cell? ⟨i, 5, none⟩ = some (.slice (some ⟨y.b, 0, none⟩) 16 y.cap) := by rw [← HY1.out]; exact c5'
          clear h2 h4 hf hs HC cp c5
          go_wp2_with fail
          have h5 := oi_put (r := 1) (v := .bool false) (p := { (y.sl k { y.l[k] with lc := L', sl := emptySl y.l[k].lc.f }).l[k] with told := false }) H4.out hl4 rfl rfl ⟨rfl, rfl⟩ (by omega) rfl
          have H5 : Hid (AtI B w0 (w2.setCell ⟨y.b, k * 14 + 1, none⟩ (.bool false)) i (lvI st v (k + 1)) ss) := Lib.hid ⟨(y.sl k { y.l[k] with lc := L', sl := emptySl y.l[k].lc.f }).sl k { (y.sl k { y.l[k] with lc := L', sl := emptySl y.l[k].lc.f }).l[k] with told := false }, HY1.out, by
            rw [st_set _ k hl4 _ (fun p => { p with told := false }) rfl, st_set y k hl _ (fun p => { p with sl := emptySl y.l[k].lc.f }) rfl, upd_upd, HY2.out, HLF.out]
            exact HLS.out k hlt, own_shut h5⟩
          clear h5 ht fz c5'
          go_roundw
          case rel => exact ⟨k + 1, by omega, by go_num, H5⟩
          case measure => simp [intOf]; omega
        · have hk16 : k = 16 := by omega
          subst hk16
          go_wp2_with fail
          go_ret
          rw [HE.out, ← HLA.out]
          exact ⟨rfl, HK.out⟩

end
end Go.Proofs.YtannckelmojkoaaGreat

/- reqs.Has; inst: Used. -/
namespace Go.Proofs.YtannckelmojkoaaGreat
open Go.RowKit Go.Heap

abbrev rqBox (r : Rq) : Obj := .cells #[.int .i64 r.client, .int .i64 r.time, .int .i64 r.kind, .int .i64 r.key, .int .i64 r.val, .int .i64 r.sl] 38 (0, 0)

theorem rq_cells {w : World} {b : Nat} {r : Rq} (h : w.heap[b]? = some (rqBox r)) : w.cell? ⟨b, 0, none⟩ = some (.int .i64 r.client) ∧ w.cell? ⟨b, 1, none⟩ = some (.int .i64 r.time) ∧ w.cell? ⟨b, 2, none⟩ = some (.int .i64 r.kind) ∧
    w.cell? ⟨b, 3, none⟩ = some (.int .i64 r.key) ∧ w.cell? ⟨b, 4, none⟩ = some (.int .i64 r.val) ∧ w.cell? ⟨b, 5, none⟩ = some (.int .i64 r.sl) :=
  ⟨by rw [block_cell h]; rfl, by rw [block_cell h]; rfl, by rw [block_cell h]; rfl, by rw [block_cell h]; rfl, by rw [block_cell h]; rfl, by rw [block_cell h]; rfl⟩

def NoneIn (r : Rq) (l : List Rq) (k : Nat) : Prop := ∀ j (hj : j < l.length), j < k → l[j] ≠ r

set_option maxHeartbeats 1000000 in
set_option maxRecDepth 100000 in
theorem has_any (v : Value) (l : List Rq) (r : Rq) (w : World) (hn : l.length ≤ 100000) (h : Bat w v l) :
    Calls Tryz.prog 216 #[v, .agg #[.int .i64 r.client, .int .i64 r.time, .int .i64 r.kind, .int .i64 r.key, .int .i64 r.val, .int .i64 r.sl]] w fun e w' => e = .returned (.bool (decide (r ∈ l))) ∧ Upd [] w w' := by
  obtain ⟨ao, cap, rfl, h1, h2, h3, h4, h5⟩ := h
  clear h1 h2 h3 h4
  have H5 := Lib.hid h5
  clear h5
  have H0 := Lib.hid ((Own.start (Below.refl w.heap.size w) (Nat.le_refl _)).box (rqBox r))
  go_enter Tryz.func216, Tryz.ntmps216
  go_wp2_with fail
  go_loopw [9] (fun i wr => ∃ k : Nat, k ≤ l.length ∧ i = .int .i64 k ∧ Hid (NoneIn r l k) ∧ Hid (Own w.heap.size w wr [blk w.heap.size (rqBox r)])) (fun i _ => l.length - (intOf i).toNat)
  case atStart => exact ⟨0, by omega, rfl, Lib.hid (by intro j _ hj; omega), H0⟩
  case round =>
    clear H0
    obtain ⟨k, hk, rfl, HN, H1⟩ := hrel
    by_cases hlt : k < l.length
    · have hkI : (k : Int) < (l.length : Int) := by omega
      obtain ⟨b, o, rfl, hbs, hc⟩ := H5.out (by omega)
      obtain ⟨q0, q1, q2, q3, q4, q5⟩ := bat_cells (cells_below H1.out.below hbs hc) k l[k] (by simp)
      clear hc
      have hbx := H1.out.blk_out
      obtain ⟨p0, p1, p2, p3, p4, p5⟩ := rq_cells hbx
      have hlb := block_lt hbx
      have hz := H1.out.below.size
      clear hbx
      have H2 := Lib.hid (H1.out.alloc (rqBox l[k]))
      by_cases he : l[k] = r
      · have heq : ∀ wx, (Op.equalIn 10000 38 (rqAgg l[k]) (rqAgg r)).run Tryz.prog wx = .ok true wx := fun wx => by rw [run_equal_req]; simp [he]
        have HE := Lib.hid he
        clear he
        unfold rqAgg at heq
        have hgd := Tryz.guardReq
        go_wp2_with fail
        go_ret
        refine ⟨ret_bool ?_, Upd.of_below H2.out.below⟩
        symm
        rw [decide_eq_true_iff, ← HE.out]
        exact List.getElem_mem hlt
      · have heq : ∀ wx, (Op.equalIn 10000 38 (rqAgg l[k]) (rqAgg r)).run Tryz.prog wx = .ok false wx := fun wx => by rw [run_equal_req]; simp [he]
        have HE := Lib.hid he
        clear he
        unfold rqAgg at heq
        have hgd := Tryz.guardReq
        go_wp2_with fail
        go_roundw
        case rel =>
          refine ⟨k + 1, by omega, by go_num, Lib.hid (fun j hj hjk => ?_), H2⟩
          by_cases e : j = k
          · subst e; exact HE.out
          · exact HN.out j hj (by omega)
        case measure => simp [intOf]; omega
    · have hkl : k = l.length := by omega
      subst hkl
      have hkI : ¬ (l.length : Int) < (l.length : Int) := by omega
      go_wp2_with fail
      go_ret
      refine ⟨ret_bool ?_, Upd.of_below H1.out.below⟩
      symm
      rw [decide_eq_false_iff_not]
      intro hm
      obtain ⟨j, hj, e⟩ := List.getElem_of_mem hm
      exact HN.out j hj hj e

def NoneP (r : Rq) (l : List Pm) (k : Nat) : Prop := ∀ j (hj : j < l.length), j < k → usedP r l[j].pl = false

section
variable {B : Nat} {w0 W W' : World} {ss rs : List Res}

abbrev pmO (p : Pm) : Obj := .cells #[p.lc.ptr, .bool p.told, .bool p.has, .int .i64 p.ct.view, .int .i64 p.ct.inst, .int .i64 p.ct.seq, p.ct.vb, p.ct.vv, .bool p.done, .int .i64 p.dw.view, .int .i64 p.dw.inst, .int .i64 p.dw.seq, p.dw.vb, p.dw.vv] 241 (0, 0)

theorem oi_row {x : Ins} (h : OwnI B w0 W x ss) (k : Nat) (hk : k < x.l.length) : W.cell? ⟨x.b, k * 14, none⟩ = some x.l[k].lc.ptr ∧ W.cell? ⟨x.b, k * 14 + 1, none⟩ = some (.bool x.l[k].told) ∧ W.cell? ⟨x.b, k * 14 + 2, none⟩ = some (.bool x.l[k].has) ∧
    W.cell? ⟨x.b, k * 14 + 3, none⟩ = some (.int .i64 x.l[k].ct.view) ∧ W.cell? ⟨x.b, k * 14 + 4, none⟩ = some (.int .i64 x.l[k].ct.inst) ∧ W.cell? ⟨x.b, k * 14 + 5, none⟩ = some (.int .i64 x.l[k].ct.seq) ∧ W.cell? ⟨x.b, k * 14 + 6, none⟩ = some x.l[k].ct.vb ∧ W.cell? ⟨x.b, k * 14 + 7, none⟩ = some x.l[k].ct.vv ∧
    W.cell? ⟨x.b, k * 14 + 8, none⟩ = some (.bool x.l[k].done) ∧ W.cell? ⟨x.b, k * 14 + 9, none⟩ = some (.int .i64 x.l[k].dw.view) ∧ W.cell? ⟨x.b, k * 14 + 10, none⟩ = some (.int .i64 x.l[k].dw.inst) ∧ W.cell? ⟨x.b, k * 14 + 11, none⟩ = some (.int .i64 x.l[k].dw.seq) ∧ W.cell? ⟨x.b, k * 14 + 12, none⟩ = some x.l[k].dw.vb ∧ W.cell? ⟨x.b, k * 14 + 13, none⟩ = some x.l[k].dw.vv :=
  ⟨oi_at h k hk 0 (by omega), oi_at h k hk 1 (by omega), oi_at h k hk 2 (by omega), oi_at h k hk 3 (by omega), oi_at h k hk 4 (by omega), oi_at h k hk 5 (by omega), oi_at h k hk 6 (by omega), oi_at h k hk 7 (by omega), oi_at h k hk 8 (by omega), oi_at h k hk 9 (by omega), oi_at h k hk 10 (by omega), oi_at h k hk 11 (by omega), oi_at h k hk 12 (by omega), oi_at h k hk 13 (by omega)⟩

theorem pm_cells {w : World} {b : Nat} {p : Pm} (h : w.heap[b]? = some (pmO p)) : w.cell? ⟨b, 0, none⟩ = some p.lc.ptr ∧ w.cell? ⟨b, 2, none⟩ = some (.bool p.has) ∧ w.cell? ⟨b, 8, none⟩ = some (.bool p.done) ∧ w.cell? ⟨b, 12, none⟩ = some p.dw.vb :=
  ⟨by rw [block_cell h]; rfl, by rw [block_cell h]; rfl, by rw [block_cell h]; rfl, by rw [block_cell h]; rfl⟩

theorem ct_shape {x : Ins} (h : OwnI B w0 W x ss) (k : Nat) (hk : k < x.l.length) : ∃ a1 c1 a2 c2 a3 c3 a4 c4, x.l[k].ct.vb = .slice a1 x.l[k].ct.rs.length c1 ∧ x.l[k].ct.vv = .slice a2 x.l[k].ct.vs.length c2 ∧ x.l[k].dw.vb = .slice a3 x.l[k].dw.rs.length c3 ∧ x.l[k].dw.vv = .slice a4 x.l[k].dw.vs.length c4 := by
  obtain ⟨⟨h1, h2, _⟩, h3, h4, _⟩ := oi_cert h k hk
  obtain ⟨a1, c1, e1⟩ := bat_form h1
  obtain ⟨a2, c2, e2⟩ := vts_form h2
  obtain ⟨a3, c3, e3⟩ := bat_form h3
  obtain ⟨a4, c4, e4⟩ := vts_form h4
  exact ⟨a1, c1, a2, c2, a3, c3, a4, c4, e1, e2, e3, e4⟩

theorem any_of {x : Ins} {r : Rq} {k : Nat} (hk : k < x.l.length) (h : usedP r x.l[k].pl = true) : usedI x.st r = true := by
  simp only [usedI, Ins.st, List.any_map, List.any_eq_true]
  exact ⟨x.l[k], by simp, h⟩
theorem any_none {x : Ins} {r : Rq} (hn : x.l.length = 16) (h : NoneP r x.l 16) : usedI x.st r = false := by
  simp only [usedI, Ins.st, List.any_map, List.any_eq_false]
  intro p hp
  obtain ⟨j, hj, rfl⟩ := List.getElem_of_mem hp
  simpa using h j hj (by omega)

set_option maxHeartbeats 2000000 in
set_option maxRecDepth 100000 in
theorem ai_used {i : Nat} {st : In} (h : AtI B w0 W i st ss) (r : Rq) : Calls Tryz.prog 158 #[.pointer (some ⟨i, 0, none⟩), .agg #[.int .i64 r.client, .int .i64 r.time, .int .i64 r.kind, .int .i64 r.key, .int .i64 r.val, .int .i64 r.sl]] W fun e w' => e = .returned (.bool (usedI st r)) ∧ Upd [] W w' := by
  obtain ⟨x, rfl, rfl, h3⟩ := h
  have h0 := own_open (h3.box (rqBox r)).swap
  have hu0 : Upd [] W (W.alloc (rqBox r)) := (Upd.refl _ _).alloc _
  have H0 := Lib.hid h0
  have HU0 := Lib.hid hu0
  have HN := Lib.hid (oi_ok h0).n
  obtain ⟨-, -, -, -, -, c5, l1, l2⟩ := oi_cells h0
  clear h3 h0 hu0
  go_enter Tryz.func158, Tryz.ntmps158
  go_wp2_with fail
  generalize W.alloc (rqBox r) = w1 at *
  go_loopw [14] (fun n wr => ∃ k : Nat, k ≤ 16 ∧ n = .int .i64 k ∧ Hid (NoneP r x.l k) ∧ Hid (Upd [] w1 wr)) (fun n _ => 16 - (intOf n).toNat)
  case atStart => exact ⟨0, by omega, rfl, Lib.hid (by intro j _ hj; omega), Lib.hid (Upd.refl _ _)⟩
  case round =>
    clear c5
    obtain ⟨k, hk, rfl, HA, HU⟩ := hrel
    by_cases hlt : k < 16
    · have hkI : (k : Int) < 16 := by omega
      have hl : k < x.l.length := by rw [HN.out]; exact hlt
      have h1 := Own.upd0 H0.out HU.out
      obtain ⟨a1, e1, a2, e2, a3, e3, a4, e4, s1, s2, s3, s4⟩ := ct_shape h1 k hl
      obtain ⟨g0, g1, g2, g3, g4, g5, g6, g7, g8, g9, g10, g11, g12, g13⟩ := oi_row h1 k hl
      rw [s1] at g6; rw [s2] at g7; rw [s3] at g12; rw [s4] at g13
      have hdl := (oi_cert h1 k hl).2.2.2.1
      have S3 := Lib.hid s3
      have HC := Lib.hid (own_chosen (oi_pick (Own.alloc h1 (.cells #[x.l[k].lc.ptr, .bool x.l[k].told, .bool x.l[k].has, .int .i64 x.l[k].ct.view, .int .i64 x.l[k].ct.inst, .int .i64 x.l[k].ct.seq, .slice a1 x.l[k].ct.rs.length e1, .slice a2 x.l[k].ct.vs.length e2, .bool x.l[k].done, .int .i64 x.l[k].dw.view, .int .i64 x.l[k].dw.inst, .int .i64 x.l[k].dw.seq, .slice a3 x.l[k].dw.rs.length e3, .slice a4 x.l[k].dw.vs.length e4] 241 (0, 0))) k hl))
      have HBX := Lib.hid ((own_shut (Own.alloc h1 (.cells #[x.l[k].lc.ptr, .bool x.l[k].told, .bool x.l[k].has, .int .i64 x.l[k].ct.view, .int .i64 x.l[k].ct.inst, .int .i64 x.l[k].ct.seq, .slice a1 x.l[k].ct.rs.length e1, .slice a2 x.l[k].ct.vs.length e2, .bool x.l[k].done, .int .i64 x.l[k].dw.view, .int .i64 x.l[k].dw.inst, .int .i64 x.l[k].dw.seq, .slice a3 x.l[k].dw.rs.length e3, .slice a4 x.l[k].dw.vs.length e4] 241 (0, 0)))).drop.blk_out)
      have HPX := Lib.hid (heap_alloc_new wr (.cells #[x.l[k].lc.ptr, .bool x.l[k].told, .bool x.l[k].has, .int .i64 x.l[k].ct.view, .int .i64 x.l[k].ct.inst, .int .i64 x.l[k].ct.seq, .slice a1 x.l[k].ct.rs.length e1, .slice a2 x.l[k].ct.vs.length e2, .bool x.l[k].done, .int .i64 x.l[k].dw.view, .int .i64 x.l[k].dw.inst, .int .i64 x.l[k].dw.seq, .slice a3 x.l[k].dw.rs.length e3, .slice a4 x.l[k].dw.vs.length e4] 241 (0, 0)))
      have HUA := Lib.hid (HU.out.alloc (.cells #[x.l[k].lc.ptr, .bool x.l[k].told, .bool x.l[k].has, .int .i64 x.l[k].ct.view, .int .i64 x.l[k].ct.inst, .int .i64 x.l[k].ct.seq, .slice a1 x.l[k].ct.rs.length e1, .slice a2 x.l[k].ct.vs.length e2, .bool x.l[k].done, .int .i64 x.l[k].dw.view, .int .i64 x.l[k].dw.inst, .int .i64 x.l[k].dw.seq, .slice a3 x.l[k].dw.rs.length e3, .slice a4 x.l[k].dw.vs.length e4] 241 (0, 0)))
      have HSM := Lib.hid (own_small (oi_pick h1 k hl)).1
      clear h1 s1 s2 s3 s4
      go_wp2_with fail
      generalize wr.alloc (.cells #[x.l[k].lc.ptr, .bool x.l[k].told, .bool x.l[k].has, .int .i64 x.l[k].ct.view, .int .i64 x.l[k].ct.inst, .int .i64 x.l[k].ct.seq, .slice a1 x.l[k].ct.rs.length e1, .slice a2 x.l[k].ct.vs.length e2, .bool x.l[k].done, .int .i64 x.l[k].dw.view, .int .i64 x.l[k].dw.inst, .int .i64 x.l[k].dw.seq, .slice a3 x.l[k].dw.rs.length e3, .slice a4 x.l[k].dw.vs.length e4] 241 (0, 0)) = w2 at *
      clear g0 g1 g2 g3 g4 g5 g6 g7 g8 g9 g10 g11 g12 g13
      refine HC.out.mono ?_
      rintro e w3 ⟨u, rfl, hu3, hb3, -⟩
      have HU3 := Lib.hid (HUA.out.trans hu3)
      have HB3 := Lib.hid hb3
      have lb := block_lt HBX.out
      have lp := block_lt HPX.out
      have hbx := (hu3.block _ lb (by simp)).trans HBX.out
      have hpx := (hu3.block _ lp (by simp)).trans HPX.out
      obtain ⟨p0, p1, p2, p3, p4, p5⟩ := rq_cells hbx
      have HBX3 := Lib.hid hbx
      have HPX3 := Lib.hid hpx
      have d8 : w3.cell? ⟨wr.heap.size, 8, none⟩ = some (.bool x.l[k].done) := by rw [block_cell hpx]; rfl
      have d12 : w3.cell? ⟨wr.heap.size, 12, none⟩ = some (.slice a3 x.l[k].dw.rs.length e3) := by rw [block_cell hpx]; rfl
      have hsm : (chosenS x.l[k].sl).length ≤ 100000 := by unfold chosenS; split; exact HSM.out; simp
      clear hu3 hb3 HC HBX HPX HUA hbx hpx lb lp
      generalize wr.heap.size = bx at *
      cases hh : x.l[k].sl.has
      · have HHS := Lib.hid hh
        clear hh
        cases hd : x.l[k].done
        · rw [hd] at d8
          have HDN := Lib.hid hd
          clear hd
          go_wp2_with fail
          go_roundw
          case rel =>
            refine ⟨k + 1, by omega, by go_num, Lib.hid (fun j hj hjk => ?_), HU3⟩
            by_cases e : j = k
            · subst e; simp only [usedP, Pm.pl, Ct.cp]; rw [HHS.out, HDN.out]; simp_all
            · exact HA.out j hj (by omega)
          case measure => simp [intOf]; omega
        · rw [hd] at d8
          have HDN := Lib.hid hd
          clear hd
          have HB3 := Lib.hid ((oi_cert (Own.upd0 H0.out HU3.out) k hl).2.1)
          go_wp2_with fail
          refine (has_any _ x.l[k].dw.rs r _ hdl (by rw [← S3.out]; exact HB3.out)).mono ?_
          rintro e w4 ⟨rfl, hu4⟩
          have HU4 := Lib.hid (HU3.out.trans hu4)
          clear hu4
          cases hq : decide (r ∈ x.l[k].dw.rs)
          · have HQ2 := hq
            go_wp2_with fail
            go_roundw
            case rel =>
              refine ⟨k + 1, by omega, by go_num, Lib.hid (fun j hj hjk => ?_), HU4⟩
              by_cases e : j = k
              · subst e; simp only [usedP, Pm.pl, Ct.cp]; rw [HHS.out, HDN.out]; simp_all
              · exact HA.out j hj (by omega)
            case measure => simp [intOf]; omega
          · have HQ2 := hq
            go_wp2_with fail
            go_ret
            refine ⟨ret_bool ?_, HU0.out.trans HU4.out⟩
            symm
            exact any_of (x := x) hl (by simp only [usedP, Pm.pl, Ct.cp]; rw [HHS.out, HDN.out]; simp_all)
      · have HHS := Lib.hid hh
        clear hh
        go_wp2_with fail
        refine (has_any _ (chosenS x.l[k].sl) r _ hsm HB3.out).mono ?_
        rintro e w5 ⟨rfl, hu5⟩
        have HU5 := Lib.hid (HU3.out.trans hu5)
        have hbx := (hu5.block _ (block_lt HBX3.out) (by simp)).trans HBX3.out
        have hpx := (hu5.block _ (block_lt HPX3.out) (by simp)).trans HPX3.out
        clear p0 p1 p2 p3 p4 p5 d8 d12 hu5
        obtain ⟨p0, p1, p2, p3, p4, p5⟩ := rq_cells hbx
        have d8 : w5.cell? ⟨bx, 8, none⟩ = some (.bool x.l[k].done) := by rw [block_cell hpx]; rfl
        have d12 : w5.cell? ⟨bx, 12, none⟩ = some (.slice a3 x.l[k].dw.rs.length e3) := by rw [block_cell hpx]; rfl
        clear hbx hpx HBX3 HPX3
        cases hq1 : decide (r ∈ chosenS x.l[k].sl)
        · have HQ1 := hq1
          cases hd : x.l[k].done
          · rw [hd] at d8
            have HDN := Lib.hid hd
            clear hd
            go_wp2_with fail
            go_roundw
            case rel =>
              refine ⟨k + 1, by omega, by go_num, Lib.hid (fun j hj hjk => ?_), HU5⟩
              by_cases e : j = k
              · subst e; simp only [usedP, Pm.pl, Ct.cp]; rw [HHS.out, HDN.out]; simp_all
              · exact HA.out j hj (by omega)
            case measure => simp [intOf]; omega
          · rw [hd] at d8
            have HDN := Lib.hid hd
            clear hd
            have HB3 := Lib.hid ((oi_cert (Own.upd0 H0.out HU5.out) k hl).2.1)
            go_wp2_with fail
            refine (has_any _ x.l[k].dw.rs r _ hdl (by rw [← S3.out]; exact HB3.out)).mono ?_
            rintro e w4 ⟨rfl, hu4⟩
            have HU4 := Lib.hid (HU5.out.trans hu4)
            clear hu4
            cases hq : decide (r ∈ x.l[k].dw.rs)
            · have HQ2 := hq
              go_wp2_with fail
              go_roundw
              case rel =>
                refine ⟨k + 1, by omega, by go_num, Lib.hid (fun j hj hjk => ?_), HU4⟩
                by_cases e : j = k
                · subst e; simp only [usedP, Pm.pl, Ct.cp]; rw [HHS.out, HDN.out]; simp_all
                · exact HA.out j hj (by omega)
              case measure => simp [intOf]; omega
            · have HQ2 := hq
              go_wp2_with fail
              go_ret
              refine ⟨ret_bool ?_, HU0.out.trans HU4.out⟩
              symm
              exact any_of (x := x) hl (by simp only [usedP, Pm.pl, Ct.cp]; rw [HHS.out, HDN.out]; simp_all)
        · have HQ1 := hq1
          cases hd : x.l[k].done
          · have HDN := Lib.hid hd
            clear hd
            go_wp2_with fail
            go_ret
            refine ⟨ret_bool ?_, HU0.out.trans HU5.out⟩
            symm
            exact any_of (x := x) hl (by simp only [usedP, Pm.pl, Ct.cp]; rw [HHS.out, HDN.out]; simp_all)
          · have HDN := Lib.hid hd
            clear hd
            go_wp2_with fail
            go_ret
            refine ⟨ret_bool ?_, HU0.out.trans HU5.out⟩
            symm
            exact any_of (x := x) hl (by simp only [usedP, Pm.pl, Ct.cp]; rw [HHS.out, HDN.out]; simp_all)
    · have hk16 : k = 16 := by omega
      subst hk16
      go_wp2_with fail
      go_ret
      refine ⟨ret_bool ?_, HU0.out.trans HU.out⟩
      symm
      exact any_none (x := x) HN.out HA.out

end
end Go.Proofs.YtannckelmojkoaaGreat

/- inst: Prepared. -/
namespace Go.Proofs.YtannckelmojkoaaGreat
open Go.RowKit Go.Heap

section
variable {B : Nat} {w0 W W' : World} {ss rs : List Res} {x : Ins}

theorem prep_off {seq : Int} {st : In} (h : prepI st seq = none) : preparedI st seq = st := by
  unfold preparedI; rw [h]; cases idx seq <;> rfl

theorem prep_some {f : Nat} {st : Sl} {vs : Vs} (h : preparedS f st = some vs) : st.has = true ∧ chosenS st = st.batch ∧ vs.length ≤ 2 * f + 1 := by
  unfold preparedS at h
  split at h
  · rename_i hh
    exact ⟨hh, by unfold chosenS; rw [if_pos hh], en_votes h⟩
  · cases h

set_option maxHeartbeats 2000000 in
set_option maxRecDepth 100000 in
theorem ins_prepared (h : Own B w0 W (instR x :: ss)) {i : Nat} (hi : x.i = i) (seq : Int) : Calls Tryz.prog 255 #[.pointer (some ⟨i, 0, none⟩), .int .i64 seq] W (CertP B w0 W i (prepI x.st seq) (preparedI x.st seq) ss) := by
  subst hi
  have hz := own_open (h.box zct).swap
  obtain ⟨-, -, -, -, c4, c5, l1, l2⟩ := oi_cells hz
  cases hk : idx seq with
  | none =>
    have hs := idx_none hk
    have HE := Lib.hid (show prepI x.st seq = none by simp [prepI, plAt_none hk])
    have HA := Lib.hid (at_no x.i x.b x.cap seq _ hs c5)
    have H := Lib.hid h
    clear hz h hk hs c5 c4
    go_enter Tryz.func255, Tryz.ntmps255
    go_wp2_with fail
    refine HA.out.mono ?_
    rintro e w' ⟨rfl, rfl⟩
    go_wp2_with fail
    exact bodyPost_ret (v := .tuple #[ctAgg noCt, .bool false]) (by simp [results, Tryz.results255, go_sem, noCt]) rfl (certP_none (H.out.upd0 ((Upd.refl _ _).alloc _)) HE.out (prep_off HE.out))
  | some k =>
    obtain ⟨hl, hp⟩ := plAt_some (oi_ok hz) hk
    obtain ⟨i1, i2⟩ := idx_lt hk
    have HA := Lib.hid (at_yes x.i x.b x.cap seq _ (by omega) (by omega) c5)
    have hks : seq.toNat - 1 = k := by omega
    rw [hks] at HA
    have cp := oi_ptr hz k hl
    have cd := oi_told hz k hl
    have HLF := Lib.hid ((oi_ok hz).lf _ (List.getElem_mem hl))
    have HF4 := Lib.hid (oi_ok hz).f2
    cases hon : x.on
    · rw [hon] at c4
      have HE := Lib.hid (show prepI x.st seq = none by simp only [prepI, hp]; simp [Ins.st, hon])
      have H := Lib.hid h
      clear hz h hk hp i2 hks hon c5 cp cd
      go_enter Tryz.func255, Tryz.ntmps255
      go_wp2_with fail
      refine HA.out.mono ?_
      rintro e w' ⟨rfl, rfl⟩
      go_wp2_with fail
      exact bodyPost_ret (v := .tuple #[ctAgg noCt, .bool false]) (by simp [results, Tryz.results255, go_sem, noCt]) rfl (certP_none (H.out.upd0 ((Upd.refl _ _).alloc _)) HE.out (prep_off HE.out))
    rw [hon] at c4
    cases hd : x.l[k].told
    · rw [hd] at cd
      have HC := Lib.hid (own_prepared (oi_pick hz k hl))
      have HSM := Lib.hid (own_small (oi_pick hz k hl)).1
      have HCI := Lib.hid (show prepI x.st seq = (preparedS x.f x.l[k].sl).map fun vs => ⟨x.view, x.num, seq, x.l[k].sl.batch, vs⟩ by simp only [prepI, hp]; simp [Pm.pl, Ins.st, hd, hon])
      have HZ := Lib.hid hz
      have H := Lib.hid h
      have HK := Lib.hid hk
      clear hz h hk hp i2 hks hd hon
      go_enter Tryz.func255, Tryz.ntmps255
      go_wp2_with fail
      refine HA.out.mono ?_
      rintro e w' ⟨rfl, rfl⟩
      go_wp2_with fail
      refine HC.out.mono ?_
      rintro e w2 ⟨u, rfl, hu, hv, n2⟩
      rw [HLF.out] at hv ⊢
      cases hcm : preparedS x.f x.l[k].sl with
      | none =>
        rw [hcm] at HCI hv
        obtain ⟨co, cav, rfl⟩ := vts_form hv
        have H3 := Lib.hid ((own_shut HZ.out).upd0 hu)
        have fz := fun o => block_frozen H3.out.drop.blk_out o
        have hbx := H3.out.drop.blk_out
        have HBX := Lib.hid hbx
        obtain ⟨f0, f1, f2, f3, f4, fl, -⟩ := ct_cells hbx
        have fz0 := fz 0
        have fz1 := fz 1
        have fz2 := fz 2
        have fz3 := fz 3
        have fz4 := fz 4
        clear hbx fz hcm hu hv n2 HA HC cp cd c4 c5
        go_wp2_with fail
        have H4 := Lib.hid (own_st5 H3.out.swap 0 0 0 (.slice none 0 0) (.slice none 0 0))
        generalize ((((w2.setCell ⟨W.heap.size, 0, none⟩ (.int .i64 0)).setCell ⟨W.heap.size, 1, none⟩ (.int .i64 0)).setCell ⟨W.heap.size, 2, none⟩ (.int .i64 0)).setCell ⟨W.heap.size, 3, none⟩ (.slice none 0 0)).setCell ⟨W.heap.size, 4, none⟩ (.slice none 0 0) = w4 at *
        clear f0 f1 f2 f3 f4 fl fz0 fz1 fz2 fz3 fz4 HBX
        obtain ⟨f0, f1, f2, f3, f4, fl, -⟩ := ct_cells H4.out.blk_out
        exact bodyPost_ret (v := .tuple #[ctAgg noCt, .bool false]) (by simp [results, Tryz.results255, go_sem, noCt, f0, f1, f2, f3, f4]) rfl (certP_none H4.out.drop HCI.out (prep_off HCI.out))
      | some vs =>
        rw [hcm] at HCI hv
        obtain ⟨s1, s2, s3⟩ := prep_some hcm
        have HS2 := Lib.hid s2
        have hnv : vs.length ≤ 100000 := by have := HF4.out; omega
        obtain ⟨co, cav, rfl⟩ := vts_form hv
        have hz2 := Own.upd0 HZ.out hu
        have cp2 := oi_ptr hz2 k hl
        have HC2 := Lib.hid (own_chosen (oi_pick hz2 k hl))
        have HU := Lib.hid hu
        have HV := Lib.hid (show Vts w2 (.slice co vs.length cav) vs from hv)
        have N2 := Lib.hid n2
        clear hcm hu hv n2 HA HC cp cd c4 c5 s1 s2 s3 hz2
        go_wp2_with fail
        refine HC2.out.mono ?_
        rintro e w2b ⟨ub, rfl, hub, hbb, n1⟩
        rw [HS2.out] at hbb
        obtain ⟨ao, cap, rfl⟩ := bat_form hbb
        have hsz2 := HU.out.size
        have H2 := Lib.hid (own_red2 HZ.out (HU.out.trans hub) hbb (Reads.upd HV.out hub (by simp)) (fun k hk => Nat.le_trans hsz2 (n1 k hk)) N2.out)
        have hnb := HSM.out
        have HB2 := Lib.hid (oi_blk H2.out.drop.drop)
        clear hub hbb n1 HC2 cp2 hsz2 HU HV N2
        go_wp2_with fail
        refine (cert_any x.i x.f x.num x.ahead x.view x.on _ seq ao _ cap co _ cav _ HB2.out).mono ?_
        rintro e w3 ⟨rfl, hu3⟩
        have H3 := Lib.hid (H2.out.upd0 hu3)
        clear hu3 H2 HB2
        have ho3 := H3.out.drop.drop
        have c1 := oi_at ho3 k hl 1 (by omega)
        have c2 := oi_at ho3 k hl 2 (by omega)
        have c3 := oi_at ho3 k hl 3 (by omega)
        have c4 := oi_at ho3 k hl 4 (by omega)
        have c5 := oi_at ho3 k hl 5 (by omega)
        have c6 := oi_at ho3 k hl 6 (by omega)
        have c7 := oi_at ho3 k hl 7 (by omega)
        obtain ⟨fzb, -⟩ := oi_fz ho3
        have z1 := fzb (k * 14 + 1)
        have z2 := fzb (k * 14 + 2)
        have z3 := fzb (k * 14 + 3)
        have z4 := fzb (k * 14 + 4)
        have z5 := fzb (k * 14 + 5)
        have z6 := fzb (k * 14 + 6)
        have z7 := fzb (k * 14 + 7)
        clear ho3 fzb
        simp only [pmCells, List.getElem?_cons_succ, List.getElem?_cons_zero] at c1 c2 c3 c4 c5 c6 c7
        go_wp2_with fail
        have H4 := Lib.hid (oi_ct H3.out k hl x.view x.num seq hnb hnv)
        generalize ((((((w3.setCell ⟨x.b, k * 14 + 1, none⟩ (.bool true)).setCell ⟨x.b, k * 14 + 2, none⟩ (.bool true)).setCell ⟨x.b, k * 14 + 3, none⟩ (.int .i64 x.view)).setCell ⟨x.b, k * 14 + 3 + 1, none⟩ (.int .i64 x.num)).setCell ⟨x.b, k * 14 + 3 + 2, none⟩ (.int .i64 seq)).setCell ⟨x.b, k * 14 + 3 + 3, none⟩ (.slice ao x.l[k].sl.batch.length cap)).setCell ⟨x.b, k * 14 + 3 + 4, none⟩ (.slice co vs.length cav) = w4 at *
        clear c1 c2 c3 c4 c5 c6 c7 z1 z2 z3 z4 z5 z6 z7 H3
        have hq := (oi_cert H4.out k (by simpa using hl)).1
        simp only [List.getElem_set_self] at hq
        obtain ⟨q1, q2, q3, q4⟩ := hq
        have HF := Lib.hid (fresh_ct ⟨x.view, x.num, seq, .slice ao x.l[k].sl.batch.length cap, .slice co vs.length cav, x.l[k].sl.batch, vs⟩ w4 q1 q3 q2 q4)
        clear q1 q2 q3 q4
        have H4L := Lib.hid (show W.heap.size < w4.heap.size from block_lt (own_shut H4.out).drop.blk_out)
        refine HF.out.mono ?_
        rintro e w5 ⟨⟨view', inst', seq', vb', vv', rs', vs'⟩, rfl, hcp, hu5, hb5, hv5, nb, nv⟩
        simp only at hb5 hv5 nb nv
        obtain ⟨ao6, cap6, rfl⟩ := bat_form hb5
        obtain ⟨co6, cav6, rfl⟩ := vts_form hv5
        have H5 := Lib.hid ((own_red2 (own_shut H4.out).swap hu5 hb5 hv5 nb nv).rot)
        have HCP := Lib.hid hcp
        have HB5 := Lib.hid hb5
        have HV5 := Lib.hid hv5
        have NB := Lib.hid nb
        have NV := Lib.hid nv
        clear hcp hu5 hb5 hv5 nb nv H4 HF
        obtain ⟨f0, f1, f2, f3, f4, fl, fz⟩ := ct_cells H5.out.blk_out
        have fz0 := fz 0
        have fz1 := fz 1
        have fz2 := fz 2
        have fz3 := fz 3
        have fz4 := fz 4
        clear fz
        go_wp2_with fail
        have H6 := Lib.hid (own_st5 H5.out view' inst' seq' (.slice ao6 rs'.length cap6) (.slice co6 vs'.length cav6))
        have HU6 := Lib.hid (upd_st5 w5 W.heap.size view' inst' seq' (.slice ao6 rs'.length cap6) (.slice co6 vs'.length cav6))
        generalize ((((w5.setCell ⟨W.heap.size, 0, none⟩ (.int .i64 view')).setCell ⟨W.heap.size, 1, none⟩ (.int .i64 inst')).setCell ⟨W.heap.size, 2, none⟩ (.int .i64 seq')).setCell ⟨W.heap.size, 3, none⟩ (.slice ao6 rs'.length cap6)).setCell ⟨W.heap.size, 4, none⟩ (.slice co6 vs'.length cav6) = w6 at *
        clear f0 f1 f2 f3 f4 fl fz0 fz1 fz2 fz3 fz4 H5
        obtain ⟨f0, f1, f2, f3, f4, fl, -⟩ := ct_cells H6.out.blk_out
        refine bodyPost_ret (v := .tuple #[ctAgg ⟨view', inst', seq', .slice ao6 rs'.length cap6, .slice co6 vs'.length cav6, rs', vs'⟩, .bool true]) (by simp [results, Tryz.results255, go_sem, f0, f1, f2, f3, f4]) rfl ?_
        have hcp := HCP.out
        simp only [Ct.cp, Cp.mk.injEq] at hcp
        obtain ⟨e1, e2, e3, e4, e5⟩ := hcp
        have hnew : ∀ (v : Value), (∀ k ∈ blkOf v, w4.heap.size ≤ k) → (∀ k ∈ blkOf v, W.heap.size ≤ k) ∧ ∀ k ∈ blkOf v, k ∉ [W.heap.size] := fun v hv => ⟨fun k hk => by have := hv k hk; have := H4L.out; omega, fun k hk hn => by have := hv k hk; have := H4L.out; simp at hn; omega⟩
        refine ⟨⟨view', inst', seq', .slice ao6 rs'.length cap6, .slice co6 vs'.length cav6, rs', vs'⟩, ?_, ?_, ⟨by simp only [e4]; exact hnb, by simp only [e5]; exact hnv⟩, HB5.out.upd HU6.out (hnew _ NB.out).2, Reads.upd HV5.out HU6.out (hnew _ NV.out).2, (hnew _ NB.out).1, (hnew _ NV.out).1,
          x.sl k { x.l[k] with told := true, has := true, ct := ⟨x.view, x.num, seq, .slice ao x.l[k].sl.batch.length cap, .slice co vs.length cav, x.l[k].sl.batch, vs⟩ }, rfl, ?_, H6.out.drop⟩
        · rw [HCI.out]; rfl
        · rw [HCI.out]
          simp only [Ct.cp, Option.map_some, Option.getD_some, Cp.mk.injEq]
          exact ⟨e1, e2, e3, e4, e5⟩
        · rw [show preparedI x.st seq = x.st.upd k fun p => { p with told := true, has := true, ct := ⟨x.view, x.num, seq, x.l[k].sl.batch, vs⟩ } by simp [preparedI, HK.out, HCI.out]]
          exact st_set x k hl _ _ rfl
    · rw [hd] at cd
      have HE := Lib.hid (show prepI x.st seq = none by simp only [prepI, hp]; simp [Pm.pl, hd])
      have H := Lib.hid h
      clear hz h hk hp i2 hks hd hon c5 cp
      go_enter Tryz.func255, Tryz.ntmps255
      go_wp2_with fail
      refine HA.out.mono ?_
      rintro e w' ⟨rfl, rfl⟩
      go_wp2_with fail
      exact bodyPost_ret (v := .tuple #[ctAgg noCt, .bool false]) (by simp [results, Tryz.results255, go_sem, noCt]) rfl (certP_none (H.out.upd0 ((Upd.refl _ _).alloc _)) HE.out (prep_off HE.out))

theorem ai_prepared {i : Nat} {st : In} (h : AtI B w0 W i st ss) (seq : Int) : Calls Tryz.prog 255 #[.pointer (some ⟨i, 0, none⟩), .int .i64 seq] W fun e w' => ∃ c : Ct, e = .returned (.tuple #[ctAgg c, .bool (prepI st seq).isSome]) ∧ Told W w' (prepI st seq) c ∧ AtI B w0 w' i (preparedI st seq) ss := by
  obtain ⟨x, h1, rfl, h3⟩ := h
  refine (ins_prepared h3 h1 seq).mono ?_
  rintro e w' ⟨c, he, hc, hn, hb, hv, n1, n2, x', e1, e2, e3⟩
  exact ⟨c, he, ⟨hc, hn, hb, hv, n1, n2⟩, x', e1, e2, e3.drop.drop⟩

theorem ai_prepared2 {i : Nat} {st : In} (h : AtI B w0 W i st ss) (seq : Int) : Calls Tryz.prog 255 #[.pointer (some ⟨i, 0, none⟩), .int .i64 seq] W fun e w' => ∃ c : Ct, e = .returned (.tuple #[ctAgg c, .bool (prepI st seq).isSome]) ∧ Told W w' (prepI st seq) c ∧
    AtI B w0 w' i (preparedI st seq) (redR c.vv 2 c.vs.length (vsCells c.vs) :: redR c.vb 6 c.rs.length (rqsCells c.rs) :: ss) := by
  obtain ⟨x, h1, rfl, h3⟩ := h
  refine (ins_prepared h3 h1 seq).mono ?_
  rintro e w' ⟨c, he, hc, hn, hb, hv, n1, n2, x', e1, e2, e3⟩
  exact ⟨c, he, ⟨hc, hn, hb, hv, n1, n2⟩, x', e1, e2, e3.rot⟩

theorem ai_commits2 {i : Nat} {st : In} (h : AtI B w0 W i st ss) (seq : Int) : Calls Tryz.prog 256 #[.pointer (some ⟨i, 0, none⟩), .int .i64 seq] W fun e w' => ∃ c : Ct, e = .returned (.tuple #[ctAgg c, .bool (commI st seq).isSome]) ∧ Told W w' (commI st seq) c ∧
    AtI B w0 w' i (commitsI st seq) (redR c.vv 2 c.vs.length (vsCells c.vs) :: redR c.vb 6 c.rs.length (rqsCells c.rs) :: ss) := by
  obtain ⟨x, h1, rfl, h3⟩ := h
  refine (ins_commits h3 h1 seq).mono ?_
  rintro e w' ⟨c, he, hc, hn, hb, hv, n1, n2, x', e1, e2, e3⟩
  exact ⟨c, he, ⟨hc, hn, hb, hv, n1, n2⟩, x', e1, e2, e3.rot⟩

end
end Go.Proofs.YtannckelmojkoaaGreat

/- inst: Install (of nothing); Certs. -/
namespace Go.Proofs.YtannckelmojkoaaGreat
open Go.RowKit Go.Heap

theorem Tryz.infoCert : (Tryz.prog.info? 42).map (fun i => (i.zero, i.size, i.bytes)) = some (some (.agg #[.int .i64 0, .int .i64 0, .int .i64 0, .slice none 0 0, .slice none 0 0]), 5, 72) := by kernel_rfl

section
variable {B : Nat} {w0 W W' : World} {ss rs : List Res} {x : Ins}

set_option maxHeartbeats 1000000 in
theorem ai_install0 {i : Nat} {st : In} (h : AtI B w0 W i st ss) : Calls Tryz.prog 268 #[.pointer (some ⟨i, 0, none⟩), .slice none 0 0] W fun e w' => e = .returned (.bool (!st.on)) ∧ AtI B w0 w' i { st with on := true } ss := by
  obtain ⟨x, rfl, rfl, h3⟩ := h
  have ho := own_open h3
  obtain ⟨-, -, -, -, c4, c5, l1, l2⟩ := oi_cells ho
  obtain ⟨-, fz⟩ := oi_fz ho
  have z4 := fz 4
  cases hon : x.on
  · rw [hon] at c4
    have H1 : Hid (AtI B w0 (W.setCell ⟨x.i, 4, none⟩ (.bool true)) x.i { x.st with on := true } ss) := Lib.hid ⟨{ x with on := true }, rfl, rfl, own_shut (by
      have h4 : Own B w0 (W.setCell ⟨x.i, 4, none⟩ (.bool true)) (blk x.i (insO x.f x.num x.ahead x.view true (.slice (some ⟨x.b, 0, none⟩) 16 x.cap)) :: segR x.b 241 (x.l.flatMap pmCells) :: certsR x :: (x.l.map pmR ++ ss)) := Own.store ho 4 (.bool true)
      exact oi_hd h4 (oi_ok ho).vw)⟩
    have HON := Lib.hid (show x.st.on = false from hon)
    clear ho h3 fz hon
    go_enter Tryz.func268, Tryz.ntmps268
    go_wp2_with fail
    generalize W.setCell ⟨x.i, 4, none⟩ (.bool true) = w1 at *
    go_loop [26] (fun n => n = .int .i64 0) (fun n => 0)
    case atStart => rfl
    case round =>
      subst hrel
      go_wp2_with fail
      go_ret
      rw [HON.out]
      exact ⟨rfl, H1.out⟩
  · rw [hon] at c4
    have H1 : Hid (AtI B w0 W x.i { x.st with on := true } ss) := Lib.hid ⟨x, rfl, by simp [Ins.st, hon], h3⟩
    have HON := Lib.hid (show x.st.on = true from hon)
    clear ho h3 fz hon z4
    go_enter Tryz.func268, Tryz.ntmps268
    go_wp2_with fail
    go_ret
    rw [HON.out]
    exact ⟨rfl, H1.out⟩

/-- Certificates that are only read. -/
def ctsR (cts : List Ct) : Res := imm (fun w D => ∀ c ∈ cts, CtIn w c D) (fun h hk hs c hc => (h c hc).dep hk hs)

theorem cts_add {cts : List Ct} {c : Ct} (h : Own B w0 W (redR c.vv 2 c.vs.length (vsCells c.vs) :: redR c.vb 6 c.rs.length (rqsCells c.rs) :: ctsR cts :: rs)) (hn : c.rs.length ≤ 100000) (hm : c.vs.length ≤ 100000) : Own B w0 W (ctsR (cts ++ [c]) :: rs) := by
  have h1 := h.rot
  refine (h1.alter (r' := ctsR (cts ++ [c])) ?_ (by simp [ctsR, imm])).rot'.drop.drop
  obtain ⟨D, ⟨q1, q2⟩, q3, q4⟩ := h1.head
  obtain ⟨D1, ⟨v1, v2⟩, v3, _⟩ := (h1.all (redR c.vv 2 c.vs.length (vsCells c.vs)) (List.mem_cons_of_mem _ List.mem_cons_self)).1
  obtain ⟨D2, ⟨b1, b2⟩, b3, _⟩ := (h1.all (redR c.vb 6 c.rs.length (rqsCells c.rs)) (List.mem_cons_of_mem _ (List.mem_cons_of_mem _ List.mem_cons_self))).1
  refine ⟨D ++ (D1 ++ D2), ⟨fun c' hc' => ?_, fun k hk => ?_⟩, fun k hk => ?_, q4⟩
  · rcases List.mem_append.1 hc' with hc' | hc'
    · exact (q1 c' hc').mono (by simp +contextual)
    · simp at hc'; subst hc'
      exact ⟨b1.mono (by simp +contextual), hn, v1.mono (by simp +contextual), hm⟩
  · rcases List.mem_append.1 hk with hk | hk
    · exact q2 k hk
    · rcases List.mem_append.1 hk with hk | hk
      · exact v2 k hk
      · exact b2 k hk
  · rcases List.mem_append.1 hk with hk | hk
    · exact q3 k hk
    · rcases List.mem_append.1 hk with hk | hk
      · exact v3 k hk
      · exact b3 k hk

theorem ctCells_one {c : Ct} {a1 : Option Addr} {n1 c1 : Nat} {a2 : Option Addr} {n2 c2 : Nat} (h1 : c.vb = .slice a1 n1 c1) (h2 : c.vv = .slice a2 n2 c2) : ∀ u ∈ ctCells c, u.oneCell' = true := by
  intro u hu
  simp only [ctCells, h1, h2, List.mem_cons, List.not_mem_nil, or_false] at hu
  rcases hu with rfl | rfl | rfl | rfl | rfl <;> rfl

/-- What Certs leaves: certificates in new memory. -/
def CertsP (B : Nat) (w0 : World) (i : Nat) (st : In) (ss : List Res) (e : Ending) (w' : World) : Prop :=
  ∃ (u : Value) (cts : List Ct), e = .returned u ∧ cts.map Ct.cp = certsI st ∧ AtI B w0 w' i st (ownR 42 5 u cts.length (cts.flatMap ctCells) :: ctsR cts :: ss)

theorem certs_take (l : List Pm) (k : Nat) (hk : k < l.length) : ((l.take (k + 1)).filter (·.has)).map (fun p => p.ct.cp) = ((l.take k).filter (·.has)).map (fun p => p.ct.cp) ++ if l[k].has then [l[k].ct.cp] else [] := by
  rw [List.take_succ_eq_append_getElem hk, List.filter_append, List.map_append]
  congr 1
  cases h : l[k].has <;> simp [h]

theorem certs_all (x : Ins) (h : x.l.length = 16) : ((x.l.take 16).filter (·.has)).map (fun p => p.ct.cp) = certsI x.st := by
  rw [List.take_of_length_le (by omega)]
  simp only [certsI, Ins.st, List.filter_map, List.map_map]
  rfl

set_option maxHeartbeats 2000000 in
set_option maxRecDepth 100000 in
theorem ai_certs {i : Nat} {st : In} (h : AtI B w0 W i st ss) : Calls Tryz.prog 101 #[.pointer (some ⟨i, 0, none⟩)] W (CertsP B w0 i st ss) := by
  obtain ⟨x, rfl, rfl, h3⟩ := h
  obtain ⟨i0, hi, hz0, hz1, hz2⟩ := info_parts Tryz.infoCert
  have ho := own_open h3
  obtain ⟨-, -, -, -, -, c5, l1, l2⟩ := oi_cells ho
  have HN := Lib.hid (oi_ok ho).n
  have H0 : Hid (Own B w0 W (ownR 42 5 (.slice none 0 0) 0 [] :: ctsR [] :: instR x :: ss)) := Lib.hid ((h3.new (r := ctsR []) (Upd.refl [] _) ⟨[], ⟨by simp, by simp⟩, by simp, fun k hk => h3.lt k hk⟩ (by simp [ctsR, imm])).row0)
  clear ho h3
  go_enter Tryz.func101, Tryz.ntmps101
  go_wp2_with fail
  go_loopw [3, 11] (fun out n wr => ∃ (k : Nat) (cts : List Ct) (ao : Option Addr) (cp : Nat), k ≤ 16 ∧ n = .int .i64 k ∧ out = .slice ao cts.length cp ∧ Hid (cts.map Ct.cp = ((x.l.take k).filter (·.has)).map (fun p => p.ct.cp)) ∧ Hid (cts.length ≤ k) ∧
    Hid (Own B w0 wr (ownR 42 5 (.slice ao cts.length cp) cts.length (cts.flatMap ctCells) :: ctsR cts :: instR x :: ss))) (fun _ n _ => 16 - (intOf n).toNat)
  case atStart => exact ⟨0, [], none, 0, by omega, rfl, rfl, Lib.hid rfl, Lib.hid (by simp), H0⟩
  case round =>
    clear H0 c5
    obtain ⟨k, cts, ao, cp, hk, rfl, rfl, HM, HLE, H1⟩ := hrel
    by_cases hlt : k < 16
    · have hkI : (k : Int) < 16 := by omega
      have hl : k < x.l.length := by rw [HN.out]; exact hlt
      have hle := HLE.out
      have h1 := own_open H1.out.rot
      obtain ⟨a1, e1, a2, e2, a3, e3, a4, e4, s1, s2, s3, s4⟩ := ct_shape h1 k hl
      obtain ⟨g0, g1, g2, g3, g4, g5, g6, g7, g8, g9, g10, g11, g12, g13⟩ := oi_row h1 k hl
      have HT := Lib.hid (certs_take x.l k hl)
      have hct := (oi_cert h1 k hl).1
      rw [s1] at g6; rw [s2] at g7; rw [s3] at g12; rw [s4] at g13
      have HS1 := Lib.hid s1
      have HS2 := Lib.hid s2
      have H2 := Lib.hid (H1.out.alloc (.cells #[x.l[k].lc.ptr, .bool x.l[k].told, .bool x.l[k].has, .int .i64 x.l[k].ct.view, .int .i64 x.l[k].ct.inst, .int .i64 x.l[k].ct.seq, .slice a1 x.l[k].ct.rs.length e1, .slice a2 x.l[k].ct.vs.length e2, .bool x.l[k].done, .int .i64 x.l[k].dw.view, .int .i64 x.l[k].dw.inst, .int .i64 x.l[k].dw.seq, .slice a3 x.l[k].dw.rs.length e3, .slice a4 x.l[k].dw.vs.length e4] 241 (0, 0)))
      have HF := Lib.hid (fresh_ct x.l[k].ct (wr.alloc (.cells #[x.l[k].lc.ptr, .bool x.l[k].told, .bool x.l[k].has, .int .i64 x.l[k].ct.view, .int .i64 x.l[k].ct.inst, .int .i64 x.l[k].ct.seq, .slice a1 x.l[k].ct.rs.length e1, .slice a2 x.l[k].ct.vs.length e2, .bool x.l[k].done, .int .i64 x.l[k].dw.view, .int .i64 x.l[k].dw.inst, .int .i64 x.l[k].dw.seq, .slice a3 x.l[k].dw.rs.length e3, .slice a4 x.l[k].dw.vs.length e4] 241 (0, 0))) (Reads.upd (M := []) hct.1 ((Upd.refl _ _).alloc _) (by simp)) hct.2.2.1 (Reads.upd (M := []) hct.2.1 ((Upd.refl _ _).alloc _) (by simp)) hct.2.2.2)
      unfold ctAgg at HF
      rw [HS1.out, HS2.out] at HF
      obtain ⟨hn1, hn2⟩ := hct.2.2
      clear h1 s1 s2 s3 s4 hct H1
      cases hh : x.l[k].has
      · rw [hh] at g2 HT
        have HHH := Lib.hid hh
        clear hh
        go_wp2_with fail
        go_roundw
        case rel => exact ⟨k + 1, cts, ao, cp, by omega, by go_num, rfl, Lib.hid (by rw [HM.out, HT.out]; simp), Lib.hid (by omega), by rw [← HHH.out]; exact H2⟩
        case measure => simp [intOf]; omega
      · rw [hh] at g2 HT HF H2
        clear hh
        go_wp2_with fail
        refine HF.out.mono ?_
        rintro e w2 ⟨⟨view', inst', seq', vb', vv', rs', vs'⟩, rfl, hcp, hu2, hb2, hv2, n1, n2⟩
        simp only at hb2 hv2 n1 n2
        obtain ⟨ao6, cap6, rfl⟩ := bat_form hb2
        obtain ⟨co6, cav6, rfl⟩ := vts_form hv2
        have HCP := Lib.hid hcp
        have H3 := Lib.hid ((own_red2 H2.out hu2 hb2 hv2 n1 n2).rot.alloc (.cells (ctCells ⟨view', inst', seq', .slice ao6 rs'.length cap6, .slice co6 vs'.length cav6, rs', vs'⟩).toArray 42))
        have HO := Lib.hid (ownR_owns H3.out.head)
        clear hcp hu2 hb2 hv2 n1 n2 HF H2 g0 g1 g2 g3 g4 g5 g6 g7 g8 g9 g10 g11 g12 g13
        go_wp2_with (at_builtin; refine wpList_append_lies _ rfl (.tmp 17) (.tmp 21) 44 rfl 0 42 i0 (.agg #[.int .i64 0, .int .i64 0, .int .i64 0, .slice none 0 0, .slice none 0 0]) 5 72 Tryz.underlying44 hi hz0 hz1 hz2 rfl (by decide) _ cts.length _ rfl HO.out ⟨w2.heap.size, 0, none⟩ 1 1 (ctCells ⟨view', inst', seq', .slice ao6 rs'.length cap6, .slice co6 vs'.length cav6, rs', vs'⟩) rfl rfl ?c1 ?c2 (by decide) ?c3 ?c4 (Nat.zero_le _) _ rfl ?c6)
        case c1 => exact World.news_of_block (heap_alloc_new w2 _)
        case c2 => exact ctCells_one rfl rfl
        case c3 => unfold maxLen; omega
        case c4 => omega
        case c6 =>
          intro g cap2 w3 hown hgrow hat hlt3
          have h4 := (H3.out.grow hgrow (by rw [hs_alloc]; exact hat) hown).perm3
          have hcp := HCP.out
          have e4 : rs' = x.l[k].ct.rs := congrArg Cp.rs hcp
          have e5 : vs' = x.l[k].ct.vs := congrArg Cp.vs hcp
          have h5 := (cts_add (c := ⟨view', inst', seq', .slice ao6 rs'.length cap6, .slice co6 vs'.length cav6, rs', vs'⟩) h4 (by rw [e4]; exact hn1) (by rw [e5]; exact hn2)).swap
          have H5 := Lib.hid h5
          clear h4 h5 hown hgrow hat hlt3 hcp e4 e5
          go_wp2_with fail
          go_roundw
          case rel =>
            refine ⟨k + 1, cts ++ [⟨view', inst', seq', .slice ao6 rs'.length cap6, .slice co6 vs'.length cav6, rs', vs'⟩], some ⟨g, 0, none⟩, cap2, by omega, by go_num, by simp, Lib.hid ?_, Lib.hid (by simp; omega), Lib.hid ?_⟩
            · rw [List.map_append, HM.out, HT.out]
              simp only [if_true, List.map_cons, List.map_nil]
              rw [HCP.out]
            · rw [List.flatMap_append, List.length_append]
              simpa using H5.out
          case measure => simp [intOf]; omega
    · have hk16 : k = 16 := by omega
      subst hk16
      have HCA := Lib.hid (certs_all x HN.out)
      go_wp2_with fail
      go_ret
      exact ⟨_, cts, rfl, by rw [HM.out, HCA.out], x, rfl, rfl, H1.out.rot⟩

end
end Go.Proofs.YtannckelmojkoaaGreat
