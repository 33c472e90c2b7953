/- reqs.Has; inst: Used. -/
import Derived.Test.YtdeadekeffficaaInM
namespace Go.Proofs.Ytdeadekeffficaa
open Go.RowKit Go.Heap

abbrev rqBox (r : Rq) : Obj := .cells #[.int .i64 r.client, .int .i64 r.time, .int .i64 r.kind, .int .i64 r.key, .int .i64 r.val, .int .i64 r.sl] 32 (0, 0)

theorem rq_cells {w : World} {b : Nat} {r : Rq} (h : w.heap[b]? = some (rqBox r)) : w.cell? ⟨b, 0, none⟩ = some (.int .i64 r.client) ∧ w.cell? ⟨b, 1, none⟩ = some (.int .i64 r.time) ∧ w.cell? ⟨b, 2, none⟩ = some (.int .i64 r.kind) ∧
    w.cell? ⟨b, 3, none⟩ = some (.int .i64 r.key) ∧ w.cell? ⟨b, 4, none⟩ = some (.int .i64 r.val) ∧ w.cell? ⟨b, 5, none⟩ = some (.int .i64 r.sl) :=
  ⟨by rw [block_cell h]; rfl, by rw [block_cell h]; rfl, by rw [block_cell h]; rfl, by rw [block_cell h]; rfl, by rw [block_cell h]; rfl, by rw [block_cell h]; rfl⟩

def NoneIn (r : Rq) (l : List Rq) (k : Nat) : Prop := ∀ j (hj : j < l.length), j < k → l[j] ≠ r

set_option maxHeartbeats 1000000 in
set_option maxRecDepth 100000 in
theorem has_any (v : Value) (l : List Rq) (r : Rq) (w : World) (hn : l.length ≤ 100000) (h : Bat w v l) :
    Calls Try.prog 68 #[v, .agg #[.int .i64 r.client, .int .i64 r.time, .int .i64 r.kind, .int .i64 r.key, .int .i64 r.val, .int .i64 r.sl]] w fun e w' => e = .returned (.bool (decide (r ∈ l))) ∧ Upd [] w w' := by
  obtain ⟨ao, cap, rfl, h1, h2, h3, h4, h5⟩ := h
  clear h1 h2 h3 h4
  have H5 := Lib.hid h5
  clear h5
  have H0 := Lib.hid ((Own.start (Below.refl w.heap.size w) (Nat.le_refl _)).box (rqBox r))
  go_enter Try.func68, Try.ntmps68
  go_wp2_with fail
  go_loopw [9] (fun i wr => ∃ k : Nat, k ≤ l.length ∧ i = .int .i64 k ∧ Hid (NoneIn r l k) ∧ Hid (Own w.heap.size w wr [blk w.heap.size (rqBox r)])) (fun i _ => l.length - (intOf i).toNat)
  case atStart => exact ⟨0, by omega, rfl, Lib.hid (by intro j _ hj; omega), H0⟩
  case round =>
    clear H0
    obtain ⟨k, hk, rfl, HN, H1⟩ := hrel
    by_cases hlt : k < l.length
    · have hkI : (k : Int) < (l.length : Int) := by omega
      obtain ⟨b, o, rfl, hbs, hc⟩ := H5.out (by omega)
      obtain ⟨q0, q1, q2, q3, q4, q5⟩ := bat_cells (cells_below H1.out.below hbs hc) k l[k] (by simp)
      clear hc
      have hbx := H1.out.blk_out
      obtain ⟨p0, p1, p2, p3, p4, p5⟩ := rq_cells hbx
      have hlb := block_lt hbx
      have hz := H1.out.below.size
      clear hbx
      have H2 := Lib.hid (H1.out.alloc (rqBox l[k]))
      by_cases he : l[k] = r
      · have heq : ∀ wx, (Op.equalIn 10000 32 (rqAgg l[k]) (rqAgg r)).run Try.prog wx = .ok true wx := fun wx => by rw [run_equal_req]; simp [he]
        have HE := Lib.hid he
        clear he
        unfold rqAgg at heq
        have hgd := Try.guardReq
        go_wp2_with fail
        go_ret
        refine ⟨ret_bool ?_, Upd.of_below H2.out.below⟩
        symm
        rw [decide_eq_true_iff, ← HE.out]
        exact List.getElem_mem hlt
      · have heq : ∀ wx, (Op.equalIn 10000 32 (rqAgg l[k]) (rqAgg r)).run Try.prog wx = .ok false wx := fun wx => by rw [run_equal_req]; simp [he]
        have HE := Lib.hid he
        clear he
        unfold rqAgg at heq
        have hgd := Try.guardReq
        go_wp2_with fail
        go_roundw
        case rel =>
          refine ⟨k + 1, by omega, by go_num, Lib.hid (fun j hj hjk => ?_), H2⟩
          by_cases e : j = k
          · subst e; exact HE.out
          · exact HN.out j hj (by omega)
        case measure => simp [intOf]; omega
    · have hkl : k = l.length := by omega
      subst hkl
      have hkI : ¬ (l.length : Int) < (l.length : Int) := by omega
      go_wp2_with fail
      go_ret
      refine ⟨ret_bool ?_, Upd.of_below H1.out.below⟩
      symm
      rw [decide_eq_false_iff_not]
      intro hm
      obtain ⟨j, hj, e⟩ := List.getElem_of_mem hm
      exact HN.out j hj hj e

def NoneP (r : Rq) (l : List Pm) (k : Nat) : Prop := ∀ j (hj : j < l.length), j < k → usedP r l[j].pl = false

section
variable {B : Nat} {w0 W W' : World} {ss rs : List Res}

abbrev pmO (p : Pm) : Obj := .cells #[p.lc.ptr, .bool p.told, .bool p.has, .int .i64 p.ct.view, .int .i64 p.ct.inst, .int .i64 p.ct.seq, p.ct.vb, p.ct.vv, .bool p.done, .int .i64 p.dw.view, .int .i64 p.dw.inst, .int .i64 p.dw.seq, p.dw.vb, p.dw.vv] 122 (0, 0)

theorem oi_row {x : Ins} (h : OwnI B w0 W x ss) (k : Nat) (hk : k < x.l.length) : W.cell? ⟨x.b, k * 14, none⟩ = some x.l[k].lc.ptr ∧ W.cell? ⟨x.b, k * 14 + 1, none⟩ = some (.bool x.l[k].told) ∧ W.cell? ⟨x.b, k * 14 + 2, none⟩ = some (.bool x.l[k].has) ∧
    W.cell? ⟨x.b, k * 14 + 3, none⟩ = some (.int .i64 x.l[k].ct.view) ∧ W.cell? ⟨x.b, k * 14 + 4, none⟩ = some (.int .i64 x.l[k].ct.inst) ∧ W.cell? ⟨x.b, k * 14 + 5, none⟩ = some (.int .i64 x.l[k].ct.seq) ∧ W.cell? ⟨x.b, k * 14 + 6, none⟩ = some x.l[k].ct.vb ∧ W.cell? ⟨x.b, k * 14 + 7, none⟩ = some x.l[k].ct.vv ∧
    W.cell? ⟨x.b, k * 14 + 8, none⟩ = some (.bool x.l[k].done) ∧ W.cell? ⟨x.b, k * 14 + 9, none⟩ = some (.int .i64 x.l[k].dw.view) ∧ W.cell? ⟨x.b, k * 14 + 10, none⟩ = some (.int .i64 x.l[k].dw.inst) ∧ W.cell? ⟨x.b, k * 14 + 11, none⟩ = some (.int .i64 x.l[k].dw.seq) ∧ W.cell? ⟨x.b, k * 14 + 12, none⟩ = some x.l[k].dw.vb ∧ W.cell? ⟨x.b, k * 14 + 13, none⟩ = some x.l[k].dw.vv :=
  ⟨oi_at h k hk 0 (by omega), oi_at h k hk 1 (by omega), oi_at h k hk 2 (by omega), oi_at h k hk 3 (by omega), oi_at h k hk 4 (by omega), oi_at h k hk 5 (by omega), oi_at h k hk 6 (by omega), oi_at h k hk 7 (by omega), oi_at h k hk 8 (by omega), oi_at h k hk 9 (by omega), oi_at h k hk 10 (by omega), oi_at h k hk 11 (by omega), oi_at h k hk 12 (by omega), oi_at h k hk 13 (by omega)⟩

theorem pm_cells {w : World} {b : Nat} {p : Pm} (h : w.heap[b]? = some (pmO p)) : w.cell? ⟨b, 0, none⟩ = some p.lc.ptr ∧ w.cell? ⟨b, 2, none⟩ = some (.bool p.has) ∧ w.cell? ⟨b, 8, none⟩ = some (.bool p.done) ∧ w.cell? ⟨b, 12, none⟩ = some p.dw.vb :=
  ⟨by rw [block_cell h]; rfl, by rw [block_cell h]; rfl, by rw [block_cell h]; rfl, by rw [block_cell h]; rfl⟩

theorem ct_shape {x : Ins} (h : OwnI B w0 W x ss) (k : Nat) (hk : k < x.l.length) : ∃ a1 c1 a2 c2 a3 c3 a4 c4, x.l[k].ct.vb = .slice a1 x.l[k].ct.rs.length c1 ∧ x.l[k].ct.vv = .slice a2 x.l[k].ct.vs.length c2 ∧ x.l[k].dw.vb = .slice a3 x.l[k].dw.rs.length c3 ∧ x.l[k].dw.vv = .slice a4 x.l[k].dw.vs.length c4 := by
  obtain ⟨⟨h1, h2, _⟩, h3, h4, _⟩ := oi_cert h k hk
  obtain ⟨a1, c1, e1⟩ := bat_form h1
  obtain ⟨a2, c2, e2⟩ := vts_form h2
  obtain ⟨a3, c3, e3⟩ := bat_form h3
  obtain ⟨a4, c4, e4⟩ := vts_form h4
  exact ⟨a1, c1, a2, c2, a3, c3, a4, c4, e1, e2, e3, e4⟩

theorem any_of {x : Ins} {r : Rq} {k : Nat} (hk : k < x.l.length) (h : usedP r x.l[k].pl = true) : usedI x.st r = true := by
  simp only [usedI, Ins.st, List.any_map, List.any_eq_true]
  exact ⟨x.l[k], by simp, h⟩
theorem any_none {x : Ins} {r : Rq} (hn : x.l.length = 16) (h : NoneP r x.l 16) : usedI x.st r = false := by
  simp only [usedI, Ins.st, List.any_map, List.any_eq_false]
  intro p hp
  obtain ⟨j, hj, rfl⟩ := List.getElem_of_mem hp
  simpa using h j hj (by omega)

set_option maxHeartbeats 2000000 in
set_option maxRecDepth 100000 in
theorem ai_used {i : Nat} {st : In} (h : AtI B w0 W i st ss) (r : Rq) : Calls Try.prog 43 #[.pointer (some ⟨i, 0, none⟩), .agg #[.int .i64 r.client, .int .i64 r.time, .int .i64 r.kind, .int .i64 r.key, .int .i64 r.val, .int .i64 r.sl]] W fun e w' => e = .returned (.bool (usedI st r)) ∧ Upd [] W w' := by
  obtain ⟨x, rfl, rfl, h3⟩ := h
  have h0 := own_open (h3.box (rqBox r)).swap
  have hu0 : Upd [] W (W.alloc (rqBox r)) := (Upd.refl _ _).alloc _
  have H0 := Lib.hid h0
  have HU0 := Lib.hid hu0
  have HN := Lib.hid (oi_ok h0).n
  obtain ⟨-, -, -, -, -, c5, l1, l2⟩ := oi_cells h0
  clear h3 h0 hu0
  go_enter Try.func43, Try.ntmps43
  go_wp2_with fail
  generalize W.alloc (rqBox r) = w1 at *
  go_loopw [14] (fun n wr => ∃ k : Nat, k ≤ 16 ∧ n = .int .i64 k ∧ Hid (NoneP r x.l k) ∧ Hid (Upd [] w1 wr)) (fun n _ => 16 - (intOf n).toNat)
  case atStart => exact ⟨0, by omega, rfl, Lib.hid (by intro j _ hj; omega), Lib.hid (Upd.refl _ _)⟩
  case round =>
    clear c5
    obtain ⟨k, hk, rfl, HA, HU⟩ := hrel
    by_cases hlt : k < 16
    · have hkI : (k : Int) < 16 := by omega
      have hl : k < x.l.length := by rw [HN.out]; exact hlt
      have h1 := Own.upd0 H0.out HU.out
      obtain ⟨a1, e1, a2, e2, a3, e3, a4, e4, s1, s2, s3, s4⟩ := ct_shape h1 k hl
      obtain ⟨g0, g1, g2, g3, g4, g5, g6, g7, g8, g9, g10, g11, g12, g13⟩ := oi_row h1 k hl
      rw [s1] at g6; rw [s2] at g7; rw [s3] at g12; rw [s4] at g13
      have hdl := (oi_cert h1 k hl).2.2.2.1
      have S3 := Lib.hid s3
      have HC := Lib.hid (own_chosen (oi_pick (Own.alloc h1 (.cells #[x.l[k].lc.ptr, .bool x.l[k].told, .bool x.l[k].has, .int .i64 x.l[k].ct.view, .int .i64 x.l[k].ct.inst, .int .i64 x.l[k].ct.seq, .slice a1 x.l[k].ct.rs.length e1, .slice a2 x.l[k].ct.vs.length e2, .bool x.l[k].done, .int .i64 x.l[k].dw.view, .int .i64 x.l[k].dw.inst, .int .i64 x.l[k].dw.seq, .slice a3 x.l[k].dw.rs.length e3, .slice a4 x.l[k].dw.vs.length e4] 122 (0, 0))) k hl))
      have HBX := Lib.hid ((own_shut (Own.alloc h1 (.cells #[x.l[k].lc.ptr, .bool x.l[k].told, .bool x.l[k].has, .int .i64 x.l[k].ct.view, .int .i64 x.l[k].ct.inst, .int .i64 x.l[k].ct.seq, .slice a1 x.l[k].ct.rs.length e1, .slice a2 x.l[k].ct.vs.length e2, .bool x.l[k].done, .int .i64 x.l[k].dw.view, .int .i64 x.l[k].dw.inst, .int .i64 x.l[k].dw.seq, .slice a3 x.l[k].dw.rs.length e3, .slice a4 x.l[k].dw.vs.length e4] 122 (0, 0)))).drop.blk_out)
      have HPX := Lib.hid (heap_alloc_new wr (.cells #[x.l[k].lc.ptr, .bool x.l[k].told, .bool x.l[k].has, .int .i64 x.l[k].ct.view, .int .i64 x.l[k].ct.inst, .int .i64 x.l[k].ct.seq, .slice a1 x.l[k].ct.rs.length e1, .slice a2 x.l[k].ct.vs.length e2, .bool x.l[k].done, .int .i64 x.l[k].dw.view, .int .i64 x.l[k].dw.inst, .int .i64 x.l[k].dw.seq, .slice a3 x.l[k].dw.rs.length e3, .slice a4 x.l[k].dw.vs.length e4] 122 (0, 0)))
      have HUA := Lib.hid (HU.out.alloc (.cells #[x.l[k].lc.ptr, .bool x.l[k].told, .bool x.l[k].has, .int .i64 x.l[k].ct.view, .int .i64 x.l[k].ct.inst, .int .i64 x.l[k].ct.seq, .slice a1 x.l[k].ct.rs.length e1, .slice a2 x.l[k].ct.vs.length e2, .bool x.l[k].done, .int .i64 x.l[k].dw.view, .int .i64 x.l[k].dw.inst, .int .i64 x.l[k].dw.seq, .slice a3 x.l[k].dw.rs.length e3, .slice a4 x.l[k].dw.vs.length e4] 122 (0, 0)))
      have HSM := Lib.hid (own_small (oi_pick h1 k hl)).1
      clear h1 s1 s2 s3 s4
      go_wp2_with fail
      generalize wr.alloc (.cells #[x.l[k].lc.ptr, .bool x.l[k].told, .bool x.l[k].has, .int .i64 x.l[k].ct.view, .int .i64 x.l[k].ct.inst, .int .i64 x.l[k].ct.seq, .slice a1 x.l[k].ct.rs.length e1, .slice a2 x.l[k].ct.vs.length e2, .bool x.l[k].done, .int .i64 x.l[k].dw.view, .int .i64 x.l[k].dw.inst, .int .i64 x.l[k].dw.seq, .slice a3 x.l[k].dw.rs.length e3, .slice a4 x.l[k].dw.vs.length e4] 122 (0, 0)) = w2 at *
      clear g0 g1 g2 g3 g4 g5 g6 g7 g8 g9 g10 g11 g12 g13
      refine HC.out.mono ?_
      rintro e w3 ⟨u, rfl, hu3, hb3, -⟩
      have HU3 := Lib.hid (HUA.out.trans hu3)
      have HB3 := Lib.hid hb3
      have lb := block_lt HBX.out
      have lp := block_lt HPX.out
      have hbx := (hu3.block _ lb (by simp)).trans HBX.out
      have hpx := (hu3.block _ lp (by simp)).trans HPX.out
      obtain ⟨p0, p1, p2, p3, p4, p5⟩ := rq_cells hbx
      have HBX3 := Lib.hid hbx
      have HPX3 := Lib.hid hpx
      have d8 : w3.cell? ⟨wr.heap.size, 8, none⟩ = some (.bool x.l[k].done) := by rw [block_cell hpx]; rfl
      have d12 : w3.cell? ⟨wr.heap.size, 12, none⟩ = some (.slice a3 x.l[k].dw.rs.length e3) := by rw [block_cell hpx]; rfl
      have hsm : (chosenS x.l[k].sl).length ≤ 100000 := by unfold chosenS; split; exact HSM.out; simp
      clear hu3 hb3 HC HBX HPX HUA hbx hpx lb lp
      generalize wr.heap.size = bx at *
      cases hh : x.l[k].sl.has
      · have HHS := Lib.hid hh
        clear hh
        cases hd : x.l[k].done
        · rw [hd] at d8
          have HDN := Lib.hid hd
          clear hd
          go_wp2_with fail
          go_roundw
          case rel =>
            refine ⟨k + 1, by omega, by go_num, Lib.hid (fun j hj hjk => ?_), HU3⟩
            by_cases e : j = k
            · subst e; simp only [usedP, Pm.pl, Ct.cp]; rw [HHS.out, HDN.out]; simp_all
            · exact HA.out j hj (by omega)
          case measure => simp [intOf]; omega
        · rw [hd] at d8
          have HDN := Lib.hid hd
          clear hd
          have HB3 := Lib.hid ((oi_cert (Own.upd0 H0.out HU3.out) k hl).2.1)
          go_wp2_with fail
          refine (has_any _ x.l[k].dw.rs r _ hdl (by rw [← S3.out]; exact HB3.out)).mono ?_
          rintro e w4 ⟨rfl, hu4⟩
          have HU4 := Lib.hid (HU3.out.trans hu4)
          clear hu4
          cases hq : decide (r ∈ x.l[k].dw.rs)
          · have HQ2 := hq
            go_wp2_with fail
            go_roundw
            case rel =>
              refine ⟨k + 1, by omega, by go_num, Lib.hid (fun j hj hjk => ?_), HU4⟩
              by_cases e : j = k
              · subst e; simp only [usedP, Pm.pl, Ct.cp]; rw [HHS.out, HDN.out]; simp_all
              · exact HA.out j hj (by omega)
            case measure => simp [intOf]; omega
          · have HQ2 := hq
            go_wp2_with fail
            go_ret
            refine ⟨ret_bool ?_, HU0.out.trans HU4.out⟩
            symm
            exact any_of (x := x) hl (by simp only [usedP, Pm.pl, Ct.cp]; rw [HHS.out, HDN.out]; simp_all)
      · have HHS := Lib.hid hh
        clear hh
        go_wp2_with fail
        refine (has_any _ (chosenS x.l[k].sl) r _ hsm HB3.out).mono ?_
        rintro e w5 ⟨rfl, hu5⟩
        have HU5 := Lib.hid (HU3.out.trans hu5)
        have hbx := (hu5.block _ (block_lt HBX3.out) (by simp)).trans HBX3.out
        have hpx := (hu5.block _ (block_lt HPX3.out) (by simp)).trans HPX3.out
        clear p0 p1 p2 p3 p4 p5 d8 d12 hu5
        obtain ⟨p0, p1, p2, p3, p4, p5⟩ := rq_cells hbx
        have d8 : w5.cell? ⟨bx, 8, none⟩ = some (.bool x.l[k].done) := by rw [block_cell hpx]; rfl
        have d12 : w5.cell? ⟨bx, 12, none⟩ = some (.slice a3 x.l[k].dw.rs.length e3) := by rw [block_cell hpx]; rfl
        clear hbx hpx HBX3 HPX3
        cases hq1 : decide (r ∈ chosenS x.l[k].sl)
        · have HQ1 := hq1
          cases hd : x.l[k].done
          · rw [hd] at d8
            have HDN := Lib.hid hd
            clear hd
            go_wp2_with fail
            go_roundw
            case rel =>
              refine ⟨k + 1, by omega, by go_num, Lib.hid (fun j hj hjk => ?_), HU5⟩
              by_cases e : j = k
              · subst e; simp only [usedP, Pm.pl, Ct.cp]; rw [HHS.out, HDN.out]; simp_all
              · exact HA.out j hj (by omega)
            case measure => simp [intOf]; omega
          · rw [hd] at d8
            have HDN := Lib.hid hd
            clear hd
            have HB3 := Lib.hid ((oi_cert (Own.upd0 H0.out HU5.out) k hl).2.1)
            go_wp2_with fail
            refine (has_any _ x.l[k].dw.rs r _ hdl (by rw [← S3.out]; exact HB3.out)).mono ?_
            rintro e w4 ⟨rfl, hu4⟩
            have HU4 := Lib.hid (HU5.out.trans hu4)
            clear hu4
            cases hq : decide (r ∈ x.l[k].dw.rs)
            · have HQ2 := hq
              go_wp2_with fail
              go_roundw
              case rel =>
                refine ⟨k + 1, by omega, by go_num, Lib.hid (fun j hj hjk => ?_), HU4⟩
                by_cases e : j = k
                · subst e; simp only [usedP, Pm.pl, Ct.cp]; rw [HHS.out, HDN.out]; simp_all
                · exact HA.out j hj (by omega)
              case measure => simp [intOf]; omega
            · have HQ2 := hq
              go_wp2_with fail
              go_ret
              refine ⟨ret_bool ?_, HU0.out.trans HU4.out⟩
              symm
              exact any_of (x := x) hl (by simp only [usedP, Pm.pl, Ct.cp]; rw [HHS.out, HDN.out]; simp_all)
        · have HQ1 := hq1
          cases hd : x.l[k].done
          · have HDN := Lib.hid hd
            clear hd
            go_wp2_with fail
            go_ret
            refine ⟨ret_bool ?_, HU0.out.trans HU5.out⟩
            symm
            exact any_of (x := x) hl (by simp only [usedP, Pm.pl, Ct.cp]; rw [HHS.out, HDN.out]; simp_all)
          · have HDN := Lib.hid hd
            clear hd
            go_wp2_with fail
            go_ret
            refine ⟨ret_bool ?_, HU0.out.trans HU5.out⟩
            symm
            exact any_of (x := x) hl (by simp only [usedP, Pm.pl, Ct.cp]; rw [HHS.out, HDN.out]; simp_all)
    · have hk16 : k = 16 := by omega
      subst hk16
      go_wp2_with fail
      go_ret
      refine ⟨ret_bool ?_, HU0.out.trans HU.out⟩
      symm
      exact any_none (x := x) HN.out HA.out

end
end Go.Proofs.Ytdeadekeffficaa
