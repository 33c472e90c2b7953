/- psephoskeep.Cert of equal certificates; psephosref01.Rising of votes that rise. -/
import Derived.Test.YtdeadekeffficaaCeP
import Derived.Test.YtdeadekeffficaaInD
import Derived.Test.YtdeadekeffficaaInF
namespace Go.Proofs.Ytdeadekeffficaa
open Go.RowKit Go.Heap

set_option maxHeartbeats 1000000 in
theorem keepCert_any (view inst seq : Int) (vb vv ub uv : Value) (rs : List Rq) (vs : Vs) (w : World) (hn : rs.length ≤ 100000) (hm : vs.length ≤ 100000) (hb : Bat w vb rs) (hv : Vts w vv vs) (hb' : Bat w ub rs) (hv' : Vts w uv vs) :
    Calls Try.prog 48 #[ctAgg ⟨view, inst, seq, vb, vv, rs, vs⟩, ctAgg ⟨view, inst, seq, ub, uv, rs, vs⟩] w fun e w' => e = .returned (.bool true) ∧ Upd [] w w' := by
  have h1 := (((Own.start (Below.refl w.heap.size w) (Nat.le_refl _)).box (ctO view inst seq vb vv)).box (ctO view inst seq ub uv))
  simp only [hs_alloc] at h1
  have hu : Upd [] w ((w.alloc (ctO view inst seq vb vv)).alloc (ctO view inst seq ub uv)) := ((Upd.refl _ _).alloc _).alloc _
  have H1 := Lib.hid h1
  have HB := Lib.hid (fun W' (h : Upd [] w W') => hb.upd (M := []) h (by simp))
  have HB' := Lib.hid (fun W' (h : Upd [] w W') => hb'.upd (M := []) h (by simp))
  have HV := Lib.hid (fun W' (h : Upd [] w W') => hv.upd (M := []) h (by simp))
  have HV' := Lib.hid (fun W' (h : Upd [] w W') => hv'.upd (M := []) h (by simp))
  obtain ⟨ao, cap, rfl⟩ := bat_form hb
  obtain ⟨bo, cbp, rfl⟩ := bat_form hb'
  obtain ⟨co, cav, rfl⟩ := vts_form hv
  obtain ⟨eo, cev, rfl⟩ := vts_form hv'
  clear hb hv hb' hv' h1
  go_enter Try.func48, Try.ntmps48
  go_upto_region 1 with fail
  have HU := Lib.hid hu
  clear hu
  generalize (w.alloc (ctO view inst seq (.slice ao rs.length cap) (.slice co vs.length cav))).alloc (ctO view inst seq (.slice bo rs.length cbp) (.slice eo vs.length cev)) = w1 at *
  obtain ⟨f0, f1, f2, f3, f4, fl, -⟩ := ct_cells H1.out.drop.blk_out
  obtain ⟨g0, g1, g2, g3, g4, gl, -⟩ := ct_cells H1.out.blk_out
  go_wp2_with fail
  refine (sameR_any _ _ rs rs _ hn hn (HB.out _ HU.out) (HB'.out _ HU.out)).mono ?_
  rintro e w2 ⟨rfl, hu2⟩
  rw [decide_eq_true rfl]
  have k4 := (hu2.cell (o := 4) fl (by simp)).trans f4
  have l4 := (hu2.cell (o := 4) gl (by simp)).trans g4
  have HU2 := Lib.hid (HU.out.trans hu2)
  clear f0 f1 f2 f3 f4 fl g0 g1 g2 g3 g4 gl hu2
  go_wp2_with fail
  refine (sameV_any _ _ vs vs _ hm hm (HV.out _ HU2.out) (HV'.out _ HU2.out)).mono ?_
  rintro e w3 ⟨rfl, hu3⟩
  rw [decide_eq_true rfl]
  have HU3 := Lib.hid (HU2.out.trans hu3)
  clear hu3
  go_wp2_with fail
  go_ret
  exact ⟨rfl, HU3.out⟩

theorem rises_at {vs : Vs} {n : Int} (h : Rises vs n) (k : Nat) (hk : k < vs.length) : 0 ≤ vs[k].1 ∧ vs[k].1 < n := h.2 _ (List.getElem_mem hk)
theorem rises_lt {vs : Vs} {n : Int} (h : Rises vs n) (m : Nat) (hk : m + 1 < vs.length) : vs[m].1 < vs[m + 1].1 := List.pairwise_iff_getElem.1 h.1 m (m + 1) (by omega) hk (by omega)

set_option maxHeartbeats 2000000 in
theorem rising01_any (f : Nat) (v : Value) (vs : Vs) (w : World) (hf1 : 1 ≤ f) (hf2 : f ≤ 4) (hl : vs.length = 2 * f + 1) (hr : Rises vs (3 * (f : Int) + 1)) (h : Vts w v vs) :
    Calls Try.prog 47 #[v, .int .i64 f] w fun e w' => e = .returned (.bool true) ∧ Upd [] w w' := by
  obtain ⟨ao, cap, rfl, h1, h2, h3, h4, h5⟩ := h
  clear h1 h2 h3 h4
  have H5 := Lib.hid h5
  have HR := Lib.hid hr
  clear h5 hr
  rw [hl]
  have HL := Lib.hid hl
  clear hl
  have e0 : (3 * (f : Int) + 1 == 0) = false := by simp; omega
  have e0' : decide (3 * (f : Int) + 1 = 0) = false := by simp; omega
  have e1 : (((2 * f + 1 : Nat) : Int) != 2 * (f : Int) + 1) = false := by simp
  go_enter Try.func47, Try.ntmps47
  go_wp2_with fail
  refine (rnodes_any f _ (by omega) (by omega)).mono ?_
  rintro e w' ⟨rfl, rfl⟩
  go_wp2_with fail
  refine (rquorum_any f _ (by omega) (by omega)).mono ?_
  rintro e w' ⟨rfl, rfl⟩
  go_wp2_with fail
  clear e0 e0' e1
  go_loopw [5] (fun i wr => ∃ k : Nat, k ≤ 2 * f + 1 ∧ i = .int .i64 k ∧ Below w.heap.size w wr) (fun i _ => 2 * f + 1 - (intOf i).toNat)
  case atStart => exact ⟨0, by omega, rfl, Below.refl _ _⟩
  case round =>
    obtain ⟨k, hk, rfl, hb⟩ := hrel
    by_cases hlt : k < 2 * f + 1
    · have hkv : k < vs.length := by rw [HL.out]; exact hlt
      obtain ⟨b, o, rfl, hbs, hc⟩ := H5.out (by rw [HL.out]; omega)
      have hcc := cells_below hb hbs hc
      obtain ⟨q0, -⟩ := vts_cells hcc k vs[k] (by simp)
      obtain ⟨t1, t2⟩ := rises_at HR.out k hkv
      have t1b : decide (vs[k].1 < 0) = false := by simp; omega
      have t2b : decide (3 * (f : Int) + 1 ≤ vs[k].1) = false := by simp; omega
      have HB := Lib.hid hb
      have HN := Lib.hid (fun wx => rnodes_any (f : Int) wx (by omega) (by omega))
      have HCC := Lib.hid hcc
      clear hb hc hcc
      by_cases hk0 : k = 0
      · subst hk0
        simp only [Nat.zero_mul, Nat.add_zero] at q0
        go_wp2_with fail
        go_quiet ((go_at_call 21; exact quiet_eq (HN.out _)))
        go_wp2_with fail
        go_roundw
        case rel => exact ⟨0 + 1, by omega, by go_num, below_drewN HB.out _⟩
        case measure => simp [intOf]
      · obtain ⟨m, rfl⟩ : ∃ m, k = m + 1 := ⟨k - 1, by omega⟩
        obtain ⟨p0, -⟩ := vts_cells HCC.out m vs[m] (by simp)
        have t3 := rises_lt HR.out m hkv
        have t3b : decide (vs[m + 1].1 ≤ vs[m].1) = false := by simp; omega
        have hp : decide ((0 : Int) < ((m + 1 : Nat) : Int)) = true := by simp
        clear hk0
        go_wp2_with fail
        go_quiet ((go_at_call 21; exact quiet_eq (HN.out _)))
        go_wp2_with fail
        go_roundw
        case rel => exact ⟨m + 1 + 1, by omega, by go_num, below_drewN HB.out _⟩
        case measure => simp [intOf]; omega
    · have hlb : decide ((k : Int) < ((2 * f + 1 : Nat) : Int)) = false := by simp; omega
      go_wp2_with fail
      go_ret
      exact ⟨rfl, Upd.of_below hb⟩

end Go.Proofs.Ytdeadekeffficaa
