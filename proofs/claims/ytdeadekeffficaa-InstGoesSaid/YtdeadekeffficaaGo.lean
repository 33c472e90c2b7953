/- The walk of the law InstGoes. -/
import Derived.Test.YtdeadekeffficaaGoP
import Derived.Test.YtdeadekeffficaaWinP
namespace Go.Proofs.Ytdeadekeffficaa
open Go.RowKit Go.Heap

theorem leave_off {st : In} {v : Int} (h : leaveB st v = false) : leaveI st v = st := by unfold leaveI; rw [if_neg (by rw [h]; simp)]

theorem gz_off (f : Nat) (v : Int) : leaveB { gz f v 0 with on := false } v = false ∧ preB { gz f v 0 with on := false } 1 = false := by
  refine ⟨by simp [leaveB, gs], ?_⟩
  unfold preB
  cases plAt { gz f v 0 with on := false } 1 with
  | none => rfl
  | some p => rfl

set_option maxHeartbeats 4000000 in
set_option maxRecDepth 100000 in
theorem goes_any (a0 a1 a2 : Int) (w : World) : Calls Try.prog 14 #[.int .i64 a0, .int .i64 a1, .int .i64 a2] w fun e w' => e = .returned (.bool true) ∧ Below w.heap.size w w' := by
  obtain ⟨f, hf1, hf2, hfv⟩ := f_of a0
  have HV := Lib.hid hfv
  clear hfv
  obtain ⟨p1, p2⟩ := emod_in a0 4 (by omega)
  obtain ⟨q1, q2⟩ := emod_in a1 16 (by omega)
  obtain ⟨r1, r2⟩ := emod_in a2 13 (by omega)
  obtain ⟨nn, hn1, hn2, hnv⟩ : ∃ nn : Nat, 1 ≤ nn ∧ nn ≤ 16 ∧ 1 + a1 % 16 = nn := ⟨(1 + a1 % 16).toNat, by omega, by omega, by omega⟩
  have HW := Lib.hid hnv
  clear hnv
  go_enter Try.func14, Try.ntmps14
  go_wp2_with fail
  refine (Within_any a0 4 _ (by omega) (by omega)).mono ?_
  rintro e w' ⟨rfl, rfl⟩
  go_wp2_with fail
  refine (Within_any a1 16 _ (by omega) (by omega)).mono ?_
  rintro e w' ⟨rfl, rfl⟩
  go_wp2_with fail
  refine (Within_any a2 13 _ (by omega) (by omega)).mono ?_
  rintro e w' ⟨rfl, rfl⟩
  go_wp2_with fail
  rw [HV.out, HW.out]
  clear p1 p2 q1 q2
  generalize a2 % 13 = vw at *
  refine (ai_new f 0 1 hf1 hf2 (by omega) (by omega) (by omega) (by omega) (Own.start (Below.refl w.heap.size w) (Nat.le_refl _))).mono ?_
  rintro e w1 ⟨i, rfl, h1⟩
  rw [gz_new] at h1
  have H1 := Lib.hid h1
  clear h1
  go_upto_region 5 with fail
  go_cut [64] (fun t wx => t = .bool false ∧ Hid (AtI w.heap.size w wx i (gz f vw 0) []))
  case first =>
    by_cases h0 : 0 < vw
    · obtain ⟨g1, g2⟩ := gz_leave f vw h0 (by omega)
      obtain ⟨g3, g4⟩ := gz_off f vw
      have G1 := Lib.hid g1
      have G2 := Lib.hid g2
      have G3 := Lib.hid g3
      have G4 := Lib.hid g4
      clear g1 g2 g3 g4
      go_wp2_with fail
      refine (ai_leave H1.out vw).mono ?_
      rintro e w2 ⟨rfl, h2⟩
      rw [G2.out] at h2
      rw [G1.out]
      have H2 := Lib.hid h2
      clear h2 H1
      go_wp2_with fail
      refine (ai_leave H2.out vw).mono ?_
      rintro e w3 ⟨rfl, h3⟩
      rw [leave_off G3.out] at h3
      rw [G3.out]
      have H3 := Lib.hid h3
      clear h3 H2
      go_wp2_with fail
      refine (ai_pre H3.out 1 (.slice none 0 0) [] (Reads.nil _ _) (by simp)).mono ?_
      rintro e w4 ⟨rfl, h4⟩
      rw [pre_no G4.out] at h4
      rw [G4.out]
      have H4 := Lib.hid h4
      clear h4 H3
      go_wp2_with fail
      refine (ai_install0 H4.out).mono ?_
      rintro e w5 ⟨rfl, h5⟩
      have H5 := Lib.hid (show AtI w.heap.size w w5 i (gz f vw 0) [] from h5)
      rw [show (!({ gz f vw 0 with on := false } : In).on) = true from rfl]
      clear h5 H4
      go_wp2_with fail
      refine (ai_install0 H5.out).mono ?_
      rintro e w6 ⟨rfl, h6⟩
      have H6 := Lib.hid (show AtI w.heap.size w w6 i (gz f vw 0) [] from h6)
      rw [show (!(gz f vw 0).on) = false from rfl]
      clear h6 H5
      go_wp2_with fail
      go_meet
      exact ⟨rfl, H6⟩
    · have h0b : decide (0 < vw) = false := by simp; omega
      have hv0 : vw = 0 := by omega
      have H2 : Hid (AtI w.heap.size w w1 i (gz f vw 0) []) := Lib.hid (by rw [hv0]; exact H1.out)
      clear hv0 H1
      go_wp2_with fail
      go_meet
      exact ⟨rfl, H2⟩
  case rest =>
    obtain ⟨rfl, H2⟩ := hcut
    clear H1
    go_wp2_with fail
    go_loopw [9] (fun n wr => ∃ d : Nat, d ≤ nn ∧ n = .int .i64 ((d : Int) + 1) ∧ Hid (AtI w.heap.size w wr i (gz f vw d) [])) (fun n _ => nn + 1 - (intOf n).toNat)
    case atStart => exact ⟨0, by omega, rfl, H2⟩
    case round =>
      clear H2
      obtain ⟨d, hd, rfl, H2⟩ := hrel
      by_cases hlt : d < nn
      · have hkI : (d : Int) + 1 ≤ (nn : Int) := by omega
        have hd16 : d < 16 := by omega
        have H3 := Lib.hid (ai_red H2.out (bat_one (heap_alloc_new wr (rqObj 0 ((d : Int) + 1)))) ((Upd.refl _ _).alloc _) (fun k hk => by have := blkIf_sub hk; simp [blkOf] at this; omega))
        obtain ⟨u1, u2⟩ := gz_pre f vw d hd16
        have U1 := Lib.hid u1
        have U2 := Lib.hid u2
        have U3 := Lib.hid (gz_pre2 f vw d hd16)
        have U4 := Lib.hid (gs_nextI f vw d (mPl f (d + 1) 0 0) hd16 rfl)
        have U5 := Lib.hid (gs_done f vw d (mPl f (d + 1) 0 0) (by omega) rfl)
        have HT := Lib.hid (fun n hn => gs_prep f vw d n hd16 hn)
        have HQ4 := Lib.hid (fun n hn => gs_vote4 f vw d n hd16 hn)
        have HQ5 := Lib.hid (fun n hn => gs_vote5 f vw d n hd16 hn)
        have HPD := Lib.hid (gs_prepd f vw d hd16)
        have HTW := Lib.hid (gs_twice f vw d hd16)
        have HCO := Lib.hid (gs_comm f vw d hd16)
        clear u1 u2 H2
        go_wp2_with fail
        generalize wr.alloc (rqObj 0 ((d : Int) + 1)) = w3 at *
        generalize wr.heap.size = gx at *
        refine (ai_pre H3.out ((d : Int) + 1 + 1) (sl1 gx) [rq 0 ((d : Int) + 1)] (redR_out H3.out.ss_own.head) (by simp)).mono ?_
        rintro e w4 ⟨rfl, h4⟩
        rw [pre_no U3.out] at h4
        rw [U3.out]
        have H4 := Lib.hid h4
        clear h4 H3
        go_wp2_with fail
        refine (ai_pre H4.out ((d : Int) + 1) (sl1 gx) [rq 0 ((d : Int) + 1)] (redR_out H4.out.ss_own.head) (by simp)).mono ?_
        rintro e w5 ⟨rfl, h5⟩
        rw [U2.out] at h5
        rw [U1.out]
        have H5 := Lib.hid h5
        clear h5 H4
        go_wp2_with fail
        refine (ai_next H5.out).mono ?_
        rintro e w6 ⟨rfl, hu6⟩
        rw [U4.out]
        have H6 := Lib.hid (H5.out.upd0 hu6)
        clear hu6 H5
        have hx1 : (((d + 2 : Nat) : Int) != (d : Int) + 1 + 1) = false := by simp; omega
        go_wp2_with fail
        refine (ai_done H6.out).mono ?_
        rintro e w' ⟨rfl, rfl⟩
        rw [U5.out]
        have hx2 : (((d : Nat) : Int) != (d : Int) + 1 - 1) = false := by simp
        have hx3 : (((d : Nat) : Int) != (d : Int)) = false := by simp
        go_wp2_with fail
        clear hx1 hx2 hx3 U1 U2 U3 U4 U5
        go_loopw [11] (fun n wx => ∃ q : Nat, q ≤ 2 * f + 1 ∧ n = .int .i64 q ∧ Hid (AtI w.heap.size w wx i (gs f vw d (mPl f (d + 1) q q)) [redR (sl1 gx) 6 1 (rqsCells [rq 0 ((d : Int) + 1)])])) (fun n _ => 2 * f + 1 - (intOf n).toNat)
        case atStart => exact ⟨0, by omega, rfl, H6⟩
        case round =>
          clear H6
          obtain ⟨q, hq, rfl, H6⟩ := hrel
          by_cases hlq : q < 2 * f + 1
          · have hqI : (q : Int) < 2 * (f : Int) + 1 := by omega
            have V0 := Lib.hid (HT.out q hlq)
            have V4 := Lib.hid (HQ4.out q (by omega))
            have V5 := Lib.hid (HQ5.out q (by omega))
            go_wp2_with fail
            refine (rquorum_any f _ (by omega) (by omega)).mono ?_
            rintro e w' ⟨rfl, rfl⟩
            go_wp2_with fail
            refine (ai_prepared H6.out ((d : Int) + 1)).mono ?_
            rintro e w7 ⟨c, rfl, hc, h7⟩
            rw [V0.out] at hc
            rw [prep_off V0.out] at h7
            rw [V0.out]
            obtain ⟨ao2, cap2, co2, cav2, rfl, -⟩ := told_form hc (p := noCp) rfl
            have H7 := Lib.hid (ai_drop (ai_box h7 (ctO noCp.view noCp.inst noCp.seq (.slice ao2 noCp.rs.length cap2) (.slice co2 noCp.vs.length cav2))))
            clear h7 hc H6
            go_wp2_with fail
            generalize w7.alloc (ctO noCp.view noCp.inst noCp.seq (.slice ao2 noCp.rs.length cap2) (.slice co2 noCp.vs.length cav2)) = w8 at *
            refine (ai_vote H7.out 4 ((d : Int) + 1) q 1 (sl1 gx) [rq 0 ((d : Int) + 1)] (redR_out H7.out.ss_own.head) (by simp)).mono ?_
            rintro e w9 ⟨rfl, h9⟩
            rw [V4.out.2] at h9
            rw [V4.out.1]
            have H9 := Lib.hid h9
            clear h9 H7
            go_wp2_with fail
            refine (ai_vote H9.out 5 ((d : Int) + 1) q 2 (sl1 gx) [rq 0 ((d : Int) + 1)] (redR_out H9.out.ss_own.head) (by simp)).mono ?_
            rintro e w10 ⟨rfl, h10⟩
            rw [V5.out.2] at h10
            rw [V5.out.1]
            have H10 := Lib.hid h10
            clear h10 H9
            go_wp2_with fail
            go_roundw
            case rel => exact ⟨q + 1, by omega, by go_num, H10⟩
            case measure => simp [intOf]; omega
          · have hq' : q = 2 * f + 1 := by omega
            subst hq'
            have hqI : ¬ ((2 * f + 1 : Nat) : Int) < 2 * (f : Int) + 1 := by omega
            have hqb : decide (((2 * f + 1 : Nat) : Int) < 2 * (f : Int) + 1) = false := by simp
            clear hq hlq HT HQ4 HQ5
            go_wp2_with fail
            refine (rquorum_any f _ (by omega) (by omega)).mono ?_
            rintro e w' ⟨rfl, rfl⟩
            go_wp2_with fail
            refine (ai_prepared2 H6.out ((d : Int) + 1)).mono ?_
            rintro e w7 ⟨c, rfl, hc, h7⟩
            rw [HPD.out.1] at hc
            rw [HPD.out.2] at h7
            rw [HPD.out.1]
            obtain ⟨ao1, cap1, co1, cav1, rfl, -⟩ := told_form hc (p := pCp f vw (d + 1)) rfl
            have H7 := Lib.hid (ai_box h7 (ctO (pCp f vw (d + 1)).view (pCp f vw (d + 1)).inst (pCp f vw (d + 1)).seq (.slice ao1 (pCp f vw (d + 1)).rs.length cap1) (.slice co1 (pCp f vw (d + 1)).vs.length cav1)))
            clear h7 hc H6
            go_wp2_with fail
            generalize w7.alloc (ctO (pCp f vw (d + 1)).view (pCp f vw (d + 1)).inst (pCp f vw (d + 1)).seq (.slice ao1 (pCp f vw (d + 1)).rs.length cap1) (.slice co1 (pCp f vw (d + 1)).vs.length cav1)) = w8 at *
            generalize w7.heap.size = b1 at *
            refine (ai_prepared H7.out ((d : Int) + 1)).mono ?_
            rintro e w9 ⟨c, rfl, hc, h9⟩
            rw [HTW.out] at hc
            rw [prep_off HTW.out] at h9
            rw [HTW.out]
            obtain ⟨ao2, cap2, co2, cav2, rfl, -⟩ := told_form hc (p := noCp) rfl
            have H9 := Lib.hid (ai_drop (ai_box h9 (ctO noCp.view noCp.inst noCp.seq (.slice ao2 noCp.rs.length cap2) (.slice co2 noCp.vs.length cav2))))
            clear h9 hc
            go_wp2_with fail
            generalize w9.alloc (ctO noCp.view noCp.inst noCp.seq (.slice ao2 noCp.rs.length cap2) (.slice co2 noCp.vs.length cav2)) = w10 at *
            refine (ai_commits2 H9.out ((d : Int) + 1)).mono ?_
            rintro e w11 ⟨c, rfl, hc, h11⟩
            rw [HCO.out.1] at hc
            rw [HCO.out.2] at h11
            rw [HCO.out.1]
            obtain ⟨ao3, cap3, co3, cav3, rfl, -⟩ := told_form hc (p := dCp f vw (d + 1)) rfl
            have H11 := Lib.hid (ai_box h11 (ctO (dCp f vw (d + 1)).view (dCp f vw (d + 1)).inst (dCp f vw (d + 1)).seq (.slice ao3 (dCp f vw (d + 1)).rs.length cap3) (.slice co3 (dCp f vw (d + 1)).vs.length cav3)))
            clear h11 hc H9 H7
            go_upto_region 22 with fail
            generalize w11.alloc (ctO (dCp f vw (d + 1)).view (dCp f vw (d + 1)).inst (dCp f vw (d + 1)).seq (.slice ao3 (dCp f vw (d + 1)).rs.length cap3) (.slice co3 (dCp f vw (d + 1)).vs.length cav3)) = w12 at *
            generalize w11.heap.size = b2 at *
            have hvv : (vw != vw) = false := by simp
            have hlen : (((2 * f + 1 : Nat) : Int) != 2 * (f : Int) + 1) = false := by simp
            have e1 : (rq 0 ((d + 1 : Nat) : Int)) = rq 0 ((d : Int) + 1) := rfl
            go_cut [182] (fun t wx => t = .bool false ∧ Hid (AtI w.heap.size w wx i (gz f vw (d + 1)) []))
            case first =>
              have h12 := H11.out.drew
              have s12 := h12.ss_own
              obtain ⟨-, -, -, k3, -, lb2, -⟩ := ct_cells s12.blk_out
              obtain ⟨j0, -, -, j3, j4, lb1, -⟩ := ct_cells s12.drop.drop.drop.blk_out
              have K3 : w12.drew.cell? ⟨b2, 3, none⟩ = some (.slice ao3 1 cap3) := k3
              have J3 : w12.drew.cell? ⟨b1, 3, none⟩ = some (.slice ao1 1 cap1) := j3
              have J0 : w12.drew.cell? ⟨b1, 0, none⟩ = some (.int .i64 vw) := j0
              have J4 : w12.drew.cell? ⟨b1, 4, none⟩ = some (.slice co1 (2 * f + 1) cav1) := by rw [j4]; exact congrArg (fun n => some (Value.slice co1 n cav1)) (qvs_len f 1 _)
              have B1 : Bat w12.drew (.slice ao1 1 cap1) [rq 0 ((d : Int) + 1)] := redR_out s12.drop.drop.drop.drop.drop.head
              have B2 : Bat w12.drew (.slice ao3 1 cap3) [rq 0 ((d : Int) + 1)] := redR_out s12.drop.drop.head
              have B3 : Bat w12.drew (sl1 gx) [rq 0 ((d : Int) + 1)] := redR_out s12.drop.drop.drop.drop.drop.drop.head
              have C2 : ∀ {W'}, Upd [] w12.drew W' → Bat W' (.slice ao3 1 cap3) [rq 0 ((d : Int) + 1)] := fun hu => B2.upd (M := []) hu (by simp)
              have C3 : ∀ {W'}, Upd [] w12.drew W' → Bat W' (sl1 gx) [rq 0 ((d : Int) + 1)] := fun hu => B3.upd (M := []) hu (by simp)
              clear k3 j0 j3 j4 s12
              go_region_held3 (fun w' => w'.cell? ⟨b1, 3, none⟩ = some (.slice ao1 1 cap1) ∧ w'.cell? ⟨b1, 0, none⟩ = some (.int .i64 vw) ∧ w'.cell? ⟨b1, 4, none⟩ = some (.slice co1 (2 * f + 1) cav1) ∧ w'.cell? ⟨b2, 3, none⟩ = some (.slice ao3 1 cap3))
                (first | (with_reducible exact ⟨J3, J0, J4, K3⟩) | (with_reducible exact ⟨m1, m2, m3, m4⟩) | (with_reducible exact ⟨n1, n2, n3, n4⟩))
                (first
                  | (go_at_call 26; (with_reducible refine (sameR_any (.slice ao1 1 cap1) (sl1 gx) [rq 0 ((d : Int) + 1)] [rq 0 ((d : Int) + 1)] w12.drew (by simp) (by simp) B1 B3).mono ?_); rintro e w13 ⟨rfl, hu13⟩; rw [decide_eq_true rfl]; have m1 := (hu13.cell (o := 3) lb1 (by simp)).trans J3; have m2 := (hu13.cell (o := 0) lb1 (by simp)).trans J0; have m3 := (hu13.cell (o := 4) lb1 (by simp)).trans J4; have m4 := (hu13.cell (o := 3) lb2 (by simp)).trans K3)
                  | (go_at_call 26; refine (sameR_any (.slice ao3 1 cap3) (sl1 gx) [rq 0 ((d : Int) + 1)] [rq 0 ((d : Int) + 1)] w13 (by simp) (by simp) (C2 hu13) (C3 hu13)).mono ?_; rintro e w14 ⟨rfl, hu14⟩; rw [decide_eq_true rfl]; have hu15 := hu13.trans hu14; have n1 := (hu15.cell (o := 3) lb1 (by simp)).trans J3; have n2 := (hu15.cell (o := 0) lb1 (by simp)).trans J0; have n3 := (hu15.cell (o := 4) lb1 (by simp)).trans J4; have n4 := (hu15.cell (o := 3) lb2 (by simp)).trans K3)
                  | (go_at_call 27; refine (rquorum_any f _ (by omega) (by omega)).mono ?_; rintro e w16 ⟨rfl, rfl⟩))
              go_wp2_with fail
              go_meet
              exact ⟨rfl, Lib.hid (ai_drop (ai_drop (ai_drop (ai_drop (ai_drop (ai_drop (ai_drop (h12.upd0 hu15))))))))⟩
            case rest =>
              obtain ⟨rfl, H12⟩ := hcut
              clear H11
              go_wp2_with fail
              go_roundw
              case rel => exact ⟨d + 1, by omega, by go_num, H12⟩
              case measure => simp [intOf]; omega
      · have hdn : d = nn := by omega
        subst hdn
        have hkI : ¬ ((d : Int) + 1 ≤ (d : Int)) := by omega
        have hkb : decide ((d : Int) + 1 ≤ (d : Int)) = false := by simp; omega
        have HD := Lib.hid (gs_done f vw d (emptyPl f) (by omega) rfl)
        have HC := Lib.hid (gz_certs f vw d (by omega))
        clear hkI
        go_wp2_with fail
        refine (ai_done H2.out).mono ?_
        rintro e w' ⟨rfl, rfl⟩
        rw [HD.out]
        go_wp2_with fail
        refine (ai_certs H2.out).mono ?_
        rintro e w3 ⟨u, cts, rfl, hc, h3⟩
        have hl : cts.length = d := by rw [← HC.out, ← hc, List.length_map]
        rw [hl] at h3
        have ho := ownR_owns h3.ss_own.head
        obtain ⟨ao, cap, rfl⟩ := row_shape ho
        have H3 := Lib.hid h3.below
        clear h3 ho hc hl H2
        go_wp2_with fail
        refine (wakes15_any _).mono ?_
        rintro e w4 ⟨rfl, hb⟩
        have H4 := Lib.hid (H3.out.trans (hb.mono H3.out.size))
        clear hb H3
        go_wp2_with fail
        go_ret
        exact ⟨rfl, H4.out⟩

end Go.Proofs.Ytdeadekeffficaa
