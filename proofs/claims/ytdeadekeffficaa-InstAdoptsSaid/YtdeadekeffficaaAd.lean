/- The walk of the law InstAdopts. -/
import Derived.Test.YtdeadekeffficaaAdP
import Derived.Test.YtdeadekeffficaaInK
import Derived.Test.YtdeadekeffficaaArgs
namespace Go.Proofs.Ytdeadekeffficaa
open Go.RowKit Go.Heap

def AdS (w wx : World) (i gb f : Nat) (h : Nat → Bool) : Prop := ∃ v on, AtI w.heap.size w wx i (ap f v on h) [blk gb (has18 h)]

theorem ads_below {w wx : World} {i gb f : Nat} {h : Nat → Bool} (hs : AdS w wx i gb f h) : Below w.heap.size w wx := let ⟨_, _, h⟩ := hs; h.below

theorem Bat.box {w : World} {v : Value} {l : List Rq} (h : Bat w v l) (o : Obj) : Bat (w.alloc o) v l := h.upd (M := []) ((Upd.refl _ _).alloc o) (by simp)

set_option maxHeartbeats 2000000 in
set_option maxRecDepth 100000 in
theorem adopts_any (a0 : Int) (v : Value) (zs : List Int) {w : World} (hv : Ints w v zs) (a2 : Int) : Calls Try.prog 11 #[.int .i64 a0, v, .int .i64 a2] w fun e w' => e = .returned (.bool true) ∧ Below w.heap.size w w' := by
  obtain ⟨ao, cap, rfl, hl1, hl2, -⟩ := id hv
  have hmx : zs.length ≤ 9223372036854775807 := by unfold maxLen at hl2; omega
  clear hl1 hl2
  have HZ := Lib.hid hv
  clear hv
  obtain ⟨f, hf1, hf2, hfv⟩ := f_of a0
  have HV := Lib.hid hfv
  clear hfv
  obtain ⟨p1, p2⟩ := emod_in a0 4 (by omega)
  obtain ⟨q1, q2⟩ := emod_in a2 12 (by omega)
  go_enter Try.func11, Try.ntmps11
  go_wp2_with fail
  refine (Within_any a0 4 _ (by omega) (by omega)).mono ?_
  rintro e w' ⟨rfl, rfl⟩
  go_wp2_with fail
  rw [HV.out]
  clear p1 p2
  refine (ai_new f 1 2 hf1 hf2 (by omega) (by omega) (by omega) (by omega) (Own.start (Below.refl w.heap.size w) (Nat.le_refl _))).mono ?_
  rintro e w1 ⟨i, rfl, h1⟩
  rw [ap_new] at h1
  have H1 := Lib.hid h1
  clear h1
  go_wp2_with fail
  refine (Within_any a2 12 _ (by omega) (by omega)).mono ?_
  rintro e w' ⟨rfl, rfl⟩
  generalize a2 % 12 = vw at *
  go_upto_if 34 with fail
  go_cut [] (fun wx => Hid (∃ v on, AtI w.heap.size w wx i (ap f v on (fun _ => false)) []))
  case first =>
    by_cases h0 : 0 < vw
    · have HL := Lib.hid (ap_leave f vw h0 (by omega))
      go_wp2_with fail
      refine (ai_leave H1.out vw).mono ?_
      rintro e w2 ⟨rfl, h2⟩
      rw [HL.out] at h2
      have H2 := Lib.hid h2
      clear h2
      go_wp2_with fail
      go_meet
      exact Lib.hid ⟨vw, false, H2.out⟩
    · have h0b : decide (0 < vw) = false := by simp; omega
      go_wp2_with fail
      go_meet
      exact Lib.hid ⟨0, true, H1.out⟩
  case rest =>
    clear H1 q1 q2
    obtain ⟨v0, on0, h1⟩ := hcut.out
    have H1 : Hid (AdS w (wc.alloc (.cells #[.bool false, .bool false, .bool false, .bool false, .bool false, .bool false, .bool false, .bool false, .bool false, .bool false, .bool false, .bool false, .bool false, .bool false, .bool false, .bool false, .bool false, .bool false] 67)) i wc.heap.size f (fun _ => false)) := Lib.hid ⟨v0, on0, ai_box h1 (has18 fun _ => false)⟩
    clear h1 hcut
    go_upto_block 0 with fail
    generalize wc.alloc (.cells #[.bool false, .bool false, .bool false, .bool false, .bool false, .bool false, .bool false, .bool false, .bool false, .bool false, .bool false, .bool false, .bool false, .bool false, .bool false, .bool false, .bool false, .bool false] 67) = w2 at *
    generalize wc.heap.size = gb at *
    have HO : Hid (Only fun _ => false) := Lib.hid (by intro j hj; simp at hj)
    go_cut [11] (fun _ wx => Hid (Below w.heap.size w wx))
    case first =>
      go_wp2_with fail
      go_loopw [11] (fun n wr => ∃ (k : Nat) (h : Nat → Bool), k ≤ zs.length ∧ n = .int .i64 k ∧ Hid (Only h) ∧ Hid (AdS w wr i gb f h)) (fun n _ => zs.length - (intOf n).toNat)
      case atStart => exact ⟨0, _, by omega, rfl, HO, H1⟩
      case round =>
        clear HO H1
        obtain ⟨k, h, hk, rfl, HO, H1⟩ := hrel
        have HBL := Lib.hid (ads_below H1.out)
        by_cases hlt : k < zs.length
        · have hkI : (k : Int) < (zs.length : Int) := by omega
          by_cases h40 : k < 60
          · have hk40 : (k : Int) < 60 := by omega
            obtain ⟨-, b, o, rfl, hbl, c0⟩ := (HZ.out.upd (Upd.of_below (M := []) HBL.out) (by simp)).at k hlt
            have hz := emod_in zs[k] 16 (by omega)
            obtain ⟨m, hm1, hm2, hme⟩ : ∃ m : Nat, 1 ≤ m ∧ m ≤ 16 ∧ 1 + zs[k] % 16 = m := ⟨(1 + zs[k] % 16).toNat, by omega, by omega, by omega⟩
            obtain ⟨hz1, hz2⟩ := hz
            have HME := Lib.hid hme
            clear hme
            generalize zs[k] = z at *
            go_wp2_with fail
            refine (Within_any z 16 _ (by omega) (by omega)).mono ?_
            rintro e w' ⟨rfl, rfl⟩
            go_upto_region 14 with fail
            rw [HME.out]
            obtain ⟨v1, on1, h1⟩ := H1.out
            have H2 := Lib.hid (ai_box (ai_red h1 (bat_one (heap_alloc_new wr (rqObj 0 m))) ((Upd.refl _ _).alloc _) (fun k hk => by have := blkIf_sub hk; simp [blkOf] at this; omega)) (ctO 0 1 m (sl1 wr.heap.size) (.slice none 0 0)))
            clear h1 H1 c0 hbl
            generalize hcb : (wr.alloc (rqObj 0 m)).heap.size = cb at H2
            have hcb2 : wr.heap.size + 1 = cb := by rw [← hcb]; simp
            rw [hcb2]
            clear hcb hcb2
            generalize (wr.alloc (rqObj 0 m)).alloc (ctO 0 1 m (sl1 wr.heap.size) (.slice none 0 0)) = w3 at *
            generalize wr.heap.size = gx at *
            go_cut [71] (fun t wx => t = .bool false ∧ Hid (AtI w.heap.size w wx i (ap f v1 on1 (addH h m)) [blk cb (ctO 0 1 m (sl1 gx) (.slice none 0 0)), redR (sl1 gx) 6 1 (rqsCells [rq 0 m]), blk gb (has18 h)]))
            case first =>
              have h3 := H2.out.drew
              obtain ⟨f0, f1, f2, f3, f4, -, -⟩ := ct_cells (ai_blk h3)
              have hg := has18_cell (ai_drop (ai_drop h3)).ss_own.blk_out m (by omega)
              have HA1 := Lib.hid (ai_adopt h3 ⟨0, 0, m, .slice none 0 0, .slice none 0 0, [], []⟩ (Reads.nil _ _) (by simp) (Reads.nil _ _) (by simp))
              rw [show (Ct.cp ⟨0, 0, m, .slice none 0 0, .slice none 0 0, [], []⟩) = ⟨0, 0, m, [], []⟩ from rfl, ap_other, adopt_off (ap_other f v1 on1 h m [] [])] at HA1
              have HB2 := Lib.hid (fun h => ap_b f v1 on1 h m hm1 hm2 [rq 0 m])
              have HAD := Lib.hid (ap_adopt f v1 on1 h m hm1 hm2)
              clear h3
              have hmI0 : (0 : Int) ≤ (m : Int) := by omega
              have hmI1 : (m : Int) < 18 := by omega
              go_region_held3 (fun w' => w'.cell? ⟨cb, 0, none⟩ = some (.int .i64 0) ∧ w'.cell? ⟨cb, 1, none⟩ = some (.int .i64 1) ∧ w'.cell? ⟨cb, 2, none⟩ = some (.int .i64 m) ∧ w'.cell? ⟨cb, 3, none⟩ = some (sl1 gx) ∧ w'.cell? ⟨cb, 4, none⟩ = some (.slice none 0 0) ∧ w'.cell? ⟨gb, m, none⟩ = some (.bool (h m)))
                (first | (with_reducible exact ⟨f0, f1, f2, f3, f4, hg⟩) | (with_reducible exact ⟨j0, j1, j2, j3, j4, jg⟩) | (with_reducible exact ⟨k0, k1, k2, k3, k4, kg⟩))
                (first
                  | (go_at_call 39; (with_reducible refine HA1.out.mono ?_); rintro e w5 ⟨rfl, h5⟩; have H5 := Lib.hid h5; obtain ⟨j0, j1, j2, j3, j4, -, -⟩ := ct_cells (ai_blk h5); have jg := has18_cell (ai_drop (ai_drop h5)).ss_own.blk_out m (by omega); clear h5)
                  | (go_at_call 39; refine (ai_adopt H5.out ⟨0, 1, m, sl1 gx, .slice none 0 0, [rq 0 m], []⟩ (redR_out (ai_drop H5.out).ss_own.head) (by simp) (Reads.nil _ _) (by simp)).mono ?_; rintro e w6 ⟨rfl, h6⟩; have H6 := Lib.hid h6; obtain ⟨k0, k1, k2, k3, k4, -, -⟩ := ct_cells (ai_blk h6); have kg := has18_cell (ai_drop (ai_drop h6)).ss_own.blk_out m (by omega); clear h6))
              go_wp2_with fail
              go_meet
              refine ⟨?_, ?_⟩
              · rw [show (Ct.cp ⟨0, 1, m, sl1 gx, .slice none 0 0, [rq 0 m], []⟩) = ⟨0, 1, m, [rq 0 m], []⟩ from rfl, HB2.out h]
                cases h m <;> rfl
              · have h6 := H6.out
                rw [show (Ct.cp ⟨0, 1, m, sl1 gx, .slice none 0 0, [rq 0 m], []⟩) = aCp m from rfl, HAD.out] at h6
                exact Lib.hid h6
            case rest =>
              obtain ⟨rfl, H7⟩ := hcut
              clear H2
              have h7 : AtI w.heap.size w wc i (ap f v1 on1 (addH h m)) [blk gb (has18 h), blk cb (ctO 0 1 m (sl1 gx) (.slice none 0 0))] := ai_drop (ai_perm H7.out ((List.Perm.swap _ _ _).trans ((List.Perm.swap _ _ _).cons _)))
              have hne := blk_ne h7.ss_own
              have hne' : cb ≠ gb := fun e => hne e.symm
              have hcm := has18_cell h7.ss_own.blk_out m (by omega)
              have hfm := block_frozen h7.ss_own.blk_out m
              obtain ⟨f0, f1, f2, f3, f4, -, ffz⟩ := ct_cells h7.ss_own.drop.blk_out
              have ff3 := ffz 3
              have h8 := ai_store h7 m (.bool true)
              rw [has18_set] at h8
              have h9 : AtI w.heap.size w ((wc.setCell ⟨gb, m, none⟩ (.bool true)).setCell ⟨cb, 3, none⟩ (.slice none 0 0)) i (ap f v1 on1 (addH h m)) [blk cb (ctO 0 1 m (.slice none 0 0) (.slice none 0 0)), blk gb (has18 (addH h m))] := ai_store (ai_perm h8 (List.Perm.swap _ _ _)) 3 (.slice none 0 0)
              have H9 := Lib.hid (ai_drop h9)
              have HB9 := Lib.hid (ap_b f v1 on1 (addH h m) m hm1 hm2 [])
              rw [addH_self] at HB9
              have HO2 := Lib.hid (only_add HO.out hm1 hm2)
              have HM2 := Lib.hid (addH_self h m)
              have hmI0 : (0 : Int) ≤ (m : Int) := by omega
              have hmI1 : (m : Int) < 18 := by omega
              clear h7 h8 h9 H7 ffz
              go_wp2_with fail
              generalize addH h m = h2 at *
              generalize (wc.setCell ⟨gb, m, none⟩ (.bool true)).setCell ⟨cb, 3, none⟩ (.slice none 0 0) = w9 at *
              clear hcm hfm f0 f1 f2 f3 f4 ff3 hne hne' hmI0 hmI1
              refine (ai_adopt H9.out ⟨0, 1, m, .slice none 0 0, .slice none 0 0, [], []⟩ (Reads.nil _ _) (by simp) (Reads.nil _ _) (by simp)).mono ?_
              rintro e w10 ⟨rfl, h10⟩
              rw [show (Ct.cp ⟨0, 1, m, .slice none 0 0, .slice none 0 0, [], []⟩) = ⟨0, 1, m, [], []⟩ from rfl] at h10 ⊢
              rw [adopt_off HB9.out] at h10
              rw [HB9.out]
              have H10 := Lib.hid h10
              clear h10 H9 HB9
              go_wp2_with fail
              go_loop [14] (fun n => ∃ q : Nat, q ≤ 16 ∧ n = .int .i64 q ∧ Hid (∀ j, 1 ≤ j → j ≤ q → h2 j = true)) (fun n => 17 - (intOf n).toNat)
              case atStart => exact ⟨0, by omega, rfl, Lib.hid (by intro j h1 h2; omega)⟩
              case round =>
                obtain ⟨q, hq, rfl, HQ⟩ := hrel
                have hcq := has18_cell H10.out.ss_own.blk_out (q + 1) (by omega)
                cases hn : h2 (q + 1)
                · rw [hn] at hcq
                  have HD := Lib.hid (ap_done f v1 on1 h2 q hq HQ.out (fun _ => hn))
                  have HC := Lib.hid (ap_committed f v1 on1 h2 m hm1 hm2 HM2.out)
                  have HU := Lib.hid (ap_used f v1 on1 h2 m hm1 hm2 HM2.out)
                  clear hn
                  go_wp2_with fail
                  refine (ai_committed H10.out m).mono ?_
                  rintro e w11 ⟨c, rfl, hc, h11⟩
                  rw [HC.out] at hc
                  rw [HC.out]
                  obtain ⟨ao2, cap2, co2, cav2, rfl, -, hb11, -⟩ := told_form hc (p := aCp m) rfl
                  have H12 := Lib.hid (ai_box h11 (ctO (aCp m).view (aCp m).inst (aCp m).seq (.slice ao2 (aCp m).rs.length cap2) (.slice co2 (aCp m).vs.length cav2)))
                  have HB12 := Lib.hid (Bat.box hb11 (ctO (aCp m).view (aCp m).inst (aCp m).seq (.slice ao2 (aCp m).rs.length cap2) (.slice co2 (aCp m).vs.length cav2)))
                  clear h11 hc hb11 hcq
                  have hqb : ((q : Int) != (q : Int)) = false := by simp
                  go_wp2_with fail
                  generalize w11.alloc (ctO (aCp m).view (aCp m).inst (aCp m).seq (.slice ao2 (aCp m).rs.length cap2) (.slice co2 (aCp m).vs.length cav2)) = w12 at *
                  generalize w11.heap.size = bx at *
                  have hbx := ai_blk H12.out
                  have d3 : w12.cell? ⟨bx, 3, none⟩ = some (.slice ao2 1 cap2) := by rw [block_cell hbx]; rfl
                  have lbx := block_lt hbx
                  have H13 := Lib.hid (ai_drop H12.out)
                  clear hbx H12
                  refine (ai_done H13.out).mono ?_
                  rintro e w' ⟨rfl, rfl⟩
                  rw [HD.out]
                  have HB14 := Lib.hid (show Bat (w12.alloc (rqObj 0 m)) (.slice ao2 1 cap2) [rq 0 m] from Bat.box HB12.out (rqObj 0 m))
                  have HS14 := Lib.hid (bat_one (heap_alloc_new w12 (rqObj 0 m)))
                  have H14 := Lib.hid (H13.out.alloc (rqObj 0 m))
                  clear HB12 H13
                  go_wp2_with fail
                  refine (sameR_any _ (sl1 w12.heap.size) [rq 0 m] [rq 0 m] _ (by simp) (by simp) HB14.out HS14.out).mono ?_
                  rintro e w15 ⟨rfl, hu15⟩
                  rw [decide_eq_true rfl]
                  have H15 := Lib.hid (H14.out.upd0 hu15)
                  clear hu15 H14 HB14 HS14 d3 lbx
                  go_wp2_with fail
                  refine (ai_used H15.out (rq 0 m)).mono ?_
                  rintro e w16 ⟨rfl, hu16⟩
                  rw [HU.out]
                  have H16 := Lib.hid (show AdS w w16 i gb f h2 from ⟨v1, on1, H15.out.upd0 hu16⟩)
                  clear hu16 H15
                  go_wp2_with fail
                  go_roundw
                  case rel => exact ⟨k + 1, h2, by omega, by go_num, HO2, H16⟩
                  case measure => simp [intOf]; omega
                · rw [hn] at hcq
                  have hq2 := (HO2.out _ hn).2
                  have HN := Lib.hid hn
                  clear hn
                  go_wp2_with fail
                  go_round
                  case rel =>
                    refine ⟨q + 1, by omega, by go_num, Lib.hid (fun j h1 h2 => ?_)⟩
                    by_cases e : j = q + 1
                    · subst e; exact HN.out
                    · exact HQ.out j h1 (by omega)
                  case measure => simp [intOf]; omega
          · have hk40 : ¬ (k : Int) < 60 := by omega
            have hqb : decide ((k : Int) < 60) = false := by simp; omega
            go_wp2_with fail
            go_meet
            exact HBL
        · have hkI : ¬ (k : Int) < (zs.length : Int) := by omega
          have hqb : decide ((k : Int) < (zs.length : Int)) = false := by simp; omega
          go_wp2_with fail
          go_meet
          exact HBL
    case rest =>
      clear HO H1
      go_wp2_with fail
      refine (wakes15_any _).mono ?_
      rintro e w3 ⟨rfl, hb⟩
      have H3 := Lib.hid (hcut.out.trans (hb.mono hcut.out.size))
      clear hb hcut
      go_wp2_with fail
      go_ret
      exact ⟨rfl, H3.out⟩

end Go.Proofs.Ytdeadekeffficaa
