/- The walk of the law InstCerts. -/
import Derived.Test.YtdeadekeffficaaCeP
import Derived.Test.YtdeadekeffficaaKeepC
import Derived.Test.YtdeadekeffficaaInQ
import Derived.Test.YtdeadekeffficaaInM
import Derived.Test.YtdeadekeffficaaArgs
namespace Go.Proofs.Ytdeadekeffficaa
open Go.RowKit Go.Heap

theorem ctsR_out {w : World} {A : List Nat} {cts : List Ct} {c : Ct} (h : (ctsR cts).At w A) (hc : c ∈ cts) : Bat w c.vb c.rs ∧ c.rs.length ≤ 100000 ∧ Vts w c.vv c.vs ∧ c.vs.length ≤ 100000 :=
  let ⟨_, q, _⟩ := h
  let ⟨h1, h2, h3, h4⟩ := q.1 c hc
  ⟨h1.1, h2, h3.1, h4⟩

def CeS (w wx : World) (i f : Nat) (num : Int) (k : Nat) (view : Int) : Prop :=
  0 ≤ view ∧ view ≤ 12 ∧ if k = 0 then view = 0 ∧ AtI w.heap.size w wx i (cs f num 0 true (ePl f none)) [] else ∃ t b, AtI w.heap.size w wx i (cs f num view true (cPl f num view t b)) []

theorem ces_below {w wx : World} {i f : Nat} {num : Int} {k : Nat} {view : Int} (h : CeS w wx i f num k view) : Below w.heap.size w wx := by
  obtain ⟨-, -, h⟩ := h
  split at h
  · exact h.2.below
  · obtain ⟨t, b, h⟩ := h; exact h.below

set_option maxHeartbeats 4000000 in
set_option maxRecDepth 100000 in
theorem certs15_any (a0 a1 : Int) (v : Value) (zs : List Int) {w : World} (hv : Ints w v zs) : Calls Try.prog 12 #[.int .i64 a0, .int .i64 a1, v] w fun e w' => e = .returned (.bool true) ∧ Below w.heap.size w w' := by
  obtain ⟨ao, cap, rfl, hl1, hl2, -⟩ := id hv
  have hmx : zs.length ≤ 9223372036854775807 := by unfold maxLen at hl2; omega
  clear hl1 hl2
  have HZ := Lib.hid hv
  clear hv
  obtain ⟨f, hf1, hf2, hfv⟩ := f_of a0
  have HV := Lib.hid hfv
  clear hfv
  obtain ⟨p1, p2⟩ := emod_in a0 4 (by omega)
  obtain ⟨q1, q2⟩ := emod_in a1 ((f : Int) + 1) (by omega)
  go_enter Try.func12, Try.ntmps12
  go_wp2_with fail
  refine (Within_any a0 4 _ (by omega) (by omega)).mono ?_
  rintro e w' ⟨rfl, rfl⟩
  go_wp2_with fail
  rw [HV.out]
  clear p1 p2
  refine (Within_any a1 ((f : Int) + 1) _ (by omega) (by omega)).mono ?_
  rintro e w' ⟨rfl, rfl⟩
  generalize a1 % ((f : Int) + 1) = num at *
  go_wp2_with fail
  refine (ai_new f num 4 hf1 hf2 (by omega) (by omega) (by omega) (by omega) (Own.start (Below.refl w.heap.size w) (Nat.le_refl _))).mono ?_
  rintro e w1 ⟨i, rfl, h1⟩
  rw [cs_new] at h1
  have H1 : Hid (CeS w w1 i f num 0 0) := Lib.hid ⟨by omega, by omega, by rw [if_pos rfl]; exact ⟨rfl, h1⟩⟩
  clear h1
  go_wp2_with fail
  go_loopw [9, 10] (fun vw n wr => ∃ (k : Nat) (view : Int), k ≤ zs.length + 1 ∧ k ≤ 20 ∧ vw = .int .i64 view ∧ n = .int .i64 k ∧ Hid (CeS w wr i f num k view)) (fun _ n _ => 20 - (intOf n).toNat)
  case atStart => exact ⟨0, 0, by omega, by omega, rfl, rfl, H1⟩
  case round =>
    clear H1
    obtain ⟨k, view, hkl, hk20, rfl, rfl, H1⟩ := hrel
    have HBL := Lib.hid (ces_below H1.out)
    by_cases hlt : k ≤ zs.length ∧ k < 20
    · obtain ⟨hla, hlb⟩ := hlt
      have hkI : (k : Int) ≤ (zs.length : Int) := by omega
      have hk2I : (k : Int) < 20 := by omega
      by_cases hst : ∃ m, ∃ hm : m < zs.length, k = m + 1 ∧ zs[m] % 13 ≤ view
      · obtain ⟨m, hm, rfl, hle⟩ := hst
        obtain ⟨-, b, o, rfl, hbl, c0⟩ := (HZ.out.upd (Upd.of_below (M := []) HBL.out) (by simp)).at m hm
        obtain ⟨z1, z2⟩ := emod_in zs[m] 13 (by omega)
        obtain ⟨u1, u2, t, b2, h2⟩ : 0 ≤ view ∧ view ≤ 12 ∧ ∃ t b, AtI w.heap.size w wr i (cs f num view true (cPl f num view t b)) [] := H1.out
        have hs := cs_stay f num view t (zs[m] % 13) b2 hle
        have H2 := Lib.hid h2
        have HS := Lib.hid hs
        clear h2 hs H1
        have hz : decide ((0 : Int) < ((m + 1 : Nat) : Int)) = true := by simp
        generalize zs[m] = z at *
        go_wp2_with fail
        refine (Within_any z 13 _ (by omega) (by omega)).mono ?_
        rintro e w' ⟨rfl, rfl⟩
        go_wp2_with fail
        refine (ai_leave H2.out (z % 13)).mono ?_
        rintro e w2 ⟨rfl, h3⟩
        rw [show leaveI (cs f num view true (cPl f num view t b2)) (z % 13) = cs f num view true (cPl f num view t b2) from by unfold leaveI; rw [if_neg (by rw [HS.out]; simp)]] at h3
        rw [HS.out]
        have H3 : Hid (CeS w w2 i f num (m + 1 + 1) view) := Lib.hid ⟨u1, u2, t, b2, h3⟩
        clear h3
        go_wp2_with fail
        go_roundw
        case rel => exact ⟨m + 1 + 1, view, by omega, by omega, rfl, by go_num, H3⟩
        case measure => simp [intOf]; omega
      · go_upto_if 47 with fail
        go_cut [9] (fun t wx => ∃ (view' : Int) (o : Option Cp), t = .int .i64 view' ∧ 0 ≤ view' ∧ view' ≤ 12 ∧ Hid (AtI w.heap.size w wx i (cs f num view' true (ePl f o)) []))
        case first =>
          by_cases hk0 : k = 0
          · subst hk0
            obtain ⟨u1, u2, rfl, h2⟩ : 0 ≤ view ∧ view ≤ 12 ∧ view = 0 ∧ AtI w.heap.size w wr i (cs f num 0 true (ePl f none)) [] := H1.out
            have H2 := Lib.hid h2
            clear h2 H1
            have hz : decide ((0 : Int) < ((0 : Nat) : Int)) = false := rfl
            go_wp2_with fail
            go_meet
            exact ⟨0, none, rfl, by omega, by omega, H2⟩
          · obtain ⟨m, rfl⟩ : ∃ m, k = m + 1 := ⟨k - 1, by omega⟩
            have hm : m < zs.length := by omega
            obtain ⟨-, b, o, rfl, hbl, c0⟩ := (HZ.out.upd (Upd.of_below (M := []) HBL.out) (by simp)).at m hm
            obtain ⟨z1, z2⟩ := emod_in zs[m] 13 (by omega)
            have hle : view < zs[m] % 13 := by
              by_cases e : zs[m] % 13 ≤ view
              · exact absurd ⟨m, hm, rfl, e⟩ hst
              · omega
            clear hst hk0
            obtain ⟨u1, u2, t, b2, h2⟩ : 0 ≤ view ∧ view ≤ 12 ∧ ∃ t b, AtI w.heap.size w wr i (cs f num view true (cPl f num view t b)) [] := H1.out
            obtain ⟨s1, s2⟩ := cs_leave f num view t (zs[m] % 13) b2 hle (by omega)
            have H2 := Lib.hid h2
            have S1 := Lib.hid s1
            have S2 := Lib.hid s2
            clear h2 s1 s2 H1
            have hz : decide ((0 : Int) < ((m + 1 : Nat) : Int)) = true := by simp
            generalize zs[m] = z at *
            go_wp2_with fail
            refine (Within_any z 13 _ (by omega) (by omega)).mono ?_
            rintro e w' ⟨rfl, rfl⟩
            go_wp2_with fail
            refine (ai_leave H2.out (z % 13)).mono ?_
            rintro e w2 ⟨rfl, h3⟩
            rw [S2.out] at h3
            rw [S1.out]
            have H3 := Lib.hid h3
            clear h3 H2
            go_wp2_with fail
            refine (ai_install0 H3.out).mono ?_
            rintro e w3 ⟨rfl, h4⟩
            have H4 := Lib.hid (show AtI w.heap.size w w3 i (cs f num (z % 13) true (ePl f (some (cCp f num view t b2)))) [] from h4)
            clear h4 H3
            go_wp2_with fail
            go_meet
            exact ⟨z % 13, _, rfl, by omega, by omega, H4⟩
        case rest =>
          clear hst H1 HBL
          obtain ⟨vw, oc, rfl, hv1, hv2, H2⟩ := hcut
          have P1 := Lib.hid (cs_pre f num vw oc (10 * (k : Int)) [rq 0 (1 + (k : Int))])
          have HVT := Lib.hid (fun n hn => cs_vote f num vw oc (10 * (k : Int)) [rq 0 (1 + (k : Int))] n hn)
          have HPR := Lib.hid (cs_prep f num vw oc (10 * (k : Int)) [rq 0 (1 + (k : Int))])
          have H3 := Lib.hid (ai_red H2.out (bat_one (heap_alloc_new wc (rqObj 0 (1 + (k : Int))))) ((Upd.refl _ _).alloc _) (fun k hk => by have := blkIf_sub hk; simp [blkOf] at this; omega))
          clear H2
          go_wp2_with fail
          generalize wc.alloc (rqObj 0 (1 + (k : Int))) = w3 at *
          generalize wc.heap.size = gx at *
          refine (ai_pre H3.out 2 (sl1 gx) [rq 0 (1 + (k : Int))] (redR_out H3.out.ss_own.head) (by simp)).mono ?_
          rintro e w4 ⟨rfl, h4⟩
          rw [P1.out.2] at h4
          rw [P1.out.1]
          have H4 := Lib.hid h4
          clear h4 H3 P1
          go_wp2_with fail
          go_loopw [13] (fun n wx => ∃ q : Nat, q ≤ 3 * f + 1 ∧ n = .int .i64 q ∧ Hid (AtI w.heap.size w wx i (cs f num vw true (nPl f oc (10 * (k : Int)) [rq 0 (1 + (k : Int))] q)) [redR (sl1 gx) 6 1 (rqsCells [rq 0 (1 + (k : Int))])])) (fun n _ => 3 * f + 1 - (intOf n).toNat)
          case atStart => exact ⟨0, by omega, rfl, H4⟩
          case round =>
            clear H4
            obtain ⟨q, hq, rfl, H4⟩ := hrel
            by_cases hlq : q < 3 * f + 1
            · have hqI : (q : Int) < 3 * (f : Int) + 1 := by omega
              have V := Lib.hid (HVT.out q hlq)
              go_wp2_with fail
              refine (rnodes_any f _ (by omega) (by omega)).mono ?_
              rintro e w' ⟨rfl, rfl⟩
              go_wp2_with fail
              refine (ai_vote H4.out 4 2 q ((10 * (k : Int)) + q) (sl1 gx) [rq 0 (1 + (k : Int))] (redR_out H4.out.ss_own.head) (by simp)).mono ?_
              rintro e w5 ⟨rfl, h5⟩
              rw [V.out] at h5
              have H5 := Lib.hid h5
              clear h5 H4
              go_wp2_with fail
              go_roundw
              case rel => exact ⟨q + 1, by omega, by go_num, H5⟩
              case measure => simp [intOf]; omega
            · have hq' : q = 3 * f + 1 := by omega
              subst hq'
              have hqb : decide (((3 * f + 1 : Nat) : Int) < 3 * (f : Int) + 1) = false := by simp
              clear hq hlq HVT
              go_wp2_with fail
              refine (rnodes_any f _ (by omega) (by omega)).mono ?_
              rintro e w' ⟨rfl, rfl⟩
              go_wp2_with fail
              refine (ai_prepared2 H4.out 2).mono ?_
              rintro e w5 ⟨c, rfl, hc, h5⟩
              rw [HPR.out.1] at hc
              rw [HPR.out.2] at h5
              rw [HPR.out.1]
              obtain ⟨ao1, cap1, co1, cav1, rfl, -⟩ := told_form hc (p := (cCp f num vw (10 * (k : Int)) [rq 0 (1 + (k : Int))])) rfl
              have H5 := Lib.hid (ai_box h5 (ctO (cCp f num vw (10 * (k : Int)) [rq 0 (1 + (k : Int))]).view (cCp f num vw (10 * (k : Int)) [rq 0 (1 + (k : Int))]).inst (cCp f num vw (10 * (k : Int)) [rq 0 (1 + (k : Int))]).seq (.slice ao1 (cCp f num vw (10 * (k : Int)) [rq 0 (1 + (k : Int))]).rs.length cap1) (.slice co1 (cCp f num vw (10 * (k : Int)) [rq 0 (1 + (k : Int))]).vs.length cav1)))
              clear h5 hc H4 HPR
              go_wp2_with fail
              generalize w5.alloc (ctO (cCp f num vw (10 * (k : Int)) [rq 0 (1 + (k : Int))]).view (cCp f num vw (10 * (k : Int)) [rq 0 (1 + (k : Int))]).inst (cCp f num vw (10 * (k : Int)) [rq 0 (1 + (k : Int))]).seq (.slice ao1 (cCp f num vw (10 * (k : Int)) [rq 0 (1 + (k : Int))]).rs.length cap1) (.slice co1 (cCp f num vw (10 * (k : Int)) [rq 0 (1 + (k : Int))]).vs.length cav1)) = w6 at *
              generalize w5.heap.size = b1 at *
              refine (ai_certs H5.out).mono ?_
              rintro e w7 ⟨u, cts, rfl, hc, h7⟩
              rw [cs_certs] at hc
              obtain ⟨ct, rfl, hct⟩ : ∃ ct, cts = [ct] ∧ ct.cp = (cCp f num vw (10 * (k : Int)) [rq 0 (1 + (k : Int))]) := by
                cases cts with
                | nil => cases hc
                | cons c l =>
                  cases l with
                  | nil => exact ⟨c, rfl, by simpa using hc⟩
                  | cons _ _ => simp at hc
              obtain ⟨vb, vv, rfl⟩ : ∃ vb vv, ct = ⟨vw, num, 2, vb, vv, [rq 0 (1 + (k : Int))], (qc f (10 * (k : Int)) [rq 0 (1 + (k : Int))])⟩ := by
                cases ct
                simp only [Ct.cp, cCp, Cp.mk.injEq] at hct
                obtain ⟨rfl, rfl, rfl, rfl, rfl⟩ := hct
                exact ⟨_, _, rfl⟩
              have hr : Reads w7 u 5 1 [.int .i64 vw, .int .i64 num, .int .i64 2, vb, vv] := owns_reads (ownR_owns h7.ss_own.head)
              have hcx := ctsR_out h7.ss_own.drop.head (c := ⟨vw, num, 2, vb, vv, [rq 0 (1 + (k : Int))], (qc f (10 * (k : Int)) [rq 0 (1 + (k : Int))])⟩) (by simp)
              have bx : Bat w7 vb [rq 0 (1 + (k : Int))] := hcx.1
              have vx : Vts w7 vv (qc f (10 * (k : Int)) [rq 0 (1 + (k : Int))]) := hcx.2.2.1
              clear hcx
              obtain ⟨xo, xcap, rfl⟩ := bat_form bx
              obtain ⟨yo, ycap, rfl⟩ := vts_form vx
              obtain ⟨ao3, cap3, rfl, hr1, hr2, -, -, hr5⟩ := hr
              obtain ⟨b3, o3, rfl, lb3, hcl⟩ := hr5 (by omega)
              have H7 := Lib.hid h7
              clear h7 hc hct H5
              go_upto_region 24 with fail
              have hvv : (vw != vw) = false := by simp
              have hnn : (num != num) = false := by simp
              go_cut [135] (fun t wx => t = .bool false ∧ Hid (CeS w wx i f num (k + 1) vw))
              case first =>
                have s7 := H7.out.ss_own
                obtain ⟨j0, j1, j2, j3, j4, lb1, -⟩ := ct_cells s7.drop.drop.blk_out
                have bv : Bat w7 (.slice ao1 1 cap1) [rq 0 (1 + (k : Int))] := redR_out s7.drop.drop.drop.drop.head
                have vv1 : Vts w7 (.slice co1 (qc f (10 * (k : Int)) [rq 0 (1 + (k : Int))]).length cav1) (qc f (10 * (k : Int)) [rq 0 (1 + (k : Int))]) := redR_out s7.drop.drop.drop.head
                have bg : Bat w7 (sl1 gx) [rq 0 (1 + (k : Int))] := redR_out s7.drop.drop.drop.drop.drop.head
                have CK : ∀ w', Upd [] w7 w' → w'.cell? ⟨b1, 0, none⟩ = some (.int .i64 vw) ∧ w'.cell? ⟨b1, 1, none⟩ = some (.int .i64 num) ∧ w'.cell? ⟨b1, 2, none⟩ = some (.int .i64 2) ∧ w'.cell? ⟨b1, 3, none⟩ = some (.slice ao1 1 cap1) ∧ w'.cell? ⟨b1, 4, none⟩ = some (.slice co1 (qc f (10 * (k : Int)) [rq 0 (1 + (k : Int))]).length cav1) ∧ w'.cell? ⟨b3, o3, none⟩ = some (.int .i64 vw) ∧ w'.cell? ⟨b3, o3 + 1, none⟩ = some (.int .i64 num) ∧ w'.cell? ⟨b3, o3 + 2, none⟩ = some (.int .i64 2) ∧ w'.cell? ⟨b3, o3 + 3, none⟩ = some (.slice xo 1 xcap) ∧ w'.cell? ⟨b3, o3 + 4, none⟩ = some (.slice yo (qc f (10 * (k : Int)) [rq 0 (1 + (k : Int))]).length ycap) := fun w' hu =>
                  ⟨(hu.cell (o := 0) lb1 (by simp)).trans j0, (hu.cell (o := 1) lb1 (by simp)).trans j1, (hu.cell (o := 2) lb1 (by simp)).trans j2, (hu.cell (o := 3) lb1 (by simp)).trans j3, (hu.cell (o := 4) lb1 (by simp)).trans j4,
                   (hu.cell (o := o3) lb3 (by simp)).trans (hcl 0 (by omega)), (hu.cell (o := o3 + 1) lb3 (by simp)).trans (hcl 1 (by omega)), (hu.cell (o := o3 + 2) lb3 (by simp)).trans (hcl 2 (by omega)), (hu.cell (o := o3 + 3) lb3 (by simp)).trans (hcl 3 (by omega)), (hu.cell (o := o3 + 4) lb3 (by simp)).trans (hcl 4 (by omega))⟩
                have CB1 : ∀ w', Upd [] w7 w' → Bat w' (.slice ao1 1 cap1) [rq 0 (1 + (k : Int))] := fun w' hu => bv.upd (M := []) hu (by simp)
                have CV1 : ∀ w', Upd [] w7 w' → Vts w' (.slice co1 (qc f (10 * (k : Int)) [rq 0 (1 + (k : Int))]).length cav1) (qc f (10 * (k : Int)) [rq 0 (1 + (k : Int))]) := fun w' hu => vv1.upd (M := []) hu (by simp)
                have CBG : ∀ w', Upd [] w7 w' → Bat w' (sl1 gx) [rq 0 (1 + (k : Int))] := fun w' hu => bg.upd (M := []) hu (by simp)
                have CBX : ∀ w', Upd [] w7 w' → Bat w' (.slice xo 1 xcap) [rq 0 (1 + (k : Int))] := fun w' hu => bx.upd (M := []) hu (by simp)
                have CVX : ∀ w', Upd [] w7 w' → Vts w' (.slice yo (qc f (10 * (k : Int)) [rq 0 (1 + (k : Int))]).length ycap) (qc f (10 * (k : Int)) [rq 0 (1 + (k : Int))]) := fun w' hu => vx.upd (M := []) hu (by simp)
                have hu0 : Upd [] w7 w7.drew := (Upd.refl _ _).drew
                have j := CK _ hu0
                have CKH := Lib.hid CK
                have LQ := Lib.hid (show (qc f (10 * (k : Int)) [rq 0 (1 + (k : Int))]).length ≤ 100000 by rw [qc_len]; omega)
                have CB1H := Lib.hid CB1
                have CV1H := Lib.hid CV1
                have CBGH := Lib.hid CBG
                have CBXH := Lib.hid CBX
                have CVXH := Lib.hid CVX
                clear CK CB1 CV1 CBG CBX CVX j0 j1 j2 j3 j4 hcl bv vv1 bg bx vx s7
                go_region_held3 (fun w' => w'.cell? ⟨b1, 0, none⟩ = some (.int .i64 vw) ∧ w'.cell? ⟨b1, 1, none⟩ = some (.int .i64 num) ∧ w'.cell? ⟨b1, 2, none⟩ = some (.int .i64 2) ∧ w'.cell? ⟨b1, 3, none⟩ = some (.slice ao1 1 cap1) ∧ w'.cell? ⟨b1, 4, none⟩ = some (.slice co1 (qc f (10 * (k : Int)) [rq 0 (1 + (k : Int))]).length cav1) ∧ w'.cell? ⟨b3, o3, none⟩ = some (.int .i64 vw) ∧ w'.cell? ⟨b3, o3 + 1, none⟩ = some (.int .i64 num) ∧ w'.cell? ⟨b3, o3 + 2, none⟩ = some (.int .i64 2) ∧ w'.cell? ⟨b3, o3 + 3, none⟩ = some (.slice xo 1 xcap) ∧ w'.cell? ⟨b3, o3 + 4, none⟩ = some (.slice yo (qc f (10 * (k : Int)) [rq 0 (1 + (k : Int))]).length ycap))
                  (first | (with_reducible exact j) | (with_reducible exact m) | (with_reducible exact n) | (with_reducible exact r))
                  (first
                    | (go_at_call 26; refine (sameR_any (.slice ao1 1 cap1) (sl1 gx) [rq 0 (1 + (k : Int))] [rq 0 (1 + (k : Int))] _ (by simp) (by simp) (CB1H.out _ hu0) (CBGH.out _ hu0)).mono ?_; rintro e w8 ⟨rfl, hu8⟩; rw [decide_eq_true rfl]; have hv8 := hu0.trans hu8; have m := CKH.out _ hv8)
                    | (go_at_call 47; refine (rising01_any f (.slice co1 (qc f (10 * (k : Int)) [rq 0 (1 + (k : Int))]).length cav1) (qc f (10 * (k : Int)) [rq 0 (1 + (k : Int))]) _ hf1 hf2 (qc_len f _ _) (qc_rise f _ _) (CV1H.out _ hv8)).mono ?_; rintro e w9 ⟨rfl, hu9⟩; have hv9 := hv8.trans hu9; have n := CKH.out _ hv9)
                    | (go_at_call 48; refine (keepCert_any vw num 2 (.slice xo 1 xcap) (.slice yo (qc f (10 * (k : Int)) [rq 0 (1 + (k : Int))]).length ycap) (.slice ao1 1 cap1) (.slice co1 (qc f (10 * (k : Int)) [rq 0 (1 + (k : Int))]).length cav1) [rq 0 (1 + (k : Int))] (qc f (10 * (k : Int)) [rq 0 (1 + (k : Int))]) _ (by simp) LQ.out (CBXH.out _ hv9) (CVXH.out _ hv9) (CB1H.out _ hv9) (CV1H.out _ hv9)).mono ?_; rintro e w10 ⟨rfl, hu10⟩; have hv10 := hv9.trans hu10; have r := CKH.out _ hv10))
                go_wp2_with fail
                go_meet
                exact ⟨rfl, Lib.hid ⟨hv1, hv2, (10 * (k : Int)), [rq 0 (1 + (k : Int))], ai_drop (ai_drop (ai_drop (ai_drop (ai_drop (ai_drop (H7.out.upd0 hv10))))))⟩⟩
              case rest =>
                obtain ⟨rfl, H8⟩ := hcut
                clear H7
                go_wp2_with fail
                go_roundw
                case rel => exact ⟨k + 1, vw, by omega, by omega, rfl, by go_num, H8⟩
                case measure => simp [intOf]; omega
    · by_cases hla : k ≤ zs.length
      · have hkI : (k : Int) ≤ (zs.length : Int) := by omega
        have hqb : decide ((k : Int) < 20) = false := by simp; omega
        go_wp2_with fail
        refine (wakes15_any _).mono ?_
        rintro e w3 ⟨rfl, hb⟩
        have H3 := Lib.hid (HBL.out.trans (hb.mono HBL.out.size))
        clear hb
        go_wp2_with fail
        go_ret
        exact ⟨rfl, H3.out⟩
      · have hqb : decide ((k : Int) ≤ (zs.length : Int)) = false := by simp; omega
        go_wp2_with fail
        refine (wakes15_any _).mono ?_
        rintro e w3 ⟨rfl, hb⟩
        have H3 := Lib.hid (HBL.out.trans (hb.mono HBL.out.size))
        clear hb
        go_wp2_with fail
        go_ret
        exact ⟨rfl, H3.out⟩

end Go.Proofs.Ytdeadekeffficaa
