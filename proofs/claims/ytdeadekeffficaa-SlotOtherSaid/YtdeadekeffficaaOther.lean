/- The walk of the law SlotOther. -/
import Derived.Test.YtdeadekeffficaaNull
namespace Go.Proofs.Ytdeadekeffficaa
open Go.RowKit Go.Heap

def ost (f : Nat) (kd : Int) : Nat → Sl
  | 0 => { emptySl f with has := true, batch := [rq 0 1] }
  | k + 1 => voteS (ost f kd k) kd k 1 [rq 0 2]

theorem empty_comm : ∀ f, f < 5 → 1 ≤ f → (committedS f (emptySl f)).isSome = false := by decide +kernel
theorem empty_voted4 : ∀ f, f < 5 → 1 ≤ f → votedB (listOf (emptySl f) 4) 0 = false := by decide +kernel
theorem empty_voted5 : ∀ f, f < 5 → 1 ≤ f → votedB (listOf (emptySl f) 5) 0 = false := by decide +kernel
theorem ost_facts4 : ∀ f, f < 5 → 1 ≤ f → ∀ k, k < 3 * f + 1 → canVote (ost f 4 k) 4 k = true ∧ canVote (ost f 4 (k + 1)) 4 k = false ∧ votedB (listOf (ost f 4 (k + 1)) 5) k = false := by decide +kernel
theorem ost_facts5 : ∀ f, f < 5 → 1 ≤ f → ∀ k, k < 3 * f + 1 → canVote (ost f 5 k) 5 k = true ∧ canVote (ost f 5 (k + 1)) 5 k = false ∧ votedB (listOf (ost f 5 (k + 1)) 4) k = false := by decide +kernel
theorem ost_end4 : ∀ f, f < 5 → 1 ≤ f → (preparedS f (ost f 4 (3 * f + 1))).isSome = false ∧ (committedS f (ost f 4 (3 * f + 1))).isSome = false ∧ batchOf (committedS f (ost f 4 (3 * f + 1))) = [] := by decide +kernel
theorem ost_end5 : ∀ f, f < 5 → 1 ≤ f → (preparedS f (ost f 5 (3 * f + 1))).isSome = false ∧ (committedS f (ost f 5 (3 * f + 1))).isSome = true ∧ batchOf (committedS f (ost f 5 (3 * f + 1))) = [rq 0 2] := by decide +kernel

set_option maxHeartbeats 2000000 in
set_option maxRecDepth 100000 in
theorem other_any (v kv : Int) (w : World) : Calls Try.prog 8 #[.int .i64 v, .int .i64 kv] w fun e w' => e = .returned (.bool true) ∧ Below w.heap.size w w' := by
  obtain ⟨f, hf1, hf2, hfv⟩ := f_of v
  have HV := Lib.hid hfv
  clear hfv
  go_enter Try.func8, Try.ntmps8
  go_wp2_with fail
  refine (Within_any v 4 _ (by omega) (by omega)).mono ?_
  rintro e w' ⟨rfl, rfl⟩
  have hb := emod_in v 4 (by omega)
  obtain ⟨hb1, hb2⟩ := hb
  go_wp2_with fail
  rw [HV.out]
  clear hb1 hb2
  refine (st_new f hf1 hf2 w w w.heap.size (Below.refl _ _) (Nat.le_refl _)).mono ?_
  rintro e w1 ⟨L, rfl, hf, h1⟩
  have HF := Lib.hid hf
  have H1 := Lib.hid ((h1.batch 0 1).batch 0 2)
  clear hf h1
  go_wp2_with fail
  simp only [hs_alloc] at H1
  generalize (w1.alloc (rqObj 0 1)).alloc (rqObj 0 2) = w2 at *
  generalize w1.heap.size + 1 = gy at *
  generalize w1.heap.size = gx at *
  refine (st_pre H1.out (sl1 gx) [rq 0 1] (by simp) (by simp)).mono ?_
  rintro e w3 ⟨rfl, h2⟩
  have t1 : (!(emptySl f).has) = true := rfl
  rw [t1]
  clear t1
  go_wp2_with fail
  refine (Within_any kv 2 _ (by omega) (by omega)).mono ?_
  rintro e w' ⟨rfl, rfl⟩
  have hkv : kv % 2 = 0 ∨ kv % 2 = 1 := by omega
  rcases hkv with hk | hk
  · have H4 := Lib.hid (show St _ _ _ L (ost f 4 0) _ from h2)
    clear h2 H1
    have HK := Lib.hid (rfl : (4 : Int) = 4)
    rw [hk]
    clear hk
    go_wp2_with fail
    go_loopw [9] (fun i wr => ∃ k : Nat, k ≤ 3 * f + 1 ∧ i = .int .i64 k ∧ Hid (St w.heap.size w wr L (ost f 4 k) [(sl1 gy, [rq 0 2]), (sl1 gx, [rq 0 1])])) (fun i _ => 3 * f + 1 - (intOf i).toNat)
    case atStart => exact ⟨0, by omega, rfl, H4⟩
    case round =>
      clear H4
      obtain ⟨k, hk, rfl, H5⟩ := hrel
      go_wp2_with fail
      refine (rnodes_any f _ (by omega) (by omega)).mono ?_
      rintro e w' ⟨rfl, rfl⟩
      by_cases hlt : k < 3 * f + 1
      · obtain ⟨f1, f2, f3⟩ := ost_facts4 f (by omega) hf1 k hlt
        have F1 := Lib.hid f1
        have F2 := Lib.hid f2
        have F3 := Lib.hid f3
        clear f1 f2 f3
        have hq : (k : Int) < 3 * (f : Int) + 1 := by omega
        go_wp2_with fail
        refine (st_vote H5.out 4 k 1 (sl1 gy) [rq 0 2] (by simp) (by simp)).mono ?_
        rintro e w5 ⟨rfl, h6⟩
        have H6 := Lib.hid (show St _ _ _ L (ost f 4 (k + 1)) _ from h6)
        clear h6
        rw [F1.out]
        go_wp2_with fail
        refine (st_vote H6.out 4 k 1 (sl1 gx) [rq 0 1] (by simp) (by simp)).mono ?_
        rintro e w6 ⟨rfl, h7⟩
        have hno : voteS (ost f 4 (k + 1)) 4 k 1 [rq 0 1] = ost f 4 (k + 1) := by unfold voteS; rw [F2.out]; rfl
        rw [hno] at h7
        have H7 := Lib.hid h7
        clear h7 hno
        rw [F2.out]
        go_wp2_with fail
        refine (st_voted H7.out 5 k).mono ?_
        rintro e w' ⟨rfl, rfl⟩
        rw [F3.out]
        go_wp2_with fail
        go_roundw
        case rel => exact ⟨k + 1, by omega, by go_num, H7⟩
        case measure => simp [intOf]; omega
      · have hk3 : k = 3 * f + 1 := by omega
        have hq : ¬ (k : Int) < 3 * (f : Int) + 1 := by omega
        have hqb : decide ((k : Int) < 3 * (f : Int) + 1) = false := by simp; omega
        subst hk3
        obtain ⟨f1, f2, f3⟩ := ost_end4 f (by omega) hf1
        have F1 := Lib.hid f1
        have F2 := Lib.hid f2
        have F3 := Lib.hid f3
        clear f1 f2 f3
        go_wp2_with fail
        refine (st_prepared H5.out).mono ?_
        rintro e w5 ⟨u, rfl, h6, -⟩
        have H6 := Lib.hid h6
        clear h6
        rw [HF.out, F1.out]
        go_wp2_with fail
        refine (st_committed H6.out).mono ?_
        rintro e w6 ⟨u3, u4, rfl, h7, hb3, -⟩
        have H7 := Lib.hid h7
        rw [HF.out] at hb3
        have HB3 := Lib.hid hb3
        clear h7 hb3
        rw [HF.out, F2.out]
        go_wp2_with fail
        have H8 := H7
        refine (st_reset H8.out).mono ?_
        rintro e w8 ⟨bp, bc, rfl, h9⟩
        rw [HF.out] at h9
        have H9 := Lib.hid h9
        clear h9
        go_wp2_with fail
        refine (st_chosen H9.out).mono ?_
        rintro e w9 ⟨u5, rfl, h10, -⟩
        have H10 := Lib.hid h10
        clear h10
        have t3 : (emptySl f).has = false := rfl
        rw [t3]
        go_wp2_with fail
        refine (st_committed H10.out).mono ?_
        rintro e w10 ⟨u6, u7, rfl, h11, -, -⟩
        have H11 := Lib.hid h11
        clear h11
        have t4 : (committedS f (emptySl f)).isSome = false := empty_comm f (by omega) hf1
        rw [show (committedS (Loc.f ⟨L.s, bp, bc, 3 * f + 1, 3 * f + 1, f⟩) (emptySl f)).isSome = false from t4]
        go_wp2_with fail
        refine (st_voted H11.out 4 0).mono ?_
        rintro e w' ⟨rfl, rfl⟩
        have t5 : votedB (listOf (emptySl f) 4) 0 = false := empty_voted4 f (by omega) hf1
        rw [t5]
        go_wp2_with fail
        refine (st_pre H11.out (sl1 gy) [rq 0 2] (by simp) (by simp)).mono ?_
        rintro e w11 ⟨rfl, h12⟩
        have H12 := Lib.hid h12
        clear h12
        have t6 : (!(emptySl f).has) = true := rfl
        rw [t6]
        go_wp2_with fail
        refine (wakes_any _).mono ?_
        rintro e w12 ⟨rfl, hb8⟩
        have H13 := Lib.hid (H12.out.upd0 (Upd.of_below hb8))
        go_wp2_with fail
        go_ret
        exact ⟨rfl, H13.out.below⟩
  · have H4 := Lib.hid (show St _ _ _ L (ost f 5 0) _ from h2)
    clear h2 H1
    have HK := Lib.hid (rfl : (5 : Int) = 5)
    rw [hk]
    clear hk
    go_wp2_with fail
    go_loopw [9] (fun i wr => ∃ k : Nat, k ≤ 3 * f + 1 ∧ i = .int .i64 k ∧ Hid (St w.heap.size w wr L (ost f 5 k) [(sl1 gy, [rq 0 2]), (sl1 gx, [rq 0 1])])) (fun i _ => 3 * f + 1 - (intOf i).toNat)
    case atStart => exact ⟨0, by omega, rfl, H4⟩
    case round =>
      clear H4
      obtain ⟨k, hk, rfl, H5⟩ := hrel
      go_wp2_with fail
      refine (rnodes_any f _ (by omega) (by omega)).mono ?_
      rintro e w' ⟨rfl, rfl⟩
      by_cases hlt : k < 3 * f + 1
      · obtain ⟨f1, f2, f3⟩ := ost_facts5 f (by omega) hf1 k hlt
        have F1 := Lib.hid f1
        have F2 := Lib.hid f2
        have F3 := Lib.hid f3
        clear f1 f2 f3
        have hq : (k : Int) < 3 * (f : Int) + 1 := by omega
        go_wp2_with fail
        refine (st_vote H5.out 5 k 1 (sl1 gy) [rq 0 2] (by simp) (by simp)).mono ?_
        rintro e w5 ⟨rfl, h6⟩
        have H6 := Lib.hid (show St _ _ _ L (ost f 5 (k + 1)) _ from h6)
        clear h6
        rw [F1.out]
        go_wp2_with fail
        refine (st_vote H6.out 5 k 1 (sl1 gx) [rq 0 1] (by simp) (by simp)).mono ?_
        rintro e w6 ⟨rfl, h7⟩
        have hno : voteS (ost f 5 (k + 1)) 5 k 1 [rq 0 1] = ost f 5 (k + 1) := by unfold voteS; rw [F2.out]; rfl
        rw [hno] at h7
        have H7 := Lib.hid h7
        clear h7 hno
        rw [F2.out]
        go_wp2_with fail
        refine (st_voted H7.out 4 k).mono ?_
        rintro e w' ⟨rfl, rfl⟩
        rw [F3.out]
        go_wp2_with fail
        go_roundw
        case rel => exact ⟨k + 1, by omega, by go_num, H7⟩
        case measure => simp [intOf]; omega
      · have hk3 : k = 3 * f + 1 := by omega
        have hq : ¬ (k : Int) < 3 * (f : Int) + 1 := by omega
        have hqb : decide ((k : Int) < 3 * (f : Int) + 1) = false := by simp; omega
        subst hk3
        obtain ⟨f1, f2, f3⟩ := ost_end5 f (by omega) hf1
        have F1 := Lib.hid f1
        have F2 := Lib.hid f2
        have F3 := Lib.hid f3
        clear f1 f2 f3
        go_wp2_with fail
        refine (st_prepared H5.out).mono ?_
        rintro e w5 ⟨u, rfl, h6, -⟩
        have H6 := Lib.hid h6
        clear h6
        rw [HF.out, F1.out]
        go_wp2_with fail
        refine (st_committed H6.out).mono ?_
        rintro e w6 ⟨u3, u4, rfl, h7, hb3, -⟩
        have H7 := Lib.hid h7
        rw [HF.out] at hb3
        have HB3 := Lib.hid hb3
        clear h7 hb3
        rw [HF.out, F2.out]
        go_wp2_with fail
        have hy := (H7.out.bat (sl1 gy, [rq 0 2]) (by simp)).1
        have HB4 := Lib.hid hy
        rw [F3.out] at HB3
        clear hy
        refine (sameR_any _ _ [rq 0 2] [rq 0 2] _ (by simp) (by simp) HB3.out HB4.out).mono ?_
        rintro e w7 ⟨rfl, hu7⟩
        have H8 := Lib.hid (H7.out.upd0 hu7)
        have t7 : decide ([rq 0 2] = [rq 0 2]) = true := by simp
        rw [t7]
        go_wp2_with fail
        refine (st_reset H8.out).mono ?_
        rintro e w8 ⟨bp, bc, rfl, h9⟩
        rw [HF.out] at h9
        have H9 := Lib.hid h9
        clear h9
        go_wp2_with fail
        refine (st_chosen H9.out).mono ?_
        rintro e w9 ⟨u5, rfl, h10, -⟩
        have H10 := Lib.hid h10
        clear h10
        have t3 : (emptySl f).has = false := rfl
        rw [t3]
        go_wp2_with fail
        refine (st_committed H10.out).mono ?_
        rintro e w10 ⟨u6, u7, rfl, h11, -, -⟩
        have H11 := Lib.hid h11
        clear h11
        have t4 : (committedS f (emptySl f)).isSome = false := empty_comm f (by omega) hf1
        rw [show (committedS (Loc.f ⟨L.s, bp, bc, 3 * f + 1, 3 * f + 1, f⟩) (emptySl f)).isSome = false from t4]
        go_wp2_with fail
        refine (st_voted H11.out 5 0).mono ?_
        rintro e w' ⟨rfl, rfl⟩
        have t5 : votedB (listOf (emptySl f) 5) 0 = false := empty_voted5 f (by omega) hf1
        rw [t5]
        go_wp2_with fail
        refine (st_pre H11.out (sl1 gy) [rq 0 2] (by simp) (by simp)).mono ?_
        rintro e w11 ⟨rfl, h12⟩
        have H12 := Lib.hid h12
        clear h12
        have t6 : (!(emptySl f).has) = true := rfl
        rw [t6]
        go_wp2_with fail
        refine (wakes_any _).mono ?_
        rintro e w12 ⟨rfl, hb8⟩
        have H13 := Lib.hid (H12.out.upd0 (Upd.of_below hb8))
        go_wp2_with fail
        go_ret
        exact ⟨rfl, H13.out.below⟩

end Go.Proofs.Ytdeadekeffficaa
