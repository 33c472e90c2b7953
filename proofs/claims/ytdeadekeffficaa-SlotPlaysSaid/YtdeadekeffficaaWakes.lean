/- The document's example of a slot (psephoslaw14.wakes). -/
import Derived.Test.YtdeadekeffficaaSt
namespace Go.Proofs.Ytdeadekeffficaa
open Go.RowKit Go.Heap

def wst : Nat → Sl
  | 0 => { emptySl 1 with has := true, batch := [rq 0 1] }
  | k + 1 => voteS (wst k) 4 k (10 + k) [rq 0 1]

theorem wst_has : ∀ k, k ≤ 3 → (wst k).has = true := by decide +kernel
theorem wst_facts : ∀ k, k < 3 → canVote (wst k) 4 k = true ∧ (preparedS 1 (wst k)).isSome = false := by decide +kernel
theorem wst_end : preparedS 1 (wst 3) = some [(0, 10), (1, 11), (2, 12)] := by decide +kernel

abbrev L1 (f : Nat) (L : Loc) : Prop := L.f = f

set_option maxHeartbeats 1000000 in
set_option maxRecDepth 100000 in
theorem wakes_any (w : World) : Calls Try.prog 19 #[] w fun e w' => e = .returned (.bool true) ∧ Below w.heap.size w w' := by
  go_enter Try.func19, Try.ntmps19
  go_wp2_with fail
  refine (st_new 1 (by omega) (by omega) w w w.heap.size (Below.refl _ _) (Nat.le_refl _)).mono ?_
  rintro e w1 ⟨L, rfl, hf, h1⟩
  have HF := Lib.hid hf
  have H2 := Lib.hid (h1.batch 0 1)
  clear hf h1
  go_wp2_with fail
  generalize w1.alloc (rqObj 0 1) = w2 at *
  generalize w1.heap.size = g at *
  refine (st_pre H2.out (sl1 g) [rq 0 1] (by simp) (by simp)).mono ?_
  rintro e w3 ⟨rfl, h3⟩
  have H3 := Lib.hid (show St _ _ _ L (wst 0) _ from h3)
  clear h3 H2
  have t1 : (!(emptySl 1).has) = true := rfl
  rw [t1]
  go_wp2_with fail
  refine (st_pre H3.out (sl1 g) [rq 0 1] (by simp) (by simp)).mono ?_
  rintro e w4 ⟨rfl, h4⟩
  have H4 := Lib.hid (show St _ _ _ L (wst 0) _ from h4)
  clear h4 H3
  have t2 : (!(wst 0).has) = false := rfl
  rw [t2]
  go_wp2_with fail
  go_loopw [4] (fun i wr => ∃ k : Nat, k ≤ 3 ∧ i = .int .i64 k ∧ Hid (St w.heap.size w wr L (wst k) [(sl1 g, [rq 0 1])])) (fun i _ => 3 - (intOf i).toNat)
  case atStart => exact ⟨0, by omega, rfl, H4⟩
  case round =>
    clear H4
    obtain ⟨k, hk, rfl, H5⟩ := hrel
    by_cases hlt : k < 3
    · obtain ⟨f1, f2⟩ := wst_facts k hlt
      have F1 := Lib.hid f1
      have F2 := Lib.hid f2
      clear f1 f2
      go_wp2_with fail
      refine (st_prepared H5.out).mono ?_
      rintro e w5 ⟨u, rfl, h6, -⟩
      have H6 := Lib.hid h6
      clear h6
      rw [HF.out, F2.out]
      go_wp2_with fail
      refine (st_vote H6.out 4 k (10 + k) (sl1 g) [rq 0 1] (by simp) (by simp)).mono ?_
      rintro e w6 ⟨rfl, h7⟩
      have H7 := Lib.hid h7
      clear h7
      rw [F1.out]
      go_wp2_with fail
      go_roundw
      case rel => exact ⟨k + 1, by omega, by go_num, H7⟩
      case measure => simp [intOf]; omega
    · have hk3 : k = 3 := by omega
      subst hk3
      go_wp2_with fail
      refine (st_prepared H5.out).mono ?_
      rintro e w5 ⟨u, rfl, h6, hv⟩
      have H6 := Lib.hid h6
      have HV := Lib.hid hv
      clear h6 hv
      rw [HF.out, wst_end]
      rw [HF.out, wst_end] at HV
      go_wp2_with fail
      have hn := vts_three (heap_alloc_new w5 (.cells #[.int .i64 0, .int .i64 10, .int .i64 1, .int .i64 11, .int .i64 2, .int .i64 12] 44))
      refine (sameV_any _ _ _ _ _ (by simp) (by simp) (HV.out.upd (M := []) ((Upd.refl _ _).alloc _) (by simp)) hn).mono ?_
      rintro e w6 ⟨rfl, hu⟩
      have hs : decide ((some [((0 : Int), (10 : Int)), (1, 11), (2, 12)]).getD [] = [(0, 10), (1, 11), (2, 12)]) = true := by decide
      rw [hs]
      have H8 := Lib.hid ((H6.out.alloc (.cells #[.int .i64 0, .int .i64 10, .int .i64 1, .int .i64 11, .int .i64 2, .int .i64 12] 44)).upd0 hu)
      go_wp2_with fail
      go_ret
      exact ⟨rfl, H8.out.below⟩

end Go.Proofs.Ytdeadekeffficaa
