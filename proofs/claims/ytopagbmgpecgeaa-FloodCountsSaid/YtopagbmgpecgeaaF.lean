import Derived.Test.YtopagbmgpecgeaaE
namespace Go.Proofs.Ytopagbmgpecgeaa
open Go.RowKit

set_option maxHeartbeats 400000 in
theorem wakes_any (w : World) :
    Calls Try.prog 10 #[] w fun e w' => e = .returned (.bool true) ∧ Below w.heap.size w w' := by
  go_enter Try.func10, Try.ntmps10
  go_wp2_with fail
  refine (new_any 1 5 w (by omega) (by omega) (by omega) (by omega)).mono ?_
  rintro e w1 ⟨rfl, rfl⟩
  have hG := Lib.hid (G_new w w.heap.size 1 5 (Nat.le_refl _) (by omega))
  have hb := Lib.hid ((Below.refl w.heap.size w).alloc (Nat.le_refl _) (.cells #[.int .i64 1, .int .i64 5, .slice none 0 0] 34))
  generalize w.alloc (.cells #[.int .i64 1, .int .i64 5, .slice none 0 0] 34) = w1 at *
  go_wp2_with fail
  refine (bad_any _ _ _ _ _ _ _ 2 3 _ (by omega) (by omega) (by omega) (by omega) (by omega) hG.out).mono ?_
  rintro e w2 ⟨rfl, hb2, hG2⟩
  have HG2 := Lib.hid hG2
  clear hG2
  have o1 : overB 1 (fun _ => 0) 2 = false := by decide
  rw [o1]
  clear o1
  go_wp2_with fail
  refine (bad_any _ _ _ _ _ _ _ 2 3 _ (by omega) (by omega) (by omega) (by omega) (by omega) HG2.out).mono ?_
  rintro e w3 ⟨rfl, hb3, hG3⟩
  have HG3 := Lib.hid hG3
  clear hG3
  have o1 : overB 1 (bumpC 1 (fun _ => 0) 2) 2 = true := by decide
  rw [o1]
  clear o1
  go_wp2_with fail
  refine (shut_any _ _ _ _ _ _ _ 2 7 _ (by omega) HG3.out).mono ?_
  rintro e w4 ⟨rfl, hb4⟩
  have o1 : shutB (bumpT 1 5 3 (bumpC 1 (fun _ => 0) 2) (bumpT 1 5 3 (fun _ => 0) (fun _ => none) 2) 2) 2 7 = true := by decide
  rw [o1]
  clear o1
  go_wp2_with fail
  refine (shut_any _ _ _ _ _ _ _ 2 8 _ (by omega) (HG3.out.grown hb4)).mono ?_
  rintro e w5 ⟨rfl, hb5⟩
  have o1 : shutB (bumpT 1 5 3 (bumpC 1 (fun _ => 0) 2) (bumpT 1 5 3 (fun _ => 0) (fun _ => none) 2) 2) 2 8 = false := by decide
  rw [o1]
  clear o1
  go_wp2_with fail
  go_ret
  have s3 := (hb.out.trans (hb2.trans hb3)).size
  exact ⟨rfl, (((hb.out.trans hb2).trans hb3).trans (hb4.mono s3)).trans (hb5.mono (Nat.le_trans s3 hb4.size))⟩

end Go.Proofs.Ytopagbmgpecgeaa
