/- The walk of the law SlotNull. -/
import Derived.Test.YtdeadekeffficaaWakes
namespace Go.Proofs.Ytdeadekeffficaa
open Go.RowKit Go.Heap

def nst (f : Nat) : Nat → Sl
  | 0 => { emptySl f with has := true, batch := [] }
  | k + 1 => voteS (voteS (nst f k) 4 k 1 []) 5 k 2 []

theorem nst_facts : ∀ f, f < 5 → 1 ≤ f → ∀ k, k < 2 * f + 1 → (preparedS f (nst f k)).isSome = false ∧ (committedS f (nst f k)).isSome = false ∧ canVote (nst f k) 4 k = true ∧ canVote (voteS (nst f k) 4 k 1 []) 5 k = true := by decide +kernel
theorem nst_end : ∀ f, f < 5 → 1 ≤ f → (nst f (2 * f + 1)).has = true ∧ chosenS (nst f (2 * f + 1)) = [] ∧ (preparedS f (nst f (2 * f + 1))).isSome = true ∧ (committedS f (nst f (2 * f + 1))).isSome = true ∧ batchOf (committedS f (nst f (2 * f + 1))) = [] ∧ (votesOf (committedS f (nst f (2 * f + 1)))).length = 2 * f + 1 := by decide +kernel

theorem St.empty {B : Nat} {w0 W : World} {L : Loc} {st : Sl} {bs : List (Value × List Rq)} (h : St B w0 W L st bs) : St B w0 (W.alloc (.cells #[] 32)) L st ((.slice (some ⟨W.heap.size, 0, none⟩) 0 0, []) :: bs) := by
  have h' := h.alloc (.cells #[] 32)
  refine ⟨h'.below, h'.size, h'.M, h'.on, fun p hp => ?_⟩
  rcases List.mem_cons.1 hp with rfl | hp
  · refine ⟨⟨_, 0, rfl, Nat.le_refl _, by simp [maxLen], rfl, (fun e => by cases e), fun h => by simp at h⟩, fun b hb => ?_⟩
    simp [blkOf] at hb
    subst hb
    exact ⟨fun hn => by have := h.on.lt _ hn; omega, by simp⟩
  · exact h'.bat p hp

theorem St.drop {B : Nat} {w0 W : World} {L : Loc} {st : Sl} {p : Value × List Rq} {bs : List (Value × List Rq)} (h : St B w0 W L st (p :: bs)) : St B w0 W L st bs :=
  ⟨h.below, h.size, h.M, h.on, fun q hq => h.bat q (List.mem_cons_of_mem _ hq)⟩

theorem isSome_false {α : Type} {o : Option α} (h : o.isSome = false) : o = none := by cases o <;> simp_all

set_option maxHeartbeats 1000000 in
set_option maxRecDepth 100000 in
theorem null_any (v : Int) (w : World) : Calls Try.prog 6 #[.int .i64 v] w fun e w' => e = .returned (.bool true) ∧ Below w.heap.size w w' := by
  obtain ⟨f, hf1, hf2, hfv⟩ := f_of v
  have HV := Lib.hid hfv
  clear hfv
  go_enter Try.func6, Try.ntmps6
  go_wp2_with fail
  refine (Within_any v 4 _ (by omega) (by omega)).mono ?_
  rintro e w' ⟨rfl, rfl⟩
  have hb := emod_in v 4 (by omega)
  obtain ⟨hb1, hb2⟩ := hb
  go_wp2_with fail
  rw [HV.out]
  clear hb1 hb2
  refine (st_new f hf1 hf2 w w w.heap.size (Below.refl _ _) (Nat.le_refl _)).mono ?_
  rintro e w1 ⟨L, rfl, hf, h1⟩
  have HF := Lib.hid hf
  have H1 := Lib.hid h1.nil
  clear hf h1
  go_wp2_with fail
  refine (st_pre H1.out (.slice none 0 0) [] (by simp) (by simp)).mono ?_
  rintro e w2 ⟨rfl, h2⟩
  have H2 := Lib.hid (show St _ _ _ L (nst f 0) _ from h2)
  clear h2 H1
  have t1 : (!(emptySl f).has) = true := rfl
  rw [t1]
  clear t1
  go_wp2_with fail
  have H3 := Lib.hid (H2.out.batch 0 1)
  refine (st_pre H3.out (sl1 w2.heap.size) [rq 0 1] (by simp) (by simp)).mono ?_
  rintro e w3 ⟨rfl, h3⟩
  have H4 := Lib.hid (show St _ _ _ L (nst f 0) _ from h3.drop)
  clear h3 H2 H3
  have t2 : (!(nst f 0).has) = false := rfl
  rw [t2]
  clear t2
  go_wp2_with fail
  go_loopw [5] (fun i wr => ∃ k : Nat, k ≤ 2 * f + 1 ∧ i = .int .i64 k ∧ Hid (St w.heap.size w wr L (nst f k) [(.slice none 0 0, [])])) (fun i _ => 2 * f + 1 - (intOf i).toNat)
  case atStart => exact ⟨0, by omega, rfl, H4⟩
  case round =>
    clear H4
    obtain ⟨k, hk, rfl, H5⟩ := hrel
    go_wp2_with fail
    refine (rquorum_any f _ (by omega) (by omega)).mono ?_
    rintro e w' ⟨rfl, rfl⟩
    by_cases hlt : k < 2 * f + 1
    · obtain ⟨f1, f2, f3, f4⟩ := nst_facts f (by omega) hf1 k hlt
      have F1 := Lib.hid f1
      have F2 := Lib.hid f2
      have F3 := Lib.hid f3
      have F4 := Lib.hid f4
      clear f1 f2 f3 f4
      have hq : (k : Int) < 2 * (f : Int) + 1 := by omega
      go_wp2_with fail
      refine (st_prepared H5.out).mono ?_
      rintro e w5 ⟨u, rfl, h6, -⟩
      have H6 := Lib.hid h6
      clear h6
      rw [HF.out, F1.out]
      go_wp2_with fail
      refine (st_committed H6.out).mono ?_
      rintro e w6 ⟨u1, u2, rfl, h7, -, -⟩
      have H7 := Lib.hid h7
      clear h7
      rw [HF.out, F2.out]
      go_wp2_with fail
      refine (st_vote H7.out 4 k 1 (.slice none 0 0) [] (by simp) (by simp)).mono ?_
      rintro e w7 ⟨rfl, h8⟩
      have H8 := Lib.hid h8.empty
      clear h8
      rw [F3.out]
      go_wp2_with fail
      refine (st_vote H8.out 5 k 2 (.slice (some ⟨w7.heap.size, 0, none⟩) 0 0) [] (by simp) (by simp)).mono ?_
      rintro e w8 ⟨rfl, h9⟩
      have H9 := Lib.hid h9.drop
      clear h9
      rw [F4.out]
      go_wp2_with fail
      go_roundw
      case rel => exact ⟨k + 1, by omega, by go_num, H9⟩
      case measure => simp [intOf]; omega
    · have hk3 : k = 2 * f + 1 := by omega
      have hq : ¬ (k : Int) < 2 * (f : Int) + 1 := by omega
      have hqb : decide ((k : Int) < 2 * (f : Int) + 1) = false := by simp; omega
      subst hk3
      obtain ⟨f1, f2, f3, f4, f5, f6⟩ := nst_end f (by omega) hf1
      have F1 := Lib.hid f1
      have F2 := Lib.hid f2
      have F3 := Lib.hid f3
      have F4 := Lib.hid f4
      have F5 := Lib.hid f5
      have F6 := Lib.hid f6
      clear f1 f2 f3 f4 f5 f6
      go_wp2_with fail
      refine (st_chosen H5.out).mono ?_
      rintro e w5 ⟨u, rfl, h6, hb⟩
      rw [F2.out] at hb
      obtain ⟨ao1, cap1, rfl⟩ := bat_form hb
      have H6 := Lib.hid h6
      clear h6 hb
      rw [F1.out]
      go_wp2_with fail
      refine (st_prepared H6.out).mono ?_
      rintro e w6 ⟨u2, rfl, h7, -⟩
      have H7 := Lib.hid h7
      clear h7
      rw [HF.out, F3.out]
      go_wp2_with fail
      refine (st_committed H7.out).mono ?_
      rintro e w7 ⟨u3, u4, rfl, h8, hb3, hv4⟩
      have H8 := Lib.hid h8
      rw [HF.out, F5.out] at hb3
      rw [HF.out] at hv4
      obtain ⟨ao3, cap3, rfl⟩ := bat_form hb3
      obtain ⟨ao4, cap4, rfl⟩ := vts_form hv4
      clear h8 hb3 hv4
      rw [HF.out, F4.out, F6.out]
      go_wp2_with fail
      refine (rquorum_any f _ (by omega) (by omega)).mono ?_
      rintro e w' ⟨rfl, rfl⟩
      have heq : (((2 * f + 1 : Nat) : Int) == 2 * (f : Int) + 1) = true := by simp
      go_wp2_with fail
      refine (wakes_any _).mono ?_
      rintro e w8 ⟨rfl, hb8⟩
      have H9 := Lib.hid (H8.out.upd0 (Upd.of_below hb8))
      go_wp2_with fail
      go_ret
      exact ⟨rfl, H9.out.below⟩

end Go.Proofs.Ytdeadekeffficaa
