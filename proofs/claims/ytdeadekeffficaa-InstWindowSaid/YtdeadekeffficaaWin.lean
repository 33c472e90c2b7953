/- The walk of the law InstWindow. -/
import Derived.Test.YtdeadekeffficaaWinP
namespace Go.Proofs.Ytdeadekeffficaa
open Go.RowKit Go.Heap

set_option maxHeartbeats 2000000 in
set_option maxRecDepth 100000 in
theorem window_any (a0 a1 a2 : Int) (w : World) : Calls Try.prog 10 #[.int .i64 a0, .int .i64 a1, .int .i64 a2] w fun e w' => e = .returned (.bool true) ∧ Below w.heap.size w w' := by
  obtain ⟨p1, p2⟩ := emod_in a0 16 (by omega)
  obtain ⟨q1, q2⟩ := emod_in a1 17 (by omega)
  obtain ⟨r1, r2⟩ := emod_in a2 19 (by omega)
  go_enter Try.func10, Try.ntmps10
  go_wp2_with fail
  refine (Within_any a0 16 _ (by omega) (by omega)).mono ?_
  rintro e w' ⟨rfl, rfl⟩
  go_wp2_with fail
  refine (Within_any a1 17 _ (by omega) (by omega)).mono ?_
  rintro e w' ⟨rfl, rfl⟩
  go_wp2_with fail
  refine (Within_any a2 19 _ (by omega) (by omega)).mono ?_
  rintro e w' ⟨rfl, rfl⟩
  obtain ⟨d, hd⟩ := Int.eq_ofNat_of_zero_le q1
  rw [hd]
  have hd2 : d ≤ 16 := by omega
  clear q1 q2 hd
  generalize a0 % 16 = pa at *
  generalize a2 % 19 = pq at *
  go_wp2_with fail
  have s1 : -1 ≤ pq - 1 := by omega
  have s2 : pq - 1 ≤ 17 := by omega
  generalize pq - 1 = sq at *
  clear r1 r2
  have g1 : 1 ≤ 1 + pa := by omega
  have g2 : 1 + pa ≤ 16 := by omega
  generalize 1 + pa = pb at *
  clear p1 p2
  refine (ai_new 1 0 pb (by omega) (by omega) (by omega) (by omega) (by omega) (by omega) (Own.start (Below.refl w.heap.size w) (Nat.le_refl _))).mono ?_
  rintro e w1 ⟨i, rfl, h1⟩
  rw [wn_new] at h1
  have H1 := Lib.hid h1
  clear h1
  go_wp2_with fail
  go_loopw [9] (fun n wr => ∃ k : Nat, k ≤ d ∧ n = .int .i64 ((k : Int) + 1) ∧ Hid (AtI w.heap.size w wr i (wn pb k) [])) (fun n _ => d + 1 - (intOf n).toNat)
  case atStart => exact ⟨0, by omega, rfl, H1⟩
  case round =>
    clear H1
    obtain ⟨k, hk, rfl, H1⟩ := hrel
    by_cases hlt : k < d
    · have hkI : (k : Int) + 1 ≤ (d : Int) := by omega
      obtain ⟨ha1, ha2⟩ := wn_adopt pb k (by omega)
      have HA := Lib.hid (ai_adopt H1.out ⟨0, 0, (k : Int) + 1, .slice none 0 0, .slice none 0 0, [], []⟩ (Reads.nil _ _) (by simp) (Reads.nil _ _) (by simp))
      have HA1 := Lib.hid ha1
      have HA2 := Lib.hid ha2
      clear ha1 ha2
      go_wp2_with fail
      refine HA.out.mono ?_
      rintro e w2 ⟨rfl, h2⟩
      rw [show (Ct.cp ⟨0, 0, (k : Int) + 1, .slice none 0 0, .slice none 0 0, [], []⟩) = ⟨0, 0, (k : Int) + 1, [], []⟩ from rfl] at h2 ⊢
      rw [HA2.out] at h2
      rw [HA1.out]
      have H2 := Lib.hid h2
      clear h2 HA HA1 HA2
      go_wp2_with fail
      go_roundw
      case rel => exact ⟨k + 1, by omega, by go_num, H2⟩
      case measure => simp [intOf]; omega
    · have hkd : k = d := by omega
      subst hkd
      have HD := Lib.hid (wn_done pb k hd2)
      have HP := Lib.hid (wn_pre pb k hd2 sq)
      have HT := Lib.hid (pre_twice (wn pb k) sq [] [])
      have hdd : ((k : Int) == (k : Int)) = true := by simp
      have hkI : ¬ (k : Int) + 1 ≤ (k : Int) := by omega
      clear hk hlt
      go_upto_region 10 with fail
      go_cut [10] (fun t wx => t = .bool (decide (1 ≤ sq) && decide (sq ≤ 16) && decide (sq ≤ k + pb)) ∧ Hid (AtI w.heap.size w wx i (wn pb k) []))
      case first =>
        have hsum : IntKind.i64.wrap ((k : Int) + pb) = (k : Int) + pb := IntWalk.i64_in _ (by omega)
        by_cases t1 : 1 ≤ sq
        · have u1 : decide (1 ≤ sq) = true := by simp [t1]
          by_cases t2 : sq ≤ 16
          · have u2 : decide (sq ≤ 16) = true := by simp [t2]
            go_wp2_with fail
            go_meet
            exact ⟨by rw [u1, u2]; rfl, H1⟩
          · have u2 : decide (sq ≤ 16) = false := by simp; omega
            go_wp2_with fail
            go_meet
            exact ⟨by rw [u1, u2]; rfl, H1⟩
        · have u1 : decide (1 ≤ sq) = false := by simp; omega
          go_wp2_with fail
          go_meet
          exact ⟨by rw [u1]; rfl, H1⟩
      case rest =>
        obtain ⟨rfl, H2⟩ := hcut
        clear H1
        have HA := Lib.hid (ai_pre H2.out sq (.slice none 0 0) [] (Reads.nil _ _) (by simp))
        rw [HP.out] at HA
        generalize (decide (1 ≤ sq) && decide (sq ≤ 16) && decide (sq ≤ (k : Int) + pb)) = may at *
        have hmm : (may == may) = true := by simp
        go_wp2_with fail
        refine (ai_done H2.out).mono ?_
        rintro e w' ⟨rfl, rfl⟩
        rw [HD.out]
        go_wp2_with fail
        refine HA.out.mono ?_
        rintro e w3 ⟨rfl, h3⟩
        have H3 := Lib.hid h3
        clear h3 HA
        go_wp2_with fail
        refine (ai_pre H3.out sq (.slice none 0 0) [] (Reads.nil _ _) (by simp)).mono ?_
        rintro e w4 ⟨rfl, h4⟩
        rw [HT.out]
        have H4 := Lib.hid h4
        clear h4
        go_wp2_with fail
        refine (wakes15_any _).mono ?_
        rintro e w5 ⟨rfl, hb⟩
        have H5 := Lib.hid (ai_to H4.out hb)
        clear hb
        go_wp2_with fail
        go_ret
        exact ⟨rfl, H5.out.below⟩

end Go.Proofs.Ytdeadekeffficaa
