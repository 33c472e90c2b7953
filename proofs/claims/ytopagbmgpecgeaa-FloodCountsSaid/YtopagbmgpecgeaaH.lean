import Derived.Test.YtopagbmgpecgeaaG
import Derived.Deep.DeepMust
import Derived.Test.YtopagbmgpecgeaaText
namespace Go.Proofs.Ytopagbmgpecgeaa
open Go.RowKit

/-- Party 7 has k bad messages in hand; of 8 nothing is known. -/
structure Seven (cnt : Int → Int) (till : Int → Option Int) (k : Int) : Prop where
  a1 : cnt 7 = k
  b1 : cnt 8 = 0
  b2 : till 8 = none

theorem mod_step (i M : Int) (hM : 2 ≤ M) (hi : 1 ≤ i) : (i % M = 0 → (i - 1) % M = M - 1) ∧ (¬ i % M = 0 → (i - 1) % M + 1 = i % M ∧ 1 ≤ i % M ∧ i % M < M) := by
  have h1 := Int.emod_nonneg i (show M ≠ 0 by omega)
  have h2 := Int.emod_lt_of_pos i (show 0 < M by omega)
  have h3 := Int.mul_ediv_add_emod i M
  constructor
  · intro h
    rw [show i - 1 = (M - 1) + M * (i / M - 1) by rw [Int.mul_sub]; omega, Int.add_mul_emod_self_left]
    exact Int.emod_eq_of_lt (by omega) (by omega)
  · intro h
    rw [show i - 1 = (i % M - 1) + M * (i / M) by omega, Int.add_mul_emod_self_left, Int.emod_eq_of_lt (by omega) (by omega)]
    omega

theorem Seven.step {cnt : Int → Int} {till : Int → Option Int} {m t i : Int} (h : Seven cnt till ((i - 1) % (m + 1))) (hm : 1 ≤ m) (hi : 1 ≤ i) (hi2 : i ≤ 1000) (ht : 1 ≤ t) (ht2 : t ≤ 64) :
    Seven (bumpC m cnt 7) (bumpT m t i cnt till 7) (i % (m + 1)) ∧
    (i % (m + 1) = 0 → overB m cnt 7 = true ∧ shutB (bumpT m t i cnt till 7) 7 (i + t - 1) = true ∧ shutB (bumpT m t i cnt till 7) 7 (i + t) = false) ∧ (¬ i % (m + 1) = 0 → overB m cnt 7 = false) := by
  obtain ⟨h1, h2, h3⟩ := h
  obtain ⟨e3, e4⟩ := bump_other m t i cnt till 7 8 (by omega)
  obtain ⟨s1, s2⟩ := mod_step i (m + 1) (by omega) hi
  have hn := Int.emod_nonneg i (show m + 1 ≠ 0 by omega)
  by_cases hz : i % (m + 1) = 0
  · have hc : cnt 7 = m := by rw [h1, s1 hz]; omega
    obtain ⟨o1, o2⟩ := bump_over m cnt 7 hc
    have hov : m < cnt 7 + 1 := by omega
    have et : bumpT m t i cnt till 7 7 = some (wthn i + t) := by simp [bumpT, hov]
    refine ⟨⟨by rw [o2, hz], e3.trans h2, e4.trans h3⟩, fun _ => ⟨o1, ?_, ?_⟩, fun h => absurd hz h⟩
    · have : wthn (i + t - 1) < wthn i + t := by unfold wthn; omega
      simp [shutB, et, this]
    · have : ¬ wthn (i + t) < wthn i + t := by unfold wthn; omega
      simp [shutB, et]; omega
  · obtain ⟨q1, q2, q3⟩ := s2 hz
    obtain ⟨o1, o2⟩ := bump_self m cnt 7 ((i - 1) % (m + 1)) h1 (by omega)
    exact ⟨⟨by rw [o2]; omega, e3.trans h2, e4.trans h3⟩, fun h => absurd h hz, fun _ => o1⟩

set_option maxHeartbeats 1000000 in
theorem counts_any (a0 a1 a2 : Int) (w : World) :
    Calls Try.prog 3 #[.int .i64 a0, .int .i64 a1, .int .i64 a2] w fun e w' => e = .returned (.bool true) ∧ Below w.heap.size w w' := by
  obtain ⟨m1, m2⟩ := emod_in a0 20 (by omega)
  obtain ⟨t1, t2⟩ := emod_in a1 20 (by omega)
  obtain ⟨c1, c2⟩ := emod_in a2 100 (by omega)
  go_enter Try.func3, Try.ntmps3
  go_wp2_with fail
  refine (Within_any a0 20 _ (by omega) (by omega)).mono ?_
  rintro e w' ⟨rfl, rfl⟩
  go_wp2_with fail
  refine (Within_any a1 20 _ (by omega) (by omega)).mono ?_
  rintro e w' ⟨rfl, rfl⟩
  go_wp2_with fail
  refine (Within_any a2 100 _ (by omega) (by omega)).mono ?_
  rintro e w' ⟨rfl, rfl⟩
  go_wp2_with fail
  obtain ⟨n, hn⟩ : ∃ n : Nat, a2 % 100 = n := ⟨(a2 % 100).toNat, by omega⟩
  obtain ⟨m, hm⟩ : ∃ m : Int, 1 + a0 % 20 = m := ⟨_, rfl⟩
  obtain ⟨t, ht⟩ : ∃ t : Int, 1 + a1 % 20 = t := ⟨_, rfl⟩
  have hm1 : 1 ≤ m := by omega
  have hm2 : m ≤ 20 := by omega
  have ht1 : 1 ≤ t := by omega
  have ht2 : t ≤ 20 := by omega
  have hn2 : n < 100 := by omega
  rw [hm, ht, hn]
  clear hm ht hn m1 m2 t1 t2 c1 c2
  refine (new_any m t w (by omega) (by omega) (by omega) (by omega)).mono ?_
  rintro e w1 ⟨rfl, rfl⟩
  have hG := Lib.hid (G_new w w.heap.size m t (Nat.le_refl _) (by omega))
  have hb := (Below.refl w.heap.size w).alloc (Nat.le_refl _) (.cells #[.int .i64 m, .int .i64 t, .slice none 0 0] 34)
  generalize w.alloc (.cells #[.int .i64 m, .int .i64 t, .slice none 0 0] 34) = w1 at *
  have HQ := Lib.hid (⟨by simp, rfl, rfl⟩ : Seven (fun _ => 0) (fun _ => none) (((1 : Nat) - 1 : Int) % (m + 1)))
  go_wp2_with fail
  go_loopw [9] (fun i wr => ∃ k : Nat, 1 ≤ k ∧ k ≤ n + 1 ∧ i = .int .i64 k ∧ Below w.heap.size w wr ∧ ∃ cnt till, Hid (G wr w.heap.size w.heap.size m t k cnt till) ∧ Hid (Seven cnt till ((k - 1) % (m + 1)))) (fun i _ => n + 1 - (intOf i).toNat)
  case atStart => exact ⟨1, by omega, by omega, rfl, hb, _, _, let ⟨a, b, c, d⟩ := hG.out; ⟨a, b, by omega, d⟩, HQ⟩
  case round =>
    clear hb hG HQ
    obtain ⟨k, hk1, hk, rfl, hb, cnt, till, hG, HQ⟩ := hrel
    by_cases hlt : k ≤ n
    · obtain ⟨HS, hy, hno⟩ := HQ.out.step (m := m) (t := t) (i := k) hm1 (by omega) (by omega) ht1 (by omega)
      have HS := Lib.hid HS
      have hmn := Int.emod_nonneg (k : Int) (show m + 1 ≠ 0 by omega)
      have hml := Int.emod_lt_of_pos (k : Int) (show 0 < m + 1 by omega)
      by_cases hz : (k : Int) % (m + 1) = 0
      · obtain ⟨o1, o2, o3⟩ := hy hz
        have O1 := Lib.hid o1
        have O2 := Lib.hid o2
        have O3 := Lib.hid o3
        have HZ := Lib.hid hz
        have hz' : ((k : Int) % (m + 1) == 0) = true := by simp [hz]
        clear hy hno o1 o2 o3 hz
        go_wp2_with fail
        refine Mix.wp_text (by kernel_rfl) (by kernel_rfl) ?_
        go_wp2_with fail
        refine (bad_any _ _ _ _ _ _ _ 7 k _ (by omega) (by omega) (by omega) (by omega) (by omega) (hG.out.grown (Below.refl _ _).drew)).mono ?_
        rintro e w2 ⟨rfl, hb2, hG2⟩
        rw [O1.out]
        have HG2 := Lib.hid hG2
        clear hG2
        go_wp2_with fail
        refine (count_any _ _ _ _ _ _ _ 7 _ (by omega) HG2.out).mono ?_
        rintro e w3 ⟨rfl, hb3⟩
        rw [HS.out.a1]
        have HG3 := Lib.hid (HG2.out.grown hb3)
        go_wp2_with fail
        refine (shut_any _ _ _ _ _ _ _ 7 _ _ (by omega) HG3.out).mono ?_
        rintro e w4 ⟨rfl, hb4⟩
        rw [O2.out]
        have HG4 := Lib.hid (HG3.out.grown hb4)
        go_wp2_with fail
        refine (shut_any _ _ _ _ _ _ _ 7 _ _ (by omega) HG4.out).mono ?_
        rintro e w5 ⟨rfl, hb5⟩
        rw [O3.out]
        have HG5 := Lib.hid (HG4.out.grown hb5)
        go_wp2_with fail
        refine ⟨by rfl, ?_⟩
        go_wp2_with fail
        go_roundw
        have s2 := (hb.drew.trans hb2).size
        have b3 := (hb.drew.trans hb2).trans (hb3.mono s2)
        have b4 := b3.trans (hb4.mono b3.size)
        have b5 := b4.trans (hb5.mono b4.size)
        case rel => exact ⟨k + 1, by omega, by omega, by go_num, b5, _, _, HG5, by rw [show (((k + 1 : Nat) : Int) - 1) = k by omega]; exact HS⟩
        case measure => simp [intOf]; omega
      · have O1 := Lib.hid (hno hz)
        have hz' : ((k : Int) % (m + 1) == 0) = false := by simp [hz]
        clear hy hno hz
        go_wp2_with fail
        refine Mix.wp_text (by kernel_rfl) (by kernel_rfl) ?_
        go_wp2_with fail
        refine (bad_any _ _ _ _ _ _ _ 7 k _ (by omega) (by omega) (by omega) (by omega) (by omega) (hG.out.grown (Below.refl _ _).drew)).mono ?_
        rintro e w2 ⟨rfl, hb2, hG2⟩
        rw [O1.out]
        have HG2 := Lib.hid hG2
        clear hG2
        go_wp2_with fail
        refine (count_any _ _ _ _ _ _ _ 7 _ (by omega) HG2.out).mono ?_
        rintro e w3 ⟨rfl, hb3⟩
        rw [HS.out.a1]
        have HG3 := Lib.hid (HG2.out.grown hb3)
        go_wp2_with fail
        refine ⟨by rfl, ?_⟩
        go_wp2_with fail
        go_roundw
        have s2 := (hb.drew.trans hb2).size
        have b3 := (hb.drew.trans hb2).trans (hb3.mono s2)
        case rel => exact ⟨k + 1, by omega, by omega, by go_num, b3, _, _, HG3, by rw [show (((k + 1 : Nat) : Int) - 1) = k by omega]; exact HS⟩
        case measure => simp [intOf]; omega
    · have h8 := HQ.out.b1
      have O1 := Lib.hid h8
      have O2 := Lib.hid (show shutB till 8 0 = false by simp [shutB, HQ.out.b2])
      clear h8
      go_wp2_with fail
      refine (count_any _ _ _ _ _ _ _ 8 _ (by omega) hG.out).mono ?_
      rintro e w2 ⟨rfl, hb2⟩
      rw [O1.out]
      have HG2 := Lib.hid (hG.out.grown hb2)
      go_wp2_with fail
      refine (shut_any _ _ _ _ _ _ _ 8 0 _ (by omega) HG2.out).mono ?_
      rintro e w3 ⟨rfl, hb3⟩
      rw [O2.out]
      go_wp2_with fail
      refine (wakes_any _).mono ?_
      rintro e w4 ⟨rfl, hb4⟩
      go_wp2_with fail
      go_ret
      have b2 := hb.trans (hb2.mono hb.size)
      have b3 := b2.trans (hb3.mono b2.size)
      exact ⟨rfl, b3.trans (hb4.mono b3.size)⟩

end Go.Proofs.Ytopagbmgpecgeaa
