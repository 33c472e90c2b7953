import Derived.Test.YtopagbmgpecgeaaF
namespace Go.Proofs.Ytopagbmgpecgeaa
open Go.RowKit

theorem emod_in (v n : Int) (h : 1 ≤ n) : 0 ≤ v % n ∧ v % n < n := ⟨Int.emod_nonneg _ (by omega), Int.emod_lt_of_pos _ (by omega)⟩

set_option maxHeartbeats 400000 in
theorem alone_same (a0 a1 a4 a : Int) (w : World) :
    Calls Try.prog 4 #[.int .i64 a0, .int .i64 a1, .int .i64 a, .int .i64 a, .int .i64 a4] w fun e w' => e = .returned (.bool true) ∧ Below w.heap.size w w' := by
  obtain ⟨m1, m2⟩ := emod_in a0 64 (by omega)
  obtain ⟨t1, t2⟩ := emod_in a1 64 (by omega)
  go_enter Try.func4, Try.ntmps4
  go_wp2_with fail
  refine (Within_any a0 64 _ (by omega) (by omega)).mono ?_
  rintro e w' ⟨rfl, rfl⟩
  go_wp2_with fail
  refine (Within_any a1 64 _ (by omega) (by omega)).mono ?_
  rintro e w' ⟨rfl, rfl⟩
  go_wp2_with fail
  refine (Within_any a4 10000 _ (by omega) (by omega)).mono ?_
  rintro e w' ⟨rfl, rfl⟩
  go_wp2_with fail
  refine (wakes_any _).mono ?_
  rintro e w' ⟨rfl, hb⟩
  go_wp2_with fail
  go_ret
  exact ⟨rfl, hb⟩

theorem bump_self (m : Int) (cnt : Int → Int) (x k : Int) (h : cnt x = k) (hk : k + 1 ≤ m) : overB m cnt x = false ∧ bumpC m cnt x x = k + 1 := by
  simp [overB, bumpC, h]; omega
theorem bump_over (m : Int) (cnt : Int → Int) (x : Int) (h : cnt x = m) : overB m cnt x = true ∧ bumpC m cnt x x = 0 := by
  simp [overB, bumpC, h]; omega
theorem bump_other (m t c : Int) (cnt : Int → Int) (till : Int → Option Int) (x y : Int) (h : y ≠ x) : bumpC m cnt x y = cnt y ∧ bumpT m t c cnt till x y = till y := by
  simp [bumpC, bumpT, h]

/-- Of party a: k bad messages, never shut out (till 0 at most); of b: nothing. -/
structure Quiet (cnt : Int → Int) (till : Int → Option Int) (a b k : Int) : Prop where
  a1 : cnt a = k
  a2 : till a = none ∨ till a = some 0
  b1 : cnt b = 0
  b2 : till b = none

theorem Quiet.bump {cnt : Int → Int} {till : Int → Option Int} {a b k m t c : Int} (h : Quiet cnt till a b k) (hab : a ≠ b) (hk : k + 1 ≤ m) : overB m cnt a = false ∧ Quiet (bumpC m cnt a) (bumpT m t c cnt till a) a b (k + 1) := by
  obtain ⟨h1, h2, h3, h4⟩ := h
  obtain ⟨e1, e2⟩ := bump_self m cnt a k h1 hk
  obtain ⟨e3, e4⟩ := bump_other m t c cnt till a b (Ne.symm hab)
  refine ⟨e1, e2, ?_, e3.trans h3, e4.trans h4⟩
  have : ¬ m < cnt a + 1 := by omega
  simp only [bumpT, if_pos, if_neg this]
  rcases h2 with h2 | h2 <;> simp [h2]

theorem Quiet.shut {cnt : Int → Int} {till : Int → Option Int} {a b k : Int} (h : Quiet cnt till a b k) (c : Int) : shutB till a c = false ∧ shutB till b c = false := by
  obtain ⟨h1, h2, h3, h4⟩ := h
  refine ⟨?_, by simp [shutB, h4]⟩
  have : ¬ wthn c < 0 := by unfold wthn; omega
  rcases h2 with h2 | h2 <;> simp [shutB, h2, this]

theorem Quiet.last {cnt : Int → Int} {till : Int → Option Int} {a b m t c : Int} (h : Quiet cnt till a b m) (hab : a ≠ b) (h0 : 0 ≤ c) (h1 : c ≤ 10000) (ht : 1 ≤ t) (ht2 : t ≤ 64) :
    overB m cnt a = true ∧ bumpC m cnt a a = 0 ∧ bumpC m cnt a b = 0 ∧ shutB (bumpT m t c cnt till a) b c = false ∧ shutB (bumpT m t c cnt till a) a (c + t - 1) = true ∧ shutB (bumpT m t c cnt till a) a (c + t) = false := by
  obtain ⟨e1, e2⟩ := bump_over m cnt a h.a1
  obtain ⟨e3, e4⟩ := bump_other m t c cnt till a b (Ne.symm hab)
  have hov : m < cnt a + 1 := by have := h.a1; omega
  have et : bumpT m t c cnt till a a = some (wthn c + t) := by simp [bumpT, hov]
  refine ⟨e1, e2, e3.trans h.b1, by simp [shutB, e4, h.b2], ?_, ?_⟩
  · have : wthn (c + t - 1) < wthn c + t := by unfold wthn; omega
    simp [shutB, et, this]
  · have : ¬ wthn (c + t) < wthn c + t := by unfold wthn; omega
    simp [shutB, et]; omega

set_option maxHeartbeats 1000000 in
theorem alone_other (a0 a1 a4 a b : Int) (hab : a ≠ b) (w : World) :
    Calls Try.prog 4 #[.int .i64 a0, .int .i64 a1, .int .i64 a, .int .i64 b, .int .i64 a4] w fun e w' => e = .returned (.bool true) ∧ Below w.heap.size w w' := by
  obtain ⟨m1, m2⟩ := emod_in a0 64 (by omega)
  obtain ⟨t1, t2⟩ := emod_in a1 64 (by omega)
  obtain ⟨c1, c2⟩ := emod_in a4 10000 (by omega)
  have HAB := Lib.hid hab
  have hab' : (a == b) = false := by simp [hab]
  clear hab
  go_enter Try.func4, Try.ntmps4
  go_wp2_with fail
  refine (Within_any a0 64 _ (by omega) (by omega)).mono ?_
  rintro e w' ⟨rfl, rfl⟩
  go_wp2_with fail
  refine (Within_any a1 64 _ (by omega) (by omega)).mono ?_
  rintro e w' ⟨rfl, rfl⟩
  go_wp2_with fail
  refine (Within_any a4 10000 _ (by omega) (by omega)).mono ?_
  rintro e w' ⟨rfl, rfl⟩
  go_wp2_with fail
  generalize a4 % 10000 = c at *
  obtain ⟨m, hm⟩ : ∃ m : Nat, 1 + a0 % 64 = m := ⟨(1 + a0 % 64).toNat, by omega⟩
  obtain ⟨t, ht⟩ : ∃ t : Int, 1 + a1 % 64 = t := ⟨_, rfl⟩
  have hm1 : 1 ≤ m := by omega
  have hm2 : m ≤ 64 := by omega
  have ht1 : 1 ≤ t := by omega
  have ht2 : t ≤ 64 := by omega
  rw [hm, ht]
  clear hm ht
  refine (new_any m t w (by omega) (by omega) (by omega) (by omega)).mono ?_
  rintro e w1 ⟨rfl, rfl⟩
  have hG := Lib.hid (G_new w w.heap.size m t (Nat.le_refl _) (by omega))
  have hb := (Below.refl w.heap.size w).alloc (Nat.le_refl _) (.cells #[.int .i64 m, .int .i64 t, .slice none 0 0] 34)
  generalize w.alloc (.cells #[.int .i64 m, .int .i64 t, .slice none 0 0] 34) = w1 at *
  have HQ := Lib.hid (⟨rfl, .inl rfl, rfl, rfl⟩ : Quiet (fun _ => 0) (fun _ => none) a b 0)
  go_wp2_with fail
  go_loopw [13] (fun i wr => ∃ k : Nat, k ≤ m ∧ i = .int .i64 k ∧ Below w.heap.size w wr ∧ ∃ cnt till, Hid (G wr w.heap.size w.heap.size m t k cnt till) ∧ Hid (Quiet cnt till a b k)) (fun i _ => m - (intOf i).toNat)
  case atStart => exact ⟨0, by omega, rfl, hb, _, _, hG, HQ⟩
  case round =>
    clear hb hG HQ
    obtain ⟨k, hk, rfl, hb, cnt, till, hG, HQ⟩ := hrel
    by_cases hlt : k < m
    · go_wp2_with fail
      refine (bad_any _ _ _ _ _ _ _ a c _ (by omega) (by omega) (by omega) (by omega) (by omega) hG.out).mono ?_
      rintro e w2 ⟨rfl, hb2, hG2⟩
      obtain ⟨o1, hq⟩ := HQ.out.bump (m := m) (t := t) (c := c) HAB.out (by omega)
      have HG2 := Lib.hid hG2
      have HQ2 := Lib.hid hq
      clear hG2 hq
      rw [o1]
      clear o1
      go_wp2_with fail
      refine (shut_any _ _ _ _ _ _ _ a c _ (by omega) HG2.out).mono ?_
      rintro e w3 ⟨rfl, hb3⟩
      rw [(HQ2.out.shut c).1]
      go_wp2_with fail
      go_roundw
      case rel => exact ⟨k + 1, by omega, by go_num, (hb.trans hb2).trans (hb3.mono (Nat.le_trans hb.size hb2.size)), _, _, HG2.out.grown hb3, HQ2.out⟩
      case measure => simp [intOf]; omega
    · have hkm : k = m := by omega
      subst hkm
      obtain ⟨o1, o2, o3, o4, o5, o6⟩ := HQ.out.last (t := t) (c := c) HAB.out c1 (by omega) ht1 ht2
      have O1 := Lib.hid o1
      have O2 := Lib.hid o2
      have O3 := Lib.hid o3
      have O4 := Lib.hid o4
      have O5 := Lib.hid o5
      have O6 := Lib.hid o6
      clear o1 o2 o3 o4 o5 o6
      go_wp2_with fail
      refine (bad_any _ _ _ _ _ _ _ a c _ (by omega) (by omega) (by omega) (by omega) (by omega) hG.out).mono ?_
      rintro e w2 ⟨rfl, hb2, hG2⟩
      have HG2 := Lib.hid hG2
      clear hG2
      rw [O1.out]
      go_wp2_with fail
      refine (count_any _ _ _ _ _ _ _ a _ (by omega) HG2.out).mono ?_
      rintro e w3 ⟨rfl, hb3⟩
      have HG3 := Lib.hid (HG2.out.grown hb3)
      rw [O2.out]
      go_wp2_with fail
      refine (shut_any _ _ _ _ _ _ _ b c _ (by omega) HG3.out).mono ?_
      rintro e w4 ⟨rfl, hb4⟩
      have HG4 := Lib.hid (HG3.out.grown hb4)
      rw [O4.out]
      go_wp2_with fail
      refine (count_any _ _ _ _ _ _ _ b _ (by omega) HG4.out).mono ?_
      rintro e w5 ⟨rfl, hb5⟩
      have HG5 := Lib.hid (HG4.out.grown hb5)
      rw [O3.out]
      go_wp2_with fail
      refine (shut_any _ _ _ _ _ _ _ a _ _ (by omega) HG5.out).mono ?_
      rintro e w6 ⟨rfl, hb6⟩
      have HG6 := Lib.hid (HG5.out.grown hb6)
      rw [O5.out]
      go_wp2_with fail
      refine (shut_any _ _ _ _ _ _ _ a _ _ (by omega) HG6.out).mono ?_
      rintro e w7 ⟨rfl, hb7⟩
      rw [O6.out]
      go_wp2_with fail
      refine (wakes_any _).mono ?_
      rintro e w8 ⟨rfl, hb8⟩
      go_wp2_with fail
      go_ret
      have s2 := (hb.trans hb2).size
      have b3 := (hb.trans hb2).trans (hb3.mono s2)
      have b4 := b3.trans (hb4.mono b3.size)
      have b5 := b4.trans (hb5.mono b4.size)
      have b6 := b5.trans (hb6.mono b5.size)
      have b7 := b6.trans (hb7.mono b6.size)
      exact ⟨rfl, b7.trans (hb8.mono b7.size)⟩

end Go.Proofs.Ytopagbmgpecgeaa
