import Derived.Test.YtopagbmgpecgeaaD
namespace Go.Proofs.Ytopagbmgpecgeaa
open Go.RowKit

set_option maxHeartbeats 400000 in
theorem count_any (B g : Nat) (m t : Int) (L : Nat) (cnt : Int → Int) (till : Int → Option Int) (x : Int) (w : World) (hL : L ≤ 100000) (h : G w B g m t L cnt till) :
    Calls Try.prog 8 #[.pointer (some ⟨g, 0, none⟩), .int .i64 x] w fun e w' => e = .returned (.int .i64 (cnt x)) ∧ Below w.heap.size w w' := by
  obtain ⟨ps, h1, h2, h3⟩ := h
  have HG := Lib.hid h1
  clear h1
  by_cases hx : atB ps 0 x = -1
  · have e1 := (h3.nf x hx).1
    rw [e1]
    have HX := Lib.hid hx
    clear hx e1 h3
    go_enter Try.func8, Try.ntmps8
    go_wp2_with fail
    refine (HG.out.ask x (by omega)).mono ?_
    rw [HX.out]
    rintro e w1 ⟨rfl, hb1⟩
    go_wp2_with fail
    go_ret
    exact ⟨rfl, hb1⟩
  · obtain ⟨i, p, a1, a2, a3⟩ := atB_found ps 0 x hx (by omega)
    have hxi : atB ps 0 x = i := by omega
    have e1 := (h3.yf x i p hxi a1).1
    rw [e1]
    have HX := Lib.hid hxi
    clear hx e1 h3 hxi a2 a3
    have HP := Lib.hid a1
    clear a1
    go_enter Try.func8, Try.ntmps8
    go_wp2_with fail
    refine (HG.out.ask x (by omega)).mono ?_
    rw [HX.out]
    rintro e w1 ⟨rfl, hb1⟩
    obtain ⟨b, cap, e1, e2, e3, e4, -, -, e5, k0, k1, k2, k3, k4, k5, k6, k7, -, -⟩ := (HG.out.grown hb1).found i p HP.out
    go_wp2_with fail
    go_ret
    exact ⟨rfl, hb1⟩

set_option maxHeartbeats 400000 in
theorem shut_any (B g : Nat) (m t : Int) (L : Nat) (cnt : Int → Int) (till : Int → Option Int) (x c : Int) (w : World) (hL : L ≤ 100000) (h : G w B g m t L cnt till) :
    Calls Try.prog 9 #[.pointer (some ⟨g, 0, none⟩), .int .i64 x, .int .i64 c] w fun e w' => e = .returned (.bool (shutB till x c)) ∧ Below w.heap.size w w' := by
  obtain ⟨ps, h1, h2, h3⟩ := h
  have HG := Lib.hid h1
  clear h1
  by_cases hx : atB ps 0 x = -1
  · have e1 : shutB till x c = false := by simp [shutB, (h3.nf x hx).2]
    rw [e1]
    have HX := Lib.hid hx
    clear hx e1 h3
    go_enter Try.func9, Try.ntmps9
    go_wp2_with fail
    refine (HG.out.ask x (by omega)).mono ?_
    rw [HX.out]
    rintro e w1 ⟨rfl, hb1⟩
    go_wp2_with fail
    go_quiet (fail)
    go_wp2
    go_ret
    exact ⟨rfl, below_drewN hb1 _⟩
  · obtain ⟨i, p, a1, a2, a3⟩ := atB_found ps 0 x hx (by omega)
    have hxi : atB ps 0 x = i := by omega
    have e1 : shutB till x c = decide (wthn c < p.till) := by simp [shutB, (h3.yf x i p hxi a1).2]
    rw [e1]
    have HX := Lib.hid hxi
    clear hx e1 h3 hxi a2 a3
    have HP := Lib.hid a1
    clear a1
    go_enter Try.func9, Try.ntmps9
    go_wp2_with fail
    refine (HG.out.ask x (by omega)).mono ?_
    rw [HX.out]
    rintro e w1 ⟨rfl, hb1⟩
    obtain ⟨b, cap, e1, e2, e3, e4, -, -, e5, k0, k1, k2, k3, k4, k5, k6, k7, -, -⟩ := (HG.out.grown hb1).found i p HP.out
    go_wp2_with fail
    go_quiet ((go_at_call 12; exact Calls.quiet_of_same ((within_any _ _).mono fun _ _ h => ⟨h.1, h.2.symm⟩)))
    go_wp2
    go_ret
    exact ⟨rfl, below_drewN hb1 _⟩

theorem G_new (w : World) (B : Nat) (m t : Int) (hB : B ≤ w.heap.size) (hm : 1 ≤ m) : G (w.alloc (.cells #[.int .i64 m, .int .i64 t, .slice none 0 0] 34)) B w.heap.size m t 0 (fun _ => 0) (fun _ => none) := by
  refine ⟨[], ⟨.slice none 0 0, heap_alloc_new w _, hB, by simp [Value.ownBlock], World.ownsRow_nil _ _ _ _⟩, by simp, ⟨fun _ _ => ⟨rfl, rfl⟩, fun _ _ _ _ h => by simp at h, fun _ => by omega⟩⟩

theorem tmod_in (v n : Int) (h : 1 ≤ n) : -n < v.tmod n ∧ v.tmod n < n := by
  have h1 := Int.tmod_lt_of_pos v (show 0 < n by omega)
  have h2 := Int.lt_tmod_of_pos v (show 0 < n by omega)
  exact ⟨h2, h1⟩

theorem tmod_emod (v n : Int) (h : 1 ≤ n) : v % n = if v.tmod n < 0 then v.tmod n + n else v.tmod n := by
  have h1 := Int.mul_tdiv_add_tmod v n
  have h2 := tmod_in v n h
  have h3 : v % n = v.tmod n % n := by
    conv => lhs; rw [← h1]
    rw [Int.mul_add_emod_self_left]
  rw [h3]
  split
  · rw [← Int.add_emod_right, Int.emod_eq_of_lt (by omega) (by omega)]
  · rw [Int.emod_eq_of_lt (by omega) (by omega)]

set_option maxHeartbeats 400000 in
theorem Within_any (v n : Int) (w : World) (h0 : 1 ≤ n) (h1 : n ≤ 1000000) :
    Calls Try.prog 5 #[.int .i64 v, .int .i64 n] w fun e w' => e = .returned (.int .i64 (v % n)) ∧ w = w' := by
  obtain ⟨b1, b2⟩ := tmod_in v n h0
  have H := Lib.hid (tmod_emod v n h0)
  go_enter Try.func5, Try.ntmps5
  go_wp2
  all_goals
    go_ret
    refine ⟨ret_int ?_, rfl⟩
    have h := H.out
    split at h <;> omega

end Go.Proofs.Ytopagbmgpecgeaa
