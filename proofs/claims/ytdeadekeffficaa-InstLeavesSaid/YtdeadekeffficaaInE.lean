/- inst: Next; fresh, cert. -/
import Derived.Test.YtdeadekeffficaaInD
namespace Go.Proofs.Ytdeadekeffficaa
open Go.RowKit Go.Heap

section
variable {B : Nat} {w0 W W' : World} {ss rs : List Res} {x : Ins}

set_option maxHeartbeats 1000000 in
theorem ins_next (h : Own B w0 W (instR x :: ss)) {i : Nat} (hi : x.i = i) : Calls Try.prog 52 #[.pointer (some ⟨i, 0, none⟩)] W fun e w' => e = .returned (.int .i64 (nextI x.st)) ∧ Upd [] W w' := by
  subst hi
  have ho := own_open h
  obtain ⟨-, -, -, -, -, c5, l1, l2⟩ := oi_cells ho
  have HN := Lib.hid (oi_ok ho).n
  have HL := Lib.hid (fun k h1 h2 h3 => lastHas_of (x.l.map Pm.pl) k h1 h2 h3)
  have H := Lib.hid ho
  clear ho h
  go_enter Try.func52, Try.ntmps52
  go_wp2_with fail
  go_loopw [3] (fun n wr => ∃ k : Nat, k ≤ 16 ∧ n = .int .i64 k ∧ Hid (∀ j (hj : j < x.l.length), k ≤ j → x.l[j].sl.has = false) ∧ Hid (Upd [] W wr)) (fun n _ => (intOf n).toNat)
  case atStart => exact ⟨16, by omega, rfl, Lib.hid (by intro j hj hk; rw [HN.out] at hj; omega), Lib.hid (Upd.refl _ _)⟩
  case round =>
    clear c5
    obtain ⟨k, hk, rfl, HA, HU⟩ := hrel
    have hor := H.out.upd0 HU.out
    obtain ⟨-, -, -, -, -, c5, -, -⟩ := oi_cells hor
    by_cases h0 : k = 0
    · subst h0
      clear hor
      go_wp2_with fail
      go_ret
      refine ⟨ret_int ?_, HU.out⟩
      rw [nextI, show lastHas x.st.l = 0 from HL.out 0 (by simp) (fun j hj hk => by simpa [Pm.pl] using HA.out j (by simpa using hj) hk) (fun j _ e => by omega)]
      rfl
    · have hk0 : (0 : Int) < (k : Int) := by omega
      have hk1 : (k : Int) - 1 = ((k - 1 : Nat) : Int) := by omega
      have hl : k - 1 < x.l.length := by rw [HN.out]; omega
      have hsub : IntKind.i64.wrap ((k : Int) - 1) = ((k - 1 : Nat) : Int) := by rw [hk1]; exact IntWalk.i64_in _ (by omega)
      have cp := oi_ptr hor (k - 1) hl
      have HC := Lib.hid (own_chosen (oi_pick hor (k - 1) hl))
      clear hor hk1 h0
      go_wp2_with fail
      refine HC.out.mono ?_
      rintro e w' ⟨u, rfl, hu, -, -⟩
      have HU2 := Lib.hid (HU.out.trans hu)
      clear hu cp
      cases hh : x.l[k - 1].sl.has
      · have HH := Lib.hid hh
        clear hh
        go_wp2_with fail
        go_roundw
        case rel =>
          refine ⟨k - 1, by omega, by go_num, Lib.hid (fun j hj hkj => ?_), HU2⟩
          by_cases e : j = k - 1
          · subst e; exact HH.out
          · exact HA.out j hj (by omega)
        case measure => simp [intOf]; omega
      · have HH := Lib.hid hh
        clear hh
        go_wp2_with fail
        go_ret
        refine ⟨ret_int ?_, HU2.out⟩
        rw [nextI, show lastHas x.st.l = k from HL.out k (by simp [HN.out]; omega) (fun j hj hk => by simpa [Pm.pl] using HA.out j (by simpa using hj) hk) (fun j hj e => by subst e; simpa [Pm.pl] using HH.out)]
        simp

end
end Go.Proofs.Ytdeadekeffficaa
