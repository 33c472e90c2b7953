/- inst: at, Done, View, Installed. -/
import Derived.Test.YtdeadekeffficaaInA
import Derived.Deep.RegionHeld3
import Derived.Deep.DeepCutAuto
import Derived.Deep.CutBlock
import Derived.Outline
namespace Go.Proofs.Ytdeadekeffficaa
open Go.RowKit Go.Heap

set_option maxHeartbeats 400000 in
theorem at_no (i b cap : Nat) (seq : Int) (w : World) (h : seq < 1 ∨ 16 < seq) (h5 : w.cell? ⟨i, 5, none⟩ = some (.slice (some ⟨b, 0, none⟩) 16 cap)) :
    Calls Try.prog 65 #[.pointer (some ⟨i, 0, none⟩), .int .i64 seq] w fun e w' => e = .returned (.pointer none) ∧ w = w' := by
  by_cases h1 : seq < 1
  · have hb : decide (seq < 1) = true := by simp; omega
    go_enter Try.func65, Try.ntmps65
    go_wp2_with fail
    go_ret
    exact ⟨rfl, rfl⟩
  · have hb : decide (seq < 1) = false := by simp; omega
    have h2 : 16 < seq := by omega
    go_enter Try.func65, Try.ntmps65
    go_wp2_with fail
    go_ret
    exact ⟨rfl, rfl⟩

set_option maxHeartbeats 400000 in
theorem at_yes (i b cap : Nat) (seq : Int) (w : World) (h1 : 1 ≤ seq) (h2 : seq ≤ 16) (h5 : w.cell? ⟨i, 5, none⟩ = some (.slice (some ⟨b, 0, none⟩) 16 cap)) :
    Calls Try.prog 65 #[.pointer (some ⟨i, 0, none⟩), .int .i64 seq] w fun e w' => e = .returned (.pointer (some ⟨b, (seq.toNat - 1) * 14, none⟩)) ∧ w = w' := by
  have hb : decide (seq < 1) = false := by simp; omega
  have hb2 : decide (16 < seq) = false := by simp; omega
  go_enter Try.func65, Try.ntmps65
  go_wp2_with fail
  go_ret
  exact ⟨rfl, rfl⟩

theorem take_while (l : List Pl) (n : Nat) (h : ∀ j (hj : j < l.length), j < n → l[j].done = true) (hn : n ≤ l.length) (he : ∀ (hj : n < l.length), l[n].done = false) : (l.takeWhile (·.done)).length = n := by
  induction l generalizing n with
  | nil => simp at hn; simp [hn]
  | cons p l ih =>
    match n with
    | 0 =>
      have := he (by simp)
      simp at this
      simp [List.takeWhile, this]
    | n + 1 =>
      have hp := h 0 (by simp) (by omega)
      simp at hp
      rw [List.takeWhile_cons, if_pos hp, List.length_cons, ih n (fun j hj hjn => by have := h (j + 1) (by simp; omega) (by omega); simpa using this) (by simpa using hn) (fun hj => by have := he (by simp; omega); simpa using this)]

section
variable {B : Nat} {w0 W W' : World} {ss : List Res} {x : Ins}

theorem oi_drew (h : OwnI B w0 W x ss) : OwnI B w0 W.drew x ss := Own.drew h

theorem oi_done (h : OwnI B w0 W x ss) (k : Nat) (hk : k < x.l.length) : W.cell? ⟨x.b, k * 14 + 8, none⟩ = some (.bool x.l[k].done) := oi_at h k hk 8 (by omega)
theorem oi_told (h : OwnI B w0 W x ss) (k : Nat) (hk : k < x.l.length) : W.cell? ⟨x.b, k * 14 + 1, none⟩ = some (.bool x.l[k].told) := oi_at h k hk 1 (by omega)
theorem oi_has (h : OwnI B w0 W x ss) (k : Nat) (hk : k < x.l.length) : W.cell? ⟨x.b, k * 14 + 2, none⟩ = some (.bool x.l[k].has) := oi_at h k hk 2 (by omega)
theorem oi_ptr (h : OwnI B w0 W x ss) (k : Nat) (hk : k < x.l.length) : W.cell? ⟨x.b, k * 14, none⟩ = some x.l[k].lc.ptr := oi_at h k hk 0 (by omega)

def DoneP (w : World) (n : Nat) (e : Ending) (w' : World) : Prop := e = .returned (.int .i64 n) ∧ w = w'

set_option maxHeartbeats 400000 in
theorem done_open (h : OwnI B w0 W x ss) : Calls Try.prog 37 #[x.ptr] W (DoneP W (doneI x.st)) := by
  obtain ⟨c0, c1, c2, c3, c4, c5, l1, l2⟩ := oi_cells h
  have hn := (oi_ok h).n
  have HN := Lib.hid hn
  have HD := Lib.hid (fun n h1 h2 h3 => take_while (x.l.map Pm.pl) n h1 h2 h3)
  have H := Lib.hid h
  clear h c0 c1 c2 c3 c4 hn
  go_enter Try.func37, Try.ntmps37
  go_wp2_with fail
  go_loop [3] (fun n => ∃ k : Nat, k ≤ 16 ∧ n = .int .i64 k ∧ Hid (∀ j (hj : j < x.l.length), j < k → x.l[j].done = true)) (fun n => 16 - (intOf n).toNat)
  case atStart => exact ⟨0, by omega, rfl, Lib.hid (by intro j _ hj; omega)⟩
  case round =>
    obtain ⟨k, hk, rfl, HA⟩ := hrel
    by_cases hlt : k < 16
    · have hkI : (k : Int) < 16 := by omega
      have hkl : k < x.l.length := by rw [HN.out]; exact hlt
      have cd := oi_done H.out k hkl
      cases hd : x.l[k].done
      · rw [hd] at cd
        have HDK := Lib.hid hd
        clear hd
        go_wp2_with fail
        go_ret
        refine ⟨ret_int ?_, rfl⟩
        rw [show doneI x.st = k from HD.out k (fun j hj hjk => by simpa [Pm.pl] using HA.out j (by simpa using hj) hjk) (by simp; omega) (fun hj => by simpa [Pm.pl] using HDK.out)]
      · rw [hd] at cd
        have HDK := Lib.hid hd
        clear hd
        go_wp2_with fail
        go_round
        case rel =>
          refine ⟨k + 1, by omega, by go_num, Lib.hid (fun j hj hjk => ?_)⟩
          by_cases e : j = k
          · subst e; exact HDK.out
          · exact HA.out j hj (by omega)
        case measure => simp [intOf]; omega
    · have hk16 : k = 16 := by omega
      subst hk16
      go_wp2_with fail
      go_ret
      refine ⟨ret_int ?_, rfl⟩
      rw [show doneI x.st = 16 from HD.out 16 (fun j hj hjk => by simpa [Pm.pl] using HA.out j (by simpa using hj) hjk) (by simp [HN.out]) (fun hj => by simp [HN.out] at hj)]
      rfl

theorem ins_done (h : Own B w0 W (instR x :: ss)) {i : Nat} (hi : x.i = i) : Calls Try.prog 37 #[.pointer (some ⟨i, 0, none⟩)] W (DoneP W (doneI x.st)) := by
  subst hi; exact done_open (own_open h)

set_option maxHeartbeats 400000 in
theorem ins_view (h : Own B w0 W (instR x :: ss)) {i : Nat} (hi : x.i = i) : Calls Try.prog 50 #[.pointer (some ⟨i, 0, none⟩)] W fun e w' => e = .returned (.int .i64 x.view) ∧ W = w' := by
  subst hi
  obtain ⟨c0, c1, c2, c3, c4, c5, l1, l2⟩ := oi_cells (own_open h)
  clear h c0 c1 c2 c4 c5
  go_enter Try.func50, Try.ntmps50
  go_wp2_with fail
  go_ret
  exact ⟨rfl, rfl⟩

set_option maxHeartbeats 400000 in
theorem ins_installed (h : Own B w0 W (instR x :: ss)) {i : Nat} (hi : x.i = i) : Calls Try.prog 51 #[.pointer (some ⟨i, 0, none⟩)] W fun e w' => e = .returned (.bool x.on) ∧ W = w' := by
  subst hi
  obtain ⟨c0, c1, c2, c3, c4, c5, l1, l2⟩ := oi_cells (own_open h)
  clear h c0 c1 c2 c3 c5
  go_enter Try.func51, Try.ntmps51
  go_wp2_with fail
  go_ret
  exact ⟨rfl, rfl⟩

end
end Go.Proofs.Ytdeadekeffficaa
