/- The walk of the law SlotPlays. -/
import Derived.Test.YtdeadekeffficaaPlE
import Derived.Test.YtdeadekeffficaaWakes
namespace Go.Proofs.Ytdeadekeffficaa
open Go.RowKit Go.Heap

set_option maxHeartbeats 400000 in
theorem new_bad (f : Int) (w : World) (h : f < 1 ∨ 4 < f) : Calls Try.prog 18 #[.int .i64 f] w fun e w' => e = .returned (.tuple #[.pointer none, .int .i64 1]) ∧ w = w' := by
  by_cases h1 : f < 1
  · go_enter Try.func18, Try.ntmps18
    go_wp2_with fail
    go_ret2
    exact ⟨rfl, rfl⟩
  · have h2 : 4 < f := by omega
    have hb1 : decide (f < 1) = false := by simp; omega
    have hb2 : decide (4 < f) = true := by simp; omega
    go_enter Try.func18, Try.ntmps18
    go_wp2_with fail
    go_ret2
    exact ⟨rfl, rfl⟩

theorem docR_none (f : Nat) {w : World} {A : List Nat} (hA : ∀ k ∈ A, k < w.heap.size) : (docR (.slice none 0 0) (.slice none 0 0) (.slice none 0 0) (emptySl f)).At w A :=
  ⟨[], ⟨⟨ReadsIn.nil _ _ _, ⟨[], ⟨ReadsIn.nil _ _ _, by simp⟩, by simp [emptySl, refs_none]⟩, ⟨[], ⟨ReadsIn.nil _ _ _, by simp⟩, by simp [emptySl, refs_none]⟩⟩, by simp⟩, by simp, hA⟩

theorem docR_forms {w : World} {A : List Nat} {vb vp vc : Value} {st : Sl} (h : (docR vb vp vc st).At w A) : ∃ xb nb cb xp np cp xc nc cc, vb = .slice xb nb cb ∧ vp = .slice xp np cp ∧ vc = .slice xc nc cc := by
  obtain ⟨D, ⟨h1, _⟩, _, _⟩ := h
  obtain ⟨xb, cb, h2⟩ := bat_form h1.b.bat
  obtain ⟨pl, p1, _⟩ := h1.p
  obtain ⟨cl, c1, _⟩ := h1.c
  obtain ⟨xp, np, cp, h3⟩ := rvs_form p1.rvs
  obtain ⟨xc, nc, cc, h4⟩ := rvs_form c1.rvs
  exact ⟨xb, _, cb, xp, np, cp, xc, nc, cc, h2, h3, h4⟩

theorem Own.dup {B : Nat} {w0 W : World} {r : Res} {rs : List Res} (hM : r.M = []) (h : Own B w0 W (r :: rs)) : Own B w0 W (r :: r :: rs) :=
  h.new (Upd.refl [] _) h.head (by rw [hM]; simp)

abbrev PlS (w W : World) (f s q : Nat) (rs : List Res) : Prop := ∃ L st vb vp vc, L.f = f ∧ L.s = s ∧ Own w.heap.size w W (slotR L st :: blk q (docO st.has vb vp vc) :: docR vb vp vc st :: rs)

set_option maxHeartbeats 1000000 in
set_option maxRecDepth 100000 in
theorem plays_any (a0 : Int) (v1 : Value) (xs : List Ac) {w : World} (hv : Acts w v1 xs) (v2 : Value) (ys : List Ac) (hu : Acts w v2 ys) :
    Calls Try.prog 7 #[.int .i64 a0, v1, v2] w fun e w' => e = .returned (.bool true) ∧ Below w.heap.size w w' := by
  obtain ⟨ao, cap, rfl, hl1, hl2, -⟩ := hv.1
  obtain ⟨ao', cap', rfl, hm1, hm2, -⟩ := hu.1
  have hmx : xs.length ≤ 9223372036854775807 := by unfold maxLen at hl2; omega
  have hmy : ys.length ≤ 9223372036854775807 := by unfold maxLen at hm2; omega
  clear hl1 hl2 hm1 hm2
  have HX := Lib.hid hv
  have HY := Lib.hid hu
  clear hv hu
  by_cases hf : a0 < 1 ∨ 4 < a0
  · by_cases h1 : a0 < 1
    · have HN := Lib.hid (fun w => new_bad a0 w hf)
      clear hf
      go_enter Try.func7, Try.ntmps7
      go_wp2_with fail
      refine (HN.out _).mono ?_
      rintro e w' ⟨rfl, rfl⟩
      go_wp2_with fail
      refine (wakes_any _).mono ?_
      rintro e w1 ⟨rfl, hb⟩
      go_wp2_with fail
      go_ret
      exact ⟨rfl, hb⟩
    · have h2 : 4 < a0 := by omega
      have hb1 : decide (a0 < 1) = false := by simp; omega
      have hb2 : decide (4 < a0) = true := by simp; omega
      have HN := Lib.hid (fun w => new_bad a0 w hf)
      clear hf
      go_enter Try.func7, Try.ntmps7
      go_wp2_with fail
      refine (HN.out _).mono ?_
      rintro e w' ⟨rfl, rfl⟩
      go_wp2_with fail
      refine (wakes_any _).mono ?_
      rintro e w1 ⟨rfl, hb⟩
      go_wp2_with fail
      go_ret
      exact ⟨rfl, hb⟩
  · obtain ⟨f, rfl⟩ : ∃ f : Nat, a0 = f := ⟨a0.toNat, by omega⟩
    have hf1 : 1 ≤ f := by omega
    have hf2 : f ≤ 4 := by omega
    have hb1 : decide ((f : Int) < 1) = false := by simp; omega
    have hb2 : decide (4 < (f : Int)) = false := by simp; omega
    clear hf
    go_enter Try.func7, Try.ntmps7
    go_wp2_with fail
    refine (own_new f hf1 hf2 (Own.start (Below.refl w.heap.size w) (Nat.le_refl _))).mono ?_
    rintro e w1 ⟨L, rfl, hLf, -, h1⟩
    have HS : Hid (PlS w (w1.alloc (docO false (.slice none 0 0) (.slice none 0 0) (.slice none 0 0))) f L.s w1.heap.size []) := Lib.hid ⟨L, emptySl f, _, _, _, hLf, rfl, by
      have h2 := h1.box (docO false (.slice none 0 0) (.slice none 0 0) (.slice none 0 0))
      have h3 := (h2.new (r := docR (.slice none 0 0) (.slice none 0 0) (.slice none 0 0) (emptySl f)) (Upd.refl [] _) (docR_none f (fun k hk => h2.lt k hk)) (by simp [docR, imm]))
      exact h3.swap.rot⟩
    clear h1 hLf
    go_upto_block 0 with fail
    generalize w1.alloc (docO false (.slice none 0 0) (.slice none 0 0) (.slice none 0 0)) = w2 at *
    generalize w1.heap.size = q at *
    go_cut [10] (fun _ wx => Hid (PlS w wx f L.s q []))
    case first =>
      go_wp2_with fail
      go_loopw [10] (fun i wr => ∃ k : Nat, k ≤ xs.length ∧ i = .int .i64 k ∧ Hid (PlS w wr f L.s q [])) (fun i _ => xs.length - (intOf i).toNat)
      case atStart => exact ⟨0, by omega, rfl, HS⟩
      case round =>
        clear HS
        obtain ⟨k, hk, rfl, HS⟩ := hrel
        by_cases hlt : k < xs.length
        · have hkI : (k : Int) < (xs.length : Int) := by omega
          by_cases h60 : k < 60
          · have hk60 : (k : Int) < 60 := by omega
            obtain ⟨L1, st1, vb1, vp1, vc1, hf', hs', h1⟩ := HS.out
            have hat := (HX.out.below (Upd.of_below h1.below)).at k hlt
            obtain ⟨-, b, o, rfl, hbl, c0, c1, c2, c3, c4, c5, -⟩ := hat
            have HA := Lib.hid ((HX.out).2 xs[k] (by simp))
            have H1 := Lib.hid h1
            have HF1 := Lib.hid hf'
            have HS1 := Lib.hid hs'
            clear hf' hs' h1
            go_wp2_with fail
            have hp : L1.ptr = L.ptr := by simp [Loc.ptr, HS1.out]
            have hd := do_any xs[k] H1.out f HF1.out hf1 hf2 rfl HA.out
            rw [hp] at hd
            clear hp
            refine hd.mono ?_
            clear hd
            rintro e w3 ⟨rfl, L2, st2, vb2, vp2, vc2, hf2', hs2, h2⟩
            have HS2 : Hid (PlS w w3 f L.s q []) := Lib.hid ⟨L2, st2, vb2, vp2, vc2, hf2', by rw [hs2, HS1.out], h2⟩
            clear hf2' hs2 h2 c0 c1 c2 c3 c4 c5
            go_wp2_with fail
            go_roundw
            case rel => exact ⟨k + 1, by omega, by go_num, HS2⟩
            case measure => simp [intOf]; omega
          · have hk60 : ¬ (k : Int) < 60 := by omega
            have hqb : decide ((k : Int) < 60) = false := by simp; omega
            go_wp2_with fail
            go_meet
            exact HS
        · have hkI : ¬ (k : Int) < (xs.length : Int) := by omega
          have hqb : decide ((k : Int) < (xs.length : Int)) = false := by simp; omega
          go_wp2_with fail
          go_meet
          exact HS
    case rest =>
      clear HS
      obtain ⟨L1, st1, vb1, vp1, vc1, hf', hs', h1⟩ := hcut.out
      obtain ⟨xb, nb, cb, xp, np, cp, xc, nc, cc, rfl, rfl, rfl⟩ := docR_forms h1.drop.drop.head
      have H1 := Lib.hid h1
      have HF1 := Lib.hid hf'
      have HS1 := Lib.hid hs'
      clear hf' hs' h1 hcut
      go_wp2_with fail
      have hp : L1.ptr = L.ptr := by simp [Loc.ptr, HS1.out]
      have hd := own_clone H1.out
      rw [hp] at hd
      refine hd.mono ?_
      clear hd hp
      rintro e w3 ⟨L3, rfl, hf3, -, h3⟩
      obtain ⟨c0, c1, c2, c3, -⟩ := doc_cells h3.drop.drop.blk_out
      have HT : Hid (PlS w (w3.alloc (docO st1.has (.slice xb nb cb) (.slice xp np cp) (.slice xc nc cc))) f L3.s w3.heap.size [slotR L1 st1, blk q (docO st1.has (.slice xb nb cb) (.slice xp np cp) (.slice xc nc cc)), docR (.slice xb nb cb) (.slice xp np cp) (.slice xc nc cc) st1]) := Lib.hid ⟨L3, st1, (.slice xb nb cb), (.slice xp np cp), (.slice xc nc cc), by rw [hf3, HF1.out], rfl, by
        have h4 := h3.box (docO st1.has (.slice xb nb cb) (.slice xp np cp) (.slice xc nc cc))
        have h5 : Own w.heap.size w (w3.alloc (docO st1.has (.slice xb nb cb) (.slice xp np cp) (.slice xc nc cc))) [docR (.slice xb nb cb) (.slice xp np cp) (.slice xc nc cc) st1, blk w3.heap.size (docO st1.has (.slice xb nb cb) (.slice xp np cp) (.slice xc nc cc)), slotR L3 st1, slotR L1 st1, blk q (docO st1.has (.slice xb nb cb) (.slice xp np cp) (.slice xc nc cc))] := h4.perm (List.perm_middle (l₁ := [_, _, _, _]))
        have h6 := Own.dup rfl h5
        have h7 : Own w.heap.size w (w3.alloc (docO st1.has (.slice xb nb cb) (.slice xp np cp) (.slice xc nc cc))) [docR (.slice xb nb cb) (.slice xp np cp) (.slice xc nc cc) st1, blk w3.heap.size (docO st1.has (.slice xb nb cb) (.slice xp np cp) (.slice xc nc cc)), slotR L3 st1, slotR L1 st1, blk q (docO st1.has (.slice xb nb cb) (.slice xp np cp) (.slice xc nc cc)), docR (.slice xb nb cb) (.slice xp np cp) (.slice xc nc cc) st1] := h6.perm (List.Perm.cons _ (List.perm_middle (l₁ := [_, _, _, _]) (l₂ := [])).symm)
        exact h7.swap.rot⟩
      clear h3 hf3
      go_upto_block 2 with fail
      generalize w3.alloc (docO st1.has (.slice xb nb cb) (.slice xp np cp) (.slice xc nc cc)) = w4 at *
      generalize w3.heap.size = qx at *
      clear H1 c0 c1 c2 c3
      go_cut [13] (fun _ wx => Hid (PlS w wx f L3.s qx [slotR L1 st1, blk q (docO st1.has (.slice xb nb cb) (.slice xp np cp) (.slice xc nc cc)), docR (.slice xb nb cb) (.slice xp np cp) (.slice xc nc cc) st1]))
      case first =>
        go_wp2_with fail
        go_loopw [13] (fun i wr => ∃ k : Nat, k ≤ ys.length ∧ i = .int .i64 k ∧ Hid (PlS w wr f L3.s qx [slotR L1 st1, blk q (docO st1.has (.slice xb nb cb) (.slice xp np cp) (.slice xc nc cc)), docR (.slice xb nb cb) (.slice xp np cp) (.slice xc nc cc) st1])) (fun i _ => ys.length - (intOf i).toNat)
        case atStart => exact ⟨0, by omega, rfl, HT⟩
        case round =>
          clear HT
          obtain ⟨k, hk, rfl, HT⟩ := hrel
          by_cases hlt : k < ys.length
          · have hkI : (k : Int) < (ys.length : Int) := by omega
            by_cases h60 : k < 40
            · have hk60 : (k : Int) < 40 := by omega
              obtain ⟨L4, st4, vb4, vp4, vc4, hf', hs', h1⟩ := HT.out
              have hat := (HY.out.below (Upd.of_below h1.below)).at k hlt
              obtain ⟨-, b, o, rfl, hbl, c0, c1, c2, c3, c4, c5, -⟩ := hat
              have HA := Lib.hid ((HY.out).2 ys[k] (by simp))
              have hp : L4.ptr = L3.ptr := by simp [Loc.ptr, hs']
              have hd := do_any ys[k] h1 f hf' hf1 hf2 rfl HA.out
              rw [hp] at hd
              have HD := Lib.hid hd
              have HS4 := Lib.hid hs'
              clear hf' hs' h1 hp hd
              go_wp2_with fail
              refine HD.out.mono ?_
              rintro e w5 ⟨rfl, L2, st2, vb2, vp2, vc2, hf2', hs2, h2⟩
              have HT2 : Hid (PlS w w5 f L3.s qx [slotR L1 st1, blk q (docO st1.has (.slice xb nb cb) (.slice xp np cp) (.slice xc nc cc)), docR (.slice xb nb cb) (.slice xp np cp) (.slice xc nc cc) st1]) := Lib.hid ⟨L2, st2, vb2, vp2, vc2, hf2', by rw [hs2, HS4.out], h2⟩
              clear hf2' hs2 h2 c0 c1 c2 c3 c4 c5
              go_wp2_with fail
              go_roundw
              case rel => exact ⟨k + 1, by omega, by go_num, HT2⟩
              case measure => simp [intOf]; omega
            · have hk60 : ¬ (k : Int) < 40 := by omega
              have hqb : decide ((k : Int) < 40) = false := by simp; omega
              go_wp2_with fail
              go_meet
              exact HT
          · have hkI : ¬ (k : Int) < (ys.length : Int) := by omega
            have hqb : decide ((k : Int) < (ys.length : Int)) = false := by simp; omega
            go_wp2_with fail
            go_meet
            exact HT
      case rest =>
        clear HT
        obtain ⟨L4, st4, vb4, vp4, vc4, hf', hs', h1⟩ := hcut.out
        have hp : L1.ptr = L.ptr := by simp [Loc.ptr, HS1.out]
        have hd := own_right h1.drop.drop.drop (by rw [HF1.out]; exact hf1) (by rw [HF1.out]; exact hf2)
        rw [hp, HF1.out] at hd
        have HD := Lib.hid hd
        have H1 := Lib.hid h1
        clear hf' hs' h1 hcut hd hp
        go_wp2_with fail
        refine HD.out.mono ?_
        rintro e w6 ⟨rfl, hu6⟩
        have H6 := Lib.hid (H1.out.upd0 hu6)
        clear hu6
        go_wp2_with fail
        refine (wakes_any _).mono ?_
        rintro e w7 ⟨rfl, hb7⟩
        have H7 := Lib.hid (H6.out.to hb7)
        clear hb7
        go_wp2_with fail
        go_ret
        exact ⟨rfl, H7.out.below⟩

end Go.Proofs.Ytdeadekeffficaa
