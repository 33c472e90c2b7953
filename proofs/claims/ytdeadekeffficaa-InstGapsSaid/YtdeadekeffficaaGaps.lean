/- The walk of the law InstGaps. -/
import Derived.Test.YtdeadekeffficaaGapP
import Derived.Test.YtdeadekeffficaaArgs
namespace Go.Proofs.Ytdeadekeffficaa
open Go.RowKit Go.Heap

def has18 (h : Nat → Bool) : Obj := .cells ((List.range 18).map fun k => .bool (h k)).toArray 67 (0, 0)

theorem has18_cell {W : World} {b : Nat} {h : Nat → Bool} (hb : W.heap[b]? = some (has18 h)) (k : Nat) (hk : k < 18) : W.cell? ⟨b, k, none⟩ = some (.bool (h k)) := by
  rw [block_cell hb]; simp [hk]

theorem has18_set (h : Nat → Bool) (m : Nat) : setIn m (.bool true) (has18 h) = has18 (addH h m) := by
  simp only [has18, setIn, Obj.cells.injEq, and_true]
  apply Array.ext'
  apply List.ext_getElem?
  intro j
  simp only [Array.toList_setIfInBounds, List.getElem?_set, List.getElem?_map]
  by_cases e : m = j
  · subst e
    by_cases hm : m < 18
    · simp [hm, addH]
    · simp [hm]
  · by_cases hj : j < 18
    · simp [e, hj, addH]
      omega
    · simp [e, hj]

def pcp (h : Nat → Bool) (m : Nat) : Cp := if h m then noCp else gCp m
theorem pcp_some (h : Nat → Bool) (m : Nat) : (if h m = true then (none : Option Cp) else some (gCp m)).isSome = !h m := by cases h m <;> rfl

/-- No number but those from 1 to 16. -/
def Only (h : Nat → Bool) : Prop := ∀ j, h j = true → 1 ≤ j ∧ j ≤ 16

theorem only_add {h : Nat → Bool} {m : Nat} (ho : Only h) (h1 : 1 ≤ m) (h2 : m ≤ 16) : Only (addH h m) := by
  intro j hj
  simp only [addH, Bool.or_eq_true, decide_eq_true_eq] at hj
  rcases hj with hj | rfl
  · exact ho j hj
  · exact ⟨h1, h2⟩

set_option maxHeartbeats 2000000 in
set_option maxRecDepth 100000 in
theorem gaps_any (v : Value) (zs : List Int) {w : World} (hv : Ints w v zs) : Calls Try.prog 9 #[v] w fun e w' => e = .returned (.bool true) ∧ Below w.heap.size w w' := by
  obtain ⟨ao, cap, rfl, hl1, hl2, -⟩ := id hv
  have hmx : zs.length ≤ 9223372036854775807 := by unfold maxLen at hl2; omega
  clear hl1 hl2
  have HZ := Lib.hid hv
  clear hv
  go_enter Try.func9, Try.ntmps9
  go_wp2_with fail
  refine (ai_new 1 0 1 (by omega) (by omega) (by omega) (by omega) (by omega) (by omega) (Own.start (Below.refl w.heap.size w) (Nat.le_refl _))).mono ?_
  rintro e w1 ⟨i, rfl, h1⟩
  rw [gp_new] at h1
  have H1 : Hid (AtI w.heap.size w (w1.alloc (.cells #[.bool false, .bool false, .bool false, .bool false, .bool false, .bool false, .bool false, .bool false, .bool false, .bool false, .bool false, .bool false, .bool false, .bool false, .bool false, .bool false, .bool false, .bool false] 67)) i (gp fun _ => false) [blk w1.heap.size (has18 fun _ => false)]) := Lib.hid (ai_box h1 (has18 fun _ => false))
  clear h1
  go_upto_block 0 with fail
  generalize w1.alloc (.cells #[.bool false, .bool false, .bool false, .bool false, .bool false, .bool false, .bool false, .bool false, .bool false, .bool false, .bool false, .bool false, .bool false, .bool false, .bool false, .bool false, .bool false, .bool false] 67) = w2 at *
  generalize w1.heap.size = gb at *
  have HO : Hid (Only fun _ => false) := Lib.hid (by intro j hj; simp at hj)
  go_cut [6] (fun _ wx => Hid (∃ h, Only h ∧ AtI w.heap.size w wx i (gp h) [blk gb (has18 h)]))
  case first =>
    go_wp2_with fail
    go_loopw [6] (fun n wr => ∃ (k : Nat) (h : Nat → Bool), k ≤ zs.length ∧ n = .int .i64 k ∧ Hid (Only h) ∧ Hid (AtI w.heap.size w wr i (gp h) [blk gb (has18 h)])) (fun n _ => zs.length - (intOf n).toNat)
    case atStart => exact ⟨0, _, by omega, rfl, HO, H1⟩
    case round =>
      clear HO H1
      obtain ⟨k, h, hk, rfl, HO, H1⟩ := hrel
      by_cases hlt : k < zs.length
      · have hkI : (k : Int) < (zs.length : Int) := by omega
        by_cases h40 : k < 40
        · have hk40 : (k : Int) < 40 := by omega
          obtain ⟨-, b, o, rfl, hbl, c0⟩ := (HZ.out.upd (Upd.of_below (M := []) H1.out.below) (by simp)).at k hlt
          have hz := emod_in zs[k] 16 (by omega)
          obtain ⟨m, hm1, hm2, hme⟩ : ∃ m : Nat, 1 ≤ m ∧ m ≤ 16 ∧ 1 + zs[k] % 16 = m := ⟨(1 + zs[k] % 16).toNat, by omega, by omega, by omega⟩
          obtain ⟨hz1, hz2⟩ := hz
          have HME := Lib.hid hme
          clear hme
          generalize zs[k] = z at *
          go_wp2_with fail
          refine (Within_any z 16 _ (by omega) (by omega)).mono ?_
          rintro e w' ⟨rfl, rfl⟩
          go_wp2_with fail
          rw [HME.out]
          have H2 : Hid (AtI w.heap.size w (wr.alloc (rqObj 0 m)) i (vk h m 0) [redR (sl1 wr.heap.size) 6 1 (rqsCells [rq 0 m]), blk gb (has18 h)]) := Lib.hid (by
            rw [vk_zero h m hm1 hm2]
            exact ai_red H1.out (bat_one (heap_alloc_new wr _)) ((Upd.refl _ _).alloc _) (fun k hk => by have := blkIf_sub hk; simp [blkOf] at this; omega))
          generalize wr.alloc (rqObj 0 m) = w3 at *
          generalize wr.heap.size = gx at *
          clear H1 c0 hbl
          go_loopw [9] (fun j wx => ∃ n : Nat, n ≤ 3 ∧ j = .int .i64 n ∧ Hid (AtI w.heap.size w wx i (vk h m n) [redR (sl1 gx) 6 1 (rqsCells [rq 0 m]), blk gb (has18 h)])) (fun j _ => 3 - (intOf j).toNat)
          case atStart => exact ⟨0, by omega, rfl, H2⟩
          case round =>
            clear H2
            obtain ⟨n, hn, rfl, H2⟩ := hrel
            by_cases hn3 : n < 3
            · have hnI : (n : Int) < 3 := by omega
              have HVV := Lib.hid (ai_vote H2.out 5 m n 1 (sl1 gx) [rq 0 m] (redR_out H2.out.ss_own.head) (by simp))
              go_wp2_with fail
              refine HVV.out.mono ?_
              rintro e w4 ⟨rfl, h4⟩
              rw [vk_vote h m n hm1 hm2 hn3] at h4
              have H4 := Lib.hid h4
              clear h4 HVV
              go_wp2_with fail
              go_roundw
              case rel => exact ⟨n + 1, by omega, by go_num, H4⟩
              case measure => simp [intOf]; omega
            · have hn3' : n = 3 := by omega
              subst hn3'
              clear hn hn3
              have HC := Lib.hid (ai_commits H2.out m)
              have HVC := Lib.hid (vk_comm h m hm1 hm2)
              have HVS := Lib.hid (vk_commits h m hm1 hm2)
              go_upto_region 15 with fail
              refine HC.out.mono ?_
              rintro e w5 ⟨c, rfl, hc, h5⟩
              rw [HVC.out] at hc
              rw [HVC.out]
              rw [HVS.out] at h5
              obtain ⟨ao2, cap2, co2, cav2, rfl, -, hb5, -⟩ := told_form hc (p := pcp h m) (by unfold pcp; cases h m <;> rfl)
              rw [pcp_some]
              have HP := Lib.hid (show pcp h m = if h m then noCp else gCp m from rfl)
              have H6 := Lib.hid (ai_box h5 (ctO (pcp h m).view (pcp h m).inst (pcp h m).seq (.slice ao2 (pcp h m).rs.length cap2) (.slice co2 (pcp h m).vs.length cav2)))
              have HB6 := Lib.hid (hb5.upd (M := []) ((Upd.refl _ _).alloc (ctO (pcp h m).view (pcp h m).inst (pcp h m).seq (.slice ao2 (pcp h m).rs.length cap2) (.slice co2 (pcp h m).vs.length cav2))) (by simp))
              clear h5 hc hb5 HC HVC HVS H2
              generalize pcp h m = p at *
              generalize hok : (!h m) = okb
              have HOK := Lib.hid hok
              clear hok
              go_upto_region 15 with fail
              generalize w5.alloc (ctO p.view p.inst p.seq (.slice ao2 p.rs.length cap2) (.slice co2 p.vs.length cav2)) = w6 at *
              generalize w5.heap.size = cb at *
              go_cut [77] (fun t wx => t = .bool false ∧ Hid (AtI w.heap.size w wx i (gp (addH h m)) [blk gb (has18 h)]))
              case first =>
                have hh := has18_cell (ai_drop (ai_drop H6.out)).ss_own.blk_out m (by omega)
                have hbx := ai_blk H6.out
                cases hm : h m
                · rw [hm] at HP hh HOK
                  obtain rfl : p = gCp m := HP.out
                  obtain rfl : true = okb := HOK.out
                  have c2 : w6.cell? ⟨cb, 2, none⟩ = some (.int .i64 m) := by rw [block_cell hbx]; rfl
                  have c3 : w6.cell? ⟨cb, 3, none⟩ = some (.slice ao2 1 cap2) := by rw [block_cell hbx]; rfl
                  have HSB := Lib.hid (redR_out (ai_drop H6.out).ss_own.head)
                  have hb6 : Bat w6 (.slice ao2 1 cap2) [rq 0 m] := HB6.out
                  have HB7 := Lib.hid hb6
                  clear hbx hm hb6 HB6 HP
                  have hmb : ((m : Int) != (m : Int)) = false := by simp
                  go_wp2_with fail
                  refine (sameR_any _ (sl1 gx) [rq 0 m] [rq 0 m] _ (by simp) (by simp) HB7.out HSB.out).mono ?_
                  rintro e w7 ⟨rfl, hu7⟩
                  rw [decide_eq_true rfl]
                  have H7 := Lib.hid ((ai_drop (ai_drop H6.out)).upd0 hu7)
                  clear hu7
                  go_wp2_with fail
                  go_meet
                  exact ⟨rfl, H7⟩
                · rw [hm] at HP hh HOK
                  obtain rfl : p = noCp := HP.out
                  obtain rfl : false = okb := HOK.out
                  have H7 := Lib.hid (ai_drop (ai_drop H6.out))
                  clear hbx hm HB6 HP
                  go_wp2_with fail
                  go_meet
                  exact ⟨rfl, H7⟩
              case rest =>
                obtain ⟨rfl, H7⟩ := hcut
                clear H6 HB6 HP
                have hcm := has18_cell H7.out.ss_own.blk_out m (by omega)
                have hfm := block_frozen H7.out.ss_own.blk_out m
                have HO2 := Lib.hid (only_add HO.out hm1 hm2)
                have h8 := ai_store H7.out m (.bool true)
                rw [has18_set] at h8
                have H8 := Lib.hid h8
                clear h8
                go_wp2_with fail
                generalize wc.setCell ⟨gb, m, none⟩ (.bool true) = w8 at *
                generalize addH h m = h2 at *
                clear hcm hfm H7
                go_loop [12] (fun n => ∃ q : Nat, q ≤ 16 ∧ n = .int .i64 q ∧ Hid (∀ j, 1 ≤ j → j ≤ q → h2 j = true)) (fun n => 17 - (intOf n).toNat)
                case atStart => exact ⟨0, by omega, rfl, Lib.hid (by intro j h1 h2; omega)⟩
                case round =>
                  obtain ⟨q, hq, rfl, HQ⟩ := hrel
                  have hcq := has18_cell H8.out.ss_own.blk_out (q + 1) (by omega)
                  cases hn : h2 (q + 1)
                  · rw [hn] at hcq
                    have HD := Lib.hid (gp_done h2 q hq HQ.out (fun _ => hn))
                    clear hn
                    go_wp2_with fail
                    refine (ai_done H8.out).mono ?_
                    rintro e w' ⟨rfl, rfl⟩
                    rw [HD.out]
                    have hqb : ((q : Int) != (q : Int)) = false := by simp
                    go_wp2_with fail
                    go_roundw
                    case rel => exact ⟨k + 1, h2, by omega, by go_num, HO2, H8⟩
                    case measure => simp [intOf]; omega
                  · rw [hn] at hcq
                    have hq2 := (HO2.out _ hn).2
                    have HN := Lib.hid hn
                    clear hn
                    go_wp2_with fail
                    go_round
                    case rel =>
                      refine ⟨q + 1, by omega, by go_num, Lib.hid (fun j h1 h2 => ?_)⟩
                      by_cases e : j = q + 1
                      · subst e; exact HN.out
                      · exact HQ.out j h1 (by omega)
                    case measure => simp [intOf]; omega
        · have hk40 : ¬ (k : Int) < 40 := by omega
          have hqb : decide ((k : Int) < 40) = false := by simp; omega
          go_wp2_with fail
          go_meet
          exact Lib.hid ⟨h, HO.out, H1.out⟩
      · have hkI : ¬ (k : Int) < (zs.length : Int) := by omega
        have hqb : decide ((k : Int) < (zs.length : Int)) = false := by simp; omega
        go_wp2_with fail
        go_meet
        exact Lib.hid ⟨h, HO.out, H1.out⟩
  case rest =>
    clear HO H1
    obtain ⟨h, -, h2⟩ := hcut.out
    have H2 := Lib.hid h2
    clear h2 hcut
    go_wp2_with fail
    refine (wakes15_any _).mono ?_
    rintro e w3 ⟨rfl, hb⟩
    have H3 := Lib.hid (ai_to H2.out hb)
    clear hb
    go_wp2_with fail
    go_ret
    exact ⟨rfl, H3.out.below⟩

end Go.Proofs.Ytdeadekeffficaa
