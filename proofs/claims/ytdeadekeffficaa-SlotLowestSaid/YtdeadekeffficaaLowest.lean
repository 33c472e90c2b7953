/- The walk of the law SlotLowest. -/
import Derived.Test.YtdeadekeffficaaAlike
import Derived.Test.YtdeadekeffficaaArgs
import Derived.Deep.RegionHeld3
import Derived.Deep.DeepCutAuto
import Derived.Deep.CutBlock
namespace Go.Proofs.Ytdeadekeffficaa
open Go.RowKit Go.Heap

def lws (f : Nat) (kd : Int) (h : Nat → Bool) : Sl := ⟨true, [rq 0 3], if kd = 4 then lv f 100 [rq 0 3] h else List.replicate (3 * f + 1) noVt, if kd = 4 then List.replicate (3 * f + 1) noVt else lv f 100 [rq 0 3] h⟩
theorem lws_vote (f : Nat) (kd : Int) (hk : kd = 4 ∨ kd = 5) (h : Nat → Bool) (m : Nat) (hm : m < 3 * f + 1) : canVote (lws f kd h) kd m = !h m ∧ voteS (lws f kd h) kd m (100 + (m : Int)) [rq 0 3] = lws f kd (addB h m) := by
  rcases hk with rfl | rfl
  · exact vote4 f 100 [rq 0 3] h true [rq 0 3] _ m hm _ rfl
  · exact vote5 f 100 [rq 0 3] h true [rq 0 3] _ m hm _ rfl
theorem lws_prep (f : Nat) (h : Nat → Bool) : preparedS f (lws f 4 h) = enoughS (lv f 100 [rq 0 3] h) [rq 0 3] (2 * f + 1) := rfl
theorem lws_comm (f : Nat) (h : Nat → Bool) : committedS f (lws f 5 h) = (enoughS (lv f 100 [rq 0 3] h) [rq 0 3] (2 * f + 1)).map (Prod.mk [rq 0 3]) := one_comm f 100 [rq 0 3] h true [rq 0 3] _

def hasObj (h : Nat → Bool) : Obj := .cells ((List.range 13).map fun k => .bool (h k)).toArray 47 (0, 0)

theorem has_cell {W : World} {b : Nat} {h : Nat → Bool} (hb : W.heap[b]? = some (hasObj h)) (k : Nat) (hk : k < 13) : W.cell? ⟨b, k, none⟩ = some (.bool (h k)) := by
  rw [block_cell hb]; simp [hk]

theorem has_set (h : Nat → Bool) (m : Nat) : setIn m (.bool true) (hasObj h) = hasObj (addB h m) := by
  simp only [hasObj, setIn, Obj.cells.injEq, and_true]
  apply Array.ext_getElem?
  intro k
  rw [Array.getElem?_setIfInBounds]
  by_cases hk : k < 13
  · by_cases hkm : m = k
    · subst hkm; simp [hk, addB]
    · rw [if_neg hkm]; simp [hk, addB, show ¬ k = m from fun e => hkm e.symm]
  · by_cases hkm : m = k
    · subst hkm; simp [hk]
    · rw [if_neg hkm]; simp [hk]

theorem low_vote {B : Nat} {w0 W : World} {L : Loc} {f gb gx : Nat} {kd : Int} {h : Nat → Bool} (H : Ws B w0 W [(L, lws f kd h)] [(gb, hasObj h)] [(sl1 gx, [rq 0 3])]) (hk : kd = 4 ∨ kd = 5) {m : Nat} (hm : m < 3 * f + 1) (hm3 : m < 13) :
    Calls Try.prog 22 #[L.ptr, .int .i64 kd, .int .i64 m, .int .i64 (100 + (m : Int)), sl1 gx] W fun e w' => e = .returned (.bool (!h m)) ∧ w'.cell? ⟨gb, m, none⟩ = some (.bool (h m)) ∧ w'.frozen? ⟨gb, m, none⟩ = false ∧ Hid (Ws B w0 w' [(L, lws f kd (addB h m))] [(gb, hasObj h)] [(sl1 gx, [rq 0 3])]) := by
  obtain ⟨hc, hs⟩ := lws_vote f kd hk h m hm
  refine (ws_vote H kd m (100 + (m : Int)) (sl1 gx) [rq 0 3] (by simp) (by simp)).mono ?_
  rintro e w' ⟨he, h7⟩
  rw [hc] at he
  rw [hs] at h7
  exact ⟨he, has_cell (h7.keep (gb, hasObj h) (by simp)).1 m hm3, block_frozen (h7.keep (gb, hasObj h) (by simp)).1 m, h7⟩

set_option maxHeartbeats 600000 in
set_option maxRecDepth 100000 in
theorem lowest_any (a0 : Int) (v : Value) (zs : List Int) {w : World} (hv : Ints w v zs) (a2 : Int) : Calls Try.prog 4 #[.int .i64 a0, v, .int .i64 a2] w fun e w' => e = .returned (.bool true) ∧ Below w.heap.size w w' := by
  obtain ⟨ao, cap, rfl, -⟩ := id hv
  have HZ := Lib.hid hv
  clear hv
  obtain ⟨f, hf1, hf2, hfv⟩ := f_of a0
  have HV := Lib.hid hfv
  clear hfv
  go_enter Try.func4, Try.ntmps4
  go_wp2_with fail
  refine (Within_any a0 4 _ (by omega) (by omega)).mono ?_
  rintro e w' ⟨rfl, rfl⟩
  have hb := emod_in a0 4 (by omega)
  obtain ⟨hb1, hb2⟩ := hb
  go_wp2_with fail
  rw [HV.out]
  clear hb1 hb2
  refine (ws_new f hf1 hf2 (Ws.start (Below.refl w.heap.size w) (Nat.le_refl _))).mono ?_
  rintro e w1 ⟨L, rfl, hf, h1⟩
  have HF := Lib.hid hf
  have H1 := Lib.hid (h1.batch 0 3)
  clear hf h1
  go_wp2_with fail
  generalize w1.alloc (rqObj 0 3) = w2 at *
  generalize w1.heap.size = gx at *
  refine (ws_pre H1.out (sl1 gx) [rq 0 3] (by simp) (by simp)).mono ?_
  rintro e w3 ⟨rfl, h2⟩
  have t1 : (!(emptySl f).has) = true := rfl
  rw [t1]
  clear t1
  go_wp2_with fail
  refine (Within_any a2 2 _ (by omega) (by omega)).mono ?_
  rintro e w' ⟨rfl, rfl⟩
  obtain ⟨kd, hkd, hke, hk1, hk2⟩ : ∃ kd : Int, (kd = 4 ∨ kd = 5) ∧ 4 + a2 % 2 = kd ∧ 4 ≤ kd ∧ kd ≤ 5 := ⟨4 + a2 % 2, by omega, rfl, by omega, by omega⟩
  have hbb : 0 ≤ a2 % 2 ∧ a2 % 2 < 2 := by omega
  obtain ⟨hb1, hb2⟩ := hbb
  have HKD := Lib.hid hkd
  have HKE := Lib.hid hke
  clear hkd hke
  go_wp2_with fail
  rw [HKE.out]
  clear hb1 hb2
  refine (rnodes_any f _ (by omega) (by omega)).mono ?_
  rintro e w' ⟨rfl, rfl⟩
  have hst : ({ emptySl f with has := true, batch := [rq 0 3] } : Sl) = lws f kd (fun _ => false) := by
    unfold lws emptySl
    simp only [lv_none, ite_self]
  have h2' : Ws w.heap.size w w3 [(L, lws f kd (fun _ => false))] [] [(sl1 gx, [rq 0 3])] := by rw [← hst]; exact h2
  have h3 : Ws w.heap.size w (w3.alloc (.cells #[.bool false, .bool false, .bool false, .bool false, .bool false, .bool false, .bool false, .bool false, .bool false, .bool false, .bool false, .bool false, .bool false] 47)) _ [(w3.heap.size, hasObj fun _ => false)] _ := h2'.box (hasObj fun _ => false)
  have hgx : gx < w3.heap.size := ((h2'.bat (sl1 gx, [rq 0 3]) (by simp)).2 gx (by simp [blkOf])).2
  have hgB : w.heap.size ≤ w3.heap.size := h2'.size
  have H3 := Lib.hid h3
  clear h2 h2' h3 hst H1
  go_upto_block 0 with fail
  generalize w3.alloc (.cells #[.bool false, .bool false, .bool false, .bool false, .bool false, .bool false, .bool false, .bool false, .bool false, .bool false, .bool false, .bool false, .bool false] 47) = w4 at *
  generalize w3.heap.size = gb at *
  have NE := Lib.hid (show gb ≠ gx by omega)
  clear hgx
  go_cut [12] (fun _ wx => ∃ h : Nat → Bool, Hid (Ws w.heap.size w wx [(L, lws f kd h)] [(gb, hasObj h)] [(sl1 gx, [rq 0 3])]))
  case first =>
    go_wp2_with fail
    go_loopw [12] (fun i wr => ∃ (k : Nat) (h : Nat → Bool), k ≤ 60 ∧ k ≤ zs.length ∧ i = .int .i64 k ∧ Hid (Ws w.heap.size w wr [(L, lws f kd h)] [(gb, hasObj h)] [(sl1 gx, [rq 0 3])])) (fun i _ => 60 - (intOf i).toNat)
    case atStart => exact ⟨0, _, by omega, by omega, rfl, H3⟩
    case round =>
      clear H3
      obtain ⟨k, h, hk6, hkz, rfl, H5⟩ := hrel
      have H0 := HZ.out
      have hmx : zs.length ≤ maxLen := by obtain ⟨_, _, e, l1, l2, _⟩ := H0; simp only [Value.slice.injEq] at e; omega
      unfold maxLen at hmx
      by_cases hlt : k < zs.length
      · by_cases hl6 : k < 60
        · have hz1 := HZ.out.upd (M := []) (Upd.of_below H5.out.below) (by simp)
          obtain ⟨-, b, o, rfl, hbl, hcell⟩ := hz1.at k hlt
          have hkI : (k : Int) < (zs.length : Int) := by omega
          have hk60 : (k : Int) < 60 := by omega
          clear hz1 H0
          go_wp2_with fail
          refine (Within_any zs[k] (3 * (f : Int) + 1) _ (by omega) (by omega)).mono ?_
          rintro e w' ⟨rfl, rfl⟩
          obtain ⟨hb1, hb2⟩ := emod_in zs[k] (3 * (f : Int) + 1) (by omega)
          obtain ⟨m, hm, hme⟩ : ∃ m : Nat, m < 3 * f + 1 ∧ zs[k] % (3 * (f : Int) + 1) = m := ⟨(zs[k] % (3 * (f : Int) + 1)).toNat, by omega, by omega⟩
          rw [hme]
          clear hb1 hb2 hme hcell
          have hm13 : (m : Int) < 13 := by omega
          have hm0 : (0 : Int) ≤ (m : Int) := by omega
          have hcm : wr.drew.cell? ⟨gb, m, none⟩ = some (.bool (h m)) := has_cell (H5.out.keep (gb, hasObj h) (by simp)).1 m (by omega)
          have hfm : wr.drew.frozen? ⟨gb, m, none⟩ = false := block_frozen (H5.out.keep (gb, hasObj h) (by simp)).1 m
          have hsum : IntKind.i64.wrap (100 + (m : Int)) = 100 + (m : Int) := IntWalk.i64_in _ (by omega)
          go_wp2_with fail
          have hne : ((!h m) == h m) = false := by cases h m <;> rfl
          go_region_held3 (fun w' => w'.cell? ⟨gb, m, none⟩ = some (.bool (h m)) ∧ w'.frozen? ⟨gb, m, none⟩ = false)
            (first
              | (with_reducible exact ⟨hcm, hfm⟩)
              | (with_reducible exact ⟨hcm7, hfm7⟩))
            ((go_at_call 22; refine (low_vote H5.out.drew HKD.out hm (by omega)).mono ?_; rintro e w7 ⟨rfl, hcm7, hfm7, H7⟩))
          go_wp2_with fail
          have H8 := H7.out.store hgB (by simp) (by intro p hp; simp at hp; subst hp; simp [blkOf]; exact NE.out) m (.bool true)
          rw [has_set] at H8
          have H9 := Lib.hid H8
          clear H8 H7 H5
          go_roundw
          case rel => exact ⟨k + 1, addB h m, by omega, by omega, by go_num, H9⟩
          case measure => simp [intOf]; omega
        · have hk60 : ¬ (k : Int) < 60 := by omega
          have hkI : (k : Int) < (zs.length : Int) := by omega
          have hqb : decide ((k : Int) < 60) = false := by simp; omega
          go_wp2_with fail
          go_meet
          exact ⟨h, H5⟩
      · have hkI : ¬ (k : Int) < (zs.length : Int) := by omega
        have hqb : decide ((k : Int) < (zs.length : Int)) = false := by simp; omega
        go_wp2_with fail
        go_meet
        exact ⟨h, H5⟩
  case rest =>
    obtain ⟨h, H5⟩ := hcut
    clear H3
    have HL := Lib.hid (fun k hk => lv_picked f 100 [rq 0 3] h (2 * f + 1) k hk)
    have HA := Lib.hid (fun k hk hq => lv_all f 100 [rq 0 3] h (2 * f + 1) k hk hq)
    have HLE := Lib.hid (fun k => picked_le [rq 0 3] (lv f 100 [rq 0 3] h) (2 * f + 1) k)
    have HP0 := Lib.hid (picked_zero [rq 0 3] (lv f 100 [rq 0 3] h) (2 * f + 1))
    have HPR := Lib.hid (lws_prep f h)
    have HCM := Lib.hid (lws_comm f h)
    have HEN := Lib.hid (lv_enough f 100 [rq 0 3] h (2 * f + 1))
    generalize hP : picked [rq 0 3] (lv f 100 [rq 0 3] h) (2 * f + 1) = P at *
    clear hP
    obtain ⟨i0, hi, hz0, hz1, hz2⟩ := info_parts Try.infoVote
    go_upto_block 2 with fail
    go_cut [14] (fun out wx => ∃ (ao2 : Option Addr) (cp : Nat), out = .slice ao2 (P (3 * f + 1)).length cp ∧ Hid (Ws w.heap.size w wx [(L, lws f kd h)] [(gb, hasObj h)] [(sl1 gx, [rq 0 3])]) ∧
        Hid (wx.ownsRow w.heap.size 44 2 (.slice ao2 (P (3 * f + 1)).length cp) (P (3 * f + 1)).length (vsCells (P (3 * f + 1)))))
    case first =>
      go_wp2_with fail
      go_loopw [15, 14] (fun i out wr => ∃ (j : Nat) (ao2 : Option Addr) (cp : Nat), j ≤ 3 * f + 1 ∧ i = .int .i64 j ∧ out = .slice ao2 (P j).length cp ∧ Hid (Scr w.heap.size w wr [(L, lws f kd h)] [(gb, hasObj h)] [(sl1 gx, [rq 0 3])] (Value.slice ao2 (P j).length cp).ownBlock) ∧
          Hid (wr.ownsRow w.heap.size 44 2 (.slice ao2 (P j).length cp) (P j).length (vsCells (P j)))) (fun i _ _ => 3 * f + 1 - (intOf i).toNat)
      case atStart =>
        refine ⟨0, none, 0, by omega, rfl, ?_, (show Scr _ _ _ _ _ _ none from H5.out), ?_⟩
        · rw [HP0.out]; rfl
        · rw [HP0.out]; exact World.ownsRow_nil _ _ _ _
      case round =>
        clear H5
        obtain ⟨j, ao2, cp, hj, rfl, rfl, H6, HO⟩ := hrel
        by_cases hlt : j < 3 * f + 1
        · have hjI : (j : Int) < 3 * (f : Int) + 1 := by omega
          have hsucc := Lib.hid (HL.out j hlt)
          have hfull := Lib.hid (HA.out j hj)
          have hle := HLE.out j
          generalize P j = A at *
          go_wp2_with fail
          refine (rquorum_any f _ (by omega) (by omega)).mono ?_
          rintro e w' ⟨rfl, rfl⟩
          by_cases hlen : A.length < 2 * f + 1
          · have hq : (A.length : Int) < 2 * (f : Int) + 1 := by omega
            have hjm : (j : Int) < 13 := by omega
            have hj0 : (0 : Int) ≤ (j : Int) := by omega
            have hcm : wr.cell? ⟨gb, j, none⟩ = some (.bool (h j)) := has_cell (H6.out.ws.keep (gb, hasObj h) (by simp)).1 j (by omega)
            have hfm : wr.frozen? ⟨gb, j, none⟩ = false := block_frozen (H6.out.ws.keep (gb, hasObj h) (by simp)).1 j
            by_cases hh : h j = true
            · rw [hh] at hcm hsucc
              have HH := Lib.hid hh
              clear hh
              have ho3 := HO.out.alloc (.cells #[.int .i64 j, .int .i64 (100 + (j : Int))] 44)
              have HO3 := Lib.hid ho3
              have hzz := H6.out.ws.size
              clear ho3
              go_wp2_with (at_builtin; refine wpList_append_lies _ rfl (.tmp 86) (.tmp 91) 37 rfl w.heap.size 44 i0 (.agg #[.int .i64 0, .int .i64 0]) 2 16 Try.underlying37 hi hz0 hz1 hz2 rfl (by decide) _ A.length (vsCells A) rfl HO3.out ⟨wr.heap.size, 0, none⟩ 1 1 [.int .i64 j, .int .i64 (100 + (j : Int))] rfl rfl ?c1 ?c2 (by decide) ?c3 ?c4 ?c5 (wr.heap.size + 1) (by simp) ?c6)
              case c1 => intro j u hj; match j, hj with | 0, hj => simp at hj; subst hj; simp [Addr.add] | 1, hj => simp at hj; subst hj; simp [Addr.add]
              case c2 => intro u hu; simp at hu; rcases hu with rfl | rfl <;> rfl
              case c3 => unfold maxLen; omega
              case c4 => omega
              case c5 => simp; omega
              case c6 =>
                intro g cap2 w3 hown3 hgrow hat hlt3
                have hsucc' : P (j + 1) = A ++ [((j : Int), 100 + (j : Int))] := by rw [hsucc.out, Bool.true_and, if_pos (decide_eq_true hlen)]
                have HSU := Lib.hid hsucc'
                clear hsucc'
                have H3 := Lib.hid hown3
                have H7 := Lib.hid ((H6.out.alloc (.cells #[.int .i64 j, .int .i64 (100 + (j : Int))] 44)).grown hgrow (by simpa using hat) hlt3)
                clear hown3 hgrow hat H6 HO HO3
                go_wp2_with fail
                go_roundw
                case rel =>
                  refine ⟨j + 1, some ⟨g, 0, none⟩, cap2, by omega, by go_num, ?_, H7, ?_⟩
                  · rw [HSU.out]; simp
                  · rw [HSU.out, vsCells_app, List.length_append]; exact H3
                case measure => simp [intOf]; omega
            · have hh' : h j = false := by simpa using hh
              rw [hh'] at hcm hsucc
              have hsucc' : P (j + 1) = A := by rw [hsucc.out]; rfl
              have HSU := Lib.hid hsucc'
              clear hsucc' hh hh'
              go_wp2_with fail
              go_roundw
              case rel =>
                refine ⟨j + 1, ao2, cp, by omega, by go_num, ?_, ?_, ?_⟩
                · rw [HSU.out]
                · rw [HSU.out]; exact H6
                · rw [HSU.out]; exact HO
              case measure => simp [intOf]; omega
          · have hq : ¬ (A.length : Int) < 2 * (f : Int) + 1 := by omega
            have hqb : decide ((A.length : Int) < 2 * (f : Int) + 1) = false := by simp; omega
            go_wp2_with fail
            go_meet
            refine ⟨ao2, cp, ?_, H6.out.ws, ?_⟩
            · rw [hfull.out hlen]
            · rw [hfull.out hlen]; exact HO
        · have hj3 : j = 3 * f + 1 := by omega
          subst hj3
          have hjI : ¬ (((3 * f + 1 : Nat)) : Int) < 3 * (f : Int) + 1 := by omega
          have hqb : decide ((((3 * f + 1 : Nat)) : Int) < 3 * (f : Int) + 1) = false := by simp
          go_wp2_with fail
          go_meet
          exact ⟨ao2, cp, rfl, H6.out.ws, HO⟩
    case rest =>
      obtain ⟨ao2, cp, rfl, H6, HO⟩ := hcut
      clear H5
      have hle := HLE.out (3 * f + 1)
      go_wp2_with fail
      refine (rquorum_any f _ (by omega) (by omega)).mono ?_
      rintro e w' ⟨rfl, rfl⟩
      have HLN := Lib.hid (show (P (3 * f + 1)).length ≤ 100000 by omega)
      by_cases hlen : (P (3 * f + 1)).length < 2 * f + 1
      · have HR := Lib.hid (show enoughS (lv f 100 [rq 0 3] h) [rq 0 3] (2 * f + 1) = none from by rw [HEN.out, if_pos hlen])
        have hq : ((P (3 * f + 1)).length : Int) < 2 * (f : Int) + 1 := by omega
        go_wp2_with fail
        rcases HKD.out with rfl | rfl
        · have HV4 := Lib.hid (show Vts wc (.slice none 0 0) [] from Reads.nil _ _)
          refine (ws_prepared H6.out).mono ?_
          rintro e w6 ⟨u, rfl, hu6, h7, hb7⟩
          have H7 := Lib.hid h7
          have HV5 := Lib.hid (HV4.out.upd hu6 (by simp))
          clear h7 HV4
          rw [HF.out] at hb7 ⊢
          rw [HPR.out, HR.out] at hb7 ⊢
          have HB := Lib.hid hb7
          clear hb7 hu6
          go_wp2_with fail
          refine (sameV_any u (.slice none 0 0) [] [] _ (by simp) (by simp) HB.out HV5.out).mono ?_
          rintro e w7 ⟨rfl, hu7⟩
          have H8 := Lib.hid (H7.out.upd0 hu7)
          rw [decide_eq_true (rfl : ([] : Vs) = ([] : Vs))]
          go_wp2_with fail
          refine (wakes_any _).mono ?_
          rintro e w9 ⟨rfl, hb9⟩
          have H9 := Lib.hid (H8.out.upd0 (Upd.of_below hb9))
          go_wp2_with fail
          go_ret
          exact ⟨rfl, H9.out.below⟩
        · have HV4 := Lib.hid (show Vts wc (.slice none 0 0) [] from Reads.nil _ _)
          refine (ws_prepared H6.out).mono ?_
          rintro e w6 ⟨u, rfl, hu6, h7, hb7⟩
          have H7 := Lib.hid h7
          have HV5 := Lib.hid (HV4.out.upd hu6 (by simp))
          clear h7 HV4
          rw [HF.out] at hb7 ⊢
          generalize (preparedS f (lws f 5 h)).isSome = bb at *
          clear hb7 hu6
          go_wp2_with fail
          refine (ws_committed H7.out).mono ?_
          rintro e w7 ⟨v3, u3, rfl, hu8, h8, hb8, hv8⟩
          have H8a := Lib.hid h8
          have HV6 := Lib.hid (HV5.out.upd hu8 (by simp))
          rw [HF.out, HCM.out, HR.out] at hv8 ⊢
          have HB := Lib.hid (show Vts w7 u3 [] from hv8)
          clear h8 hb8 hv8 HV5 hu8
          go_wp2_with fail
          refine (sameV_any u3 (.slice none 0 0) [] [] _ (by simp) (by simp) HB.out HV6.out).mono ?_
          rintro e w8 ⟨rfl, hu9⟩
          have H8 := Lib.hid (H8a.out.upd0 hu9)
          rw [decide_eq_true (rfl : ([] : Vs) = ([] : Vs))]
          go_wp2_with fail
          refine (wakes_any _).mono ?_
          rintro e w9 ⟨rfl, hb9⟩
          have H9 := Lib.hid (H8.out.upd0 (Upd.of_below hb9))
          go_wp2_with fail
          go_ret
          exact ⟨rfl, H9.out.below⟩
      · have HR := Lib.hid (show enoughS (lv f 100 [rq 0 3] h) [rq 0 3] (2 * f + 1) = some (P (3 * f + 1)) from by rw [HEN.out, if_neg hlen])
        have hq : ¬ ((P (3 * f + 1)).length : Int) < 2 * (f : Int) + 1 := by omega
        have hqb : decide (((P (3 * f + 1)).length : Int) < 2 * (f : Int) + 1) = false := by simp; omega
        have hgt : (0 : Int) < ((P (3 * f + 1)).length : Int) := by omega
        have hgp : P (3 * f + 1) ≠ [] := by intro e; rw [e] at hgt; simp at hgt
        go_wp2_with fail
        rcases HKD.out with rfl | rfl
        · have HV4 := Lib.hid (show Vts wc (.slice ao2 (P (3 * f + 1)).length cp) (P (3 * f + 1)) from (vts_of_own rfl HO.out).1)
          refine (ws_prepared H6.out).mono ?_
          rintro e w6 ⟨u, rfl, hu6, h7, hb7⟩
          have H7 := Lib.hid h7
          have HV5 := Lib.hid (HV4.out.upd hu6 (by simp))
          clear h7 HV4
          rw [HF.out] at hb7 ⊢
          rw [HPR.out, HR.out] at hb7 ⊢
          have HB := Lib.hid hb7
          clear hb7 hu6
          go_wp2_with fail
          refine (sameV_any u (.slice ao2 (P (3 * f + 1)).length cp) (P (3 * f + 1)) (P (3 * f + 1)) _ (by exact HLN.out) (by exact HLN.out) HB.out HV5.out).mono ?_
          rintro e w7 ⟨rfl, hu7⟩
          have H8 := Lib.hid (H7.out.upd0 hu7)
          rw [decide_eq_true (rfl : (P (3 * f + 1)) = (P (3 * f + 1)))]
          go_wp2_with fail
          refine (wakes_any _).mono ?_
          rintro e w9 ⟨rfl, hb9⟩
          have H9 := Lib.hid (H8.out.upd0 (Upd.of_below hb9))
          go_wp2_with fail
          go_ret
          exact ⟨rfl, H9.out.below⟩
        · have HV4 := Lib.hid (show Vts wc (.slice ao2 (P (3 * f + 1)).length cp) (P (3 * f + 1)) from (vts_of_own rfl HO.out).1)
          refine (ws_prepared H6.out).mono ?_
          rintro e w6 ⟨u, rfl, hu6, h7, hb7⟩
          have H7 := Lib.hid h7
          have HV5 := Lib.hid (HV4.out.upd hu6 (by simp))
          clear h7 HV4
          rw [HF.out] at hb7 ⊢
          generalize (preparedS f (lws f 5 h)).isSome = bb at *
          clear hb7 hu6
          go_wp2_with fail
          refine (ws_committed H7.out).mono ?_
          rintro e w7 ⟨v3, u3, rfl, hu8, h8, hb8, hv8⟩
          have H8a := Lib.hid h8
          have HV6 := Lib.hid (HV5.out.upd hu8 (by simp))
          rw [HF.out, HCM.out, HR.out] at hv8 ⊢
          have HB := Lib.hid (show Vts w7 u3 (P (3 * f + 1)) from hv8)
          clear h8 hb8 hv8 HV5 hu8
          go_wp2_with fail
          refine (sameV_any u3 (.slice ao2 (P (3 * f + 1)).length cp) (P (3 * f + 1)) (P (3 * f + 1)) _ (by exact HLN.out) (by exact HLN.out) HB.out HV6.out).mono ?_
          rintro e w8 ⟨rfl, hu9⟩
          have H8 := Lib.hid (H8a.out.upd0 hu9)
          rw [decide_eq_true (rfl : (P (3 * f + 1)) = (P (3 * f + 1)))]
          go_wp2_with fail
          refine (wakes_any _).mono ?_
          rintro e w9 ⟨rfl, hb9⟩
          have H9 := Lib.hid (H8.out.upd0 (Upd.of_below hb9))
          go_wp2_with fail
          go_ret
          exact ⟨rfl, H9.out.below⟩

end Go.Proofs.Ytdeadekeffficaa
