/- The walk of the law SlotQuorums. -/
import Derived.Test.YtdeadekeffficaaWs
import Derived.Test.YtdeadekeffficaaWakes
import Derived.Test.YtdeadekeffficaaActs
import Derived.Deep.RegionHeld3
import Derived.Deep.DeepCutAuto
import Derived.Deep.CutBlock
namespace Go.Proofs.Ytdeadekeffficaa
open Go.RowKit Go.Heap

/-- What a vote does is the same whatever is chosen; behind it that node has voted. -/
theorem vote_same (f : Nat) (ps cs : List Vt) (hp : ps.length = 3 * f + 1) (hc : cs.length = 3 * f + 1) (kd : Int) (hk : kd = 4 ∨ kd = 5) (m : Nat) (hm : m < 3 * f + 1) (sl : Int) (rs : List Rq) :
    ∃ ps' cs', ps'.length = 3 * f + 1 ∧ cs'.length = 3 * f + 1 ∧ (∀ h b, voteS ⟨h, b, ps, cs⟩ kd m sl rs = ⟨h, b, ps', cs'⟩) ∧ ∀ h b, votedB (listOf ⟨h, b, ps', cs'⟩ kd) m = true := by
  rcases hk with rfl | rfl
  · have hm' : m < ps.length := by omega
    cases ho : openB ps m
    · refine ⟨ps, cs, hp, hc, fun h b => ?_, fun h b => ?_⟩
      · unfold voteS; rw [show canVote ⟨h, b, ps, cs⟩ 4 m = false from ho]; rfl
      · show votedB ps m = true
        simp only [openB, votedB, Int.toNat_natCast, List.getElem?_eq_getElem hm'] at ho ⊢
        simpa using ho
    · refine ⟨ps.set m ⟨true, sl, rs⟩, cs, by simpa using hp, hc, fun h b => ?_, fun h b => ?_⟩
      · unfold voteS; rw [show canVote ⟨h, b, ps, cs⟩ 4 m = true from ho]; rfl
      · show votedB (ps.set m ⟨true, sl, rs⟩) m = true
        simp [votedB, List.getElem?_set_self hm']
  · have hm' : m < cs.length := by omega
    cases ho : openB cs m
    · refine ⟨ps, cs, hp, hc, fun h b => ?_, fun h b => ?_⟩
      · unfold voteS; rw [show canVote ⟨h, b, ps, cs⟩ 5 m = false from ho]; rfl
      · show votedB cs m = true
        simp only [openB, votedB, Int.toNat_natCast, List.getElem?_eq_getElem hm'] at ho ⊢
        simpa using ho
    · refine ⟨ps, cs.set m ⟨true, sl, rs⟩, hp, by simpa using hc, fun h b => ?_, fun h b => ?_⟩
      · unfold voteS; rw [show canVote ⟨h, b, ps, cs⟩ 5 m = true from ho]; rfl
      · show votedB (cs.set m ⟨true, sl, rs⟩) m = true
        simp [votedB, List.getElem?_set_self hm']

theorem picks_two {b c : List Rq} (hbc : b ≠ c) : ∀ (l : List Vt) (k : Nat), (picks b l k).length + (picks c l k).length ≤ l.length
  | [], _ => by simp [picks]
  | t :: l, k => by
    have ih := picks_two hbc l (k + 1)
    have hn : ¬ (goodB b t = true ∧ goodB c t = true) := by
      simp only [goodB, Bool.and_eq_true, decide_eq_true_eq]
      rintro ⟨⟨_, h1⟩, ⟨_, h2⟩⟩
      exact hbc (h1.symm.trans h2)
    unfold picks
    by_cases h1 : goodB b t = true <;> by_cases h2 : goodB c t = true
    · exact absurd ⟨h1, h2⟩ hn
    · rw [if_pos h1, if_neg h2]; simp only [List.length_cons]; omega
    · rw [if_neg h1, if_pos h2]; simp only [List.length_cons]; omega
    · rw [if_neg h1, if_neg h2]; simp only [List.length_cons]; omega

theorem not_both (f : Nat) (ps cs : List Vt) (hp : ps.length = 3 * f + 1) : ((preparedS f ⟨true, [rq 0 1], ps, cs⟩).isSome && (preparedS f ⟨true, [rq 0 2], ps, cs⟩).isSome) = false := by
  have h := picks_two (b := [rq 0 1]) (c := [rq 0 2]) (by decide) ps 0
  simp only [preparedS, if_true, enoughS]
  by_cases h1 : (picks [rq 0 1] ps 0).length < 2 * f + 1
  · rw [if_pos h1]; rfl
  · by_cases h2 : (picks [rq 0 2] ps 0).length < 2 * f + 1
    · rw [if_pos h2]; simp
    · omega

theorem Ws.small {B : Nat} {w0 W : World} {L : Loc} {st : Sl} {ss : List (Loc × Sl)} {ks : List (Nat × Obj)} {bs : List (Value × List Rq)} (h : Ws B w0 W ((L, st) :: ss) ks bs) : st.batch.length ≤ 100000 ∧ (∀ t ∈ st.ps, t.batch.length ≤ 100000) ∧ ∀ t ∈ st.cs, t.batch.length ≤ 100000 := by
  obtain ⟨D, q1, _, _⟩ := (h.on (L, st) (by simp)).2
  exact q1.small

theorem committedL_short {all : List Vt} {q n : Nat} : ∀ l : List Vt, (∀ t ∈ l, t.batch.length ≤ n) → (batchOf (committedL all q l)).length ≤ n
  | [], _ => by simp [committedL, batchOf]
  | t :: r, h => by
    have ih := committedL_short (all := all) (q := q) r (fun t ht => h t (List.mem_cons_of_mem _ ht))
    unfold committedL
    cases t.has
    · exact ih
    · cases enoughS all t.batch q with
      | none => exact ih
      | some vs => exact h t (by simp)

abbrev Qs (B : Nat) (w0 W : World) (La Lb : Loc) (gx gy : Nat) (ps cs : List Vt) : Prop := Ws B w0 W [(La, ⟨true, [rq 0 1], ps, cs⟩), (Lb, ⟨true, [rq 0 2], ps, cs⟩)] [] [(sl1 gy, [rq 0 2]), (sl1 gx, [rq 0 1])]

set_option maxHeartbeats 1000000 in
set_option maxRecDepth 100000 in
theorem quorums_any (a0 : Int) (v : Value) (xs : List Ac) {w : World} (hv : Acts w v xs) : Calls Try.prog 5 #[.int .i64 a0, v] w fun e w' => e = .returned (.bool true) ∧ Below w.heap.size w w' := by
  obtain ⟨ao, cap, rfl, hl1, hl2, -⟩ := hv.1
  have hmx : xs.length ≤ 9223372036854775807 := by unfold maxLen at hl2; omega
  clear hl1 hl2
  have HZ := Lib.hid hv
  clear hv
  obtain ⟨f, hf1, hf2, hfv⟩ := f_of a0
  have HV := Lib.hid hfv
  clear hfv
  go_enter Try.func5, Try.ntmps5
  go_wp2_with fail
  refine (Within_any a0 4 _ (by omega) (by omega)).mono ?_
  rintro e w' ⟨rfl, rfl⟩
  have hb := emod_in a0 4 (by omega)
  obtain ⟨hb1, hb2⟩ := hb
  go_wp2_with fail
  rw [HV.out]
  clear hb1 hb2
  refine (ws_new f hf1 hf2 (Ws.start (Below.refl w.heap.size w) (Nat.le_refl _))).mono ?_
  rintro e w1 ⟨La, rfl, hfa, h1⟩
  have HFA := Lib.hid hfa
  have H1 := Lib.hid h1
  clear hfa h1
  go_wp2_with fail
  refine (ws_new f hf1 hf2 H1.out).mono ?_
  rintro e w2 ⟨Lb, rfl, hfb, h2⟩
  have HFB := Lib.hid hfb
  have H3 := Lib.hid (((h2.swap).batch 0 1).batch 0 2)
  clear hfb h2 H1
  simp only [hs_alloc] at H3
  go_wp2_with fail
  generalize (w2.alloc (rqObj 0 1)).alloc (rqObj 0 2) = w3 at *
  generalize w2.heap.size + 1 = gy at *
  generalize w2.heap.size = gx at *
  refine (ws_pre H3.out (sl1 gx) [rq 0 1] (by simp) (by simp)).mono ?_
  rintro e w4 ⟨rfl, h4⟩
  have t1 : (!(emptySl f).has) = true := rfl
  rw [t1]
  have H4 := Lib.hid h4.swap
  clear h4 H3
  go_wp2_with fail
  refine (ws_pre H4.out (sl1 gy) [rq 0 2] (by simp) (by simp)).mono ?_
  rintro e w5 ⟨rfl, h5⟩
  rw [t1]
  have H5 := Lib.hid (show Qs w.heap.size w w5 La Lb gx gy (List.replicate (3 * f + 1) noVt) (List.replicate (3 * f + 1) noVt) from h5.swap)
  clear h5 H4 t1
  go_upto_block 0 with fail
  go_cut [11] (fun _ wx => ∃ ps cs : List Vt, Hid (ps.length = 3 * f + 1) ∧ Hid (Qs w.heap.size w wx La Lb gx gy ps cs))
  case first =>
    go_wp2_with fail
    go_loopw [11] (fun i wr => ∃ (k : Nat) (ps cs : List Vt), k ≤ 80 ∧ k ≤ xs.length ∧ i = .int .i64 k ∧ Hid (ps.length = 3 * f + 1) ∧ Hid (cs.length = 3 * f + 1) ∧ Hid (Qs w.heap.size w wr La Lb gx gy ps cs)) (fun i _ => 80 - (intOf i).toNat)
    case atStart => exact ⟨0, _, _, by omega, by omega, rfl, Lib.hid (by simp), Lib.hid (by simp), H5⟩
    case round =>
      clear H5
      obtain ⟨k, ps, cs, hk8, hkz, rfl, HP, HC, H6⟩ := hrel
      by_cases hlt : k < xs.length
      · by_cases hl8 : k < 80
        · have hz1 := HZ.out.below (Upd.of_below H6.out.below)
          obtain ⟨-, b, o, rfl, hbl, c0, c1, c2, c3, c4, c5, -⟩ := hz1.at k hlt
          have hkI : (k : Int) < (xs.length : Int) := by omega
          have hk80 : (k : Int) < 80 := by omega
          obtain ⟨hw1, hw2⟩ := tmod_in xs[k].which 2 (by omega)
          obtain ⟨m, hm, hme⟩ : ∃ m : Nat, m < 3 * f + 1 ∧ xs[k].node % (3 * (f : Int) + 1) = m := by
            obtain ⟨q1, q2⟩ := emod_in xs[k].node (3 * (f : Int) + 1) (by omega)
            exact ⟨(xs[k].node % (3 * (f : Int) + 1)).toNat, by omega, by omega⟩
          obtain ⟨kd, hkd, hke, hk1, hk2⟩ : ∃ kd : Int, (kd = 4 ∨ kd = 5) ∧ 4 + xs[k].kind % 2 = kd ∧ 4 ≤ kd ∧ kd ≤ 5 := ⟨4 + xs[k].kind % 2, by omega, rfl, by omega, by omega⟩
          have HME := Lib.hid hme
          have HKD := Lib.hid hkd
          have HKE := Lib.hid hke
          clear hz1 c0 c3 c5 hme hkd hke
          generalize xs[k].which = wh at *
          generalize xs[k].node = nd at *
          generalize xs[k].kind = kn at *
          have hcn : wr.drew.cell? ⟨b, o + k * 6 + 2, none⟩ = some (.int .i64 nd) := c2
          have c1' : wr.drew.cell? ⟨b, o + k * 6 + 1, none⟩ = some (.int .i64 kn) := c1
          by_cases hwz : wh.tmod 2 = 0
          · have hwb : (wh.tmod 2 != 0) = false := by simp [hwz]
            go_wp2_with fail
            go_region_held3 (fun w' => w'.cell? ⟨b, o + k * 6 + 2, none⟩ = some (.int .i64 nd)) (with_reducible exact hcn)
              (first
                | (go_at_call 21; refine (rnodes_any f _ (by omega) (by omega)).mono ?_; rintro e w' ⟨rfl, rfl⟩)
                | (go_at_call 17; refine (Within_any nd (3 * (f : Int) + 1) _ (by omega) (by omega)).mono ?_; rintro e w' ⟨rfl, rfl⟩))
            rw [HME.out]
            clear hcn
            go_wp2_with fail
            refine (Within_any kn 2 _ (by omega) (by omega)).mono ?_
            rintro e w' ⟨rfl, rfl⟩
            obtain ⟨q1, q2⟩ := emod_in kn 2 (by omega)
            go_wp2_with fail
            rw [HKE.out]
            clear q1 q2 c1 c1' c2 c4
            obtain ⟨ps', cs', lp, lc, hvs, hvd⟩ := vote_same f ps cs HP.out HC.out kd HKD.out m hm 1 [rq 0 1]
            have HP' := Lib.hid lp
            have HC' := Lib.hid lc
            have HVS := Lib.hid hvs
            have HVD := Lib.hid hvd
            clear lp lc hvs hvd
            refine (ws_vote H6.out.drew kd m 1 (sl1 gx) [rq 0 1] (by simp) (by simp)).mono ?_
            rintro e w6 ⟨rfl, h7⟩
            rw [HVS.out] at h7
            have H7 := Lib.hid h7.swap
            clear h7 H6
            rw [show canVote ⟨true, [rq 0 1], ps, cs⟩ kd m = canVote ⟨true, [rq 0 2], ps, cs⟩ kd m from rfl]
            go_wp2_with fail
            refine (ws_vote H7.out kd m 1 (sl1 gx) [rq 0 1] (by simp) (by simp)).mono ?_
            rintro e w7 ⟨rfl, h8⟩
            rw [HVS.out] at h8
            have H8 := Lib.hid (show Qs w.heap.size w w7 La Lb gx gy ps' cs' from h8.swap)
            clear h8 H7
            generalize canVote ⟨true, [rq 0 2], ps, cs⟩ kd m = cb
            have hcb : (cb != cb) = false := by simp
            go_wp2_with fail
            refine (ws_voted H8.out kd m).mono ?_
            rintro e w' ⟨rfl, rfl⟩
            rw [HVD.out]
            go_wp2_with fail
            go_roundw
            case rel => exact ⟨k + 1, ps', cs', by omega, by omega, by go_num, HP', HC', H8⟩
            case measure => simp [intOf]; omega
          · have hwb : (wh.tmod 2 != 0) = true := by simp [hwz]
            go_wp2_with fail
            go_region_held3 (fun w' => w'.cell? ⟨b, o + k * 6 + 2, none⟩ = some (.int .i64 nd)) (with_reducible exact hcn)
              (first
                | (go_at_call 21; refine (rnodes_any f _ (by omega) (by omega)).mono ?_; rintro e w' ⟨rfl, rfl⟩)
                | (go_at_call 17; refine (Within_any nd (3 * (f : Int) + 1) _ (by omega) (by omega)).mono ?_; rintro e w' ⟨rfl, rfl⟩))
            rw [HME.out]
            clear hcn
            go_wp2_with fail
            refine (Within_any kn 2 _ (by omega) (by omega)).mono ?_
            rintro e w' ⟨rfl, rfl⟩
            obtain ⟨q1, q2⟩ := emod_in kn 2 (by omega)
            go_wp2_with fail
            rw [HKE.out]
            clear q1 q2 c1 c1' c2 c4
            obtain ⟨ps', cs', lp, lc, hvs, hvd⟩ := vote_same f ps cs HP.out HC.out kd HKD.out m hm 1 [rq 0 2]
            have HP' := Lib.hid lp
            have HC' := Lib.hid lc
            have HVS := Lib.hid hvs
            have HVD := Lib.hid hvd
            clear lp lc hvs hvd
            refine (ws_vote H6.out.drew kd m 1 (sl1 gy) [rq 0 2] (by simp) (by simp)).mono ?_
            rintro e w6 ⟨rfl, h7⟩
            rw [HVS.out] at h7
            have H7 := Lib.hid h7.swap
            clear h7 H6
            rw [show canVote ⟨true, [rq 0 1], ps, cs⟩ kd m = canVote ⟨true, [rq 0 2], ps, cs⟩ kd m from rfl]
            go_wp2_with fail
            refine (ws_vote H7.out kd m 1 (sl1 gy) [rq 0 2] (by simp) (by simp)).mono ?_
            rintro e w7 ⟨rfl, h8⟩
            rw [HVS.out] at h8
            have H8 := Lib.hid (show Qs w.heap.size w w7 La Lb gx gy ps' cs' from h8.swap)
            clear h8 H7
            generalize canVote ⟨true, [rq 0 2], ps, cs⟩ kd m = cb
            have hcb : (cb != cb) = false := by simp
            go_wp2_with fail
            refine (ws_voted H8.out kd m).mono ?_
            rintro e w' ⟨rfl, rfl⟩
            rw [HVD.out]
            go_wp2_with fail
            go_roundw
            case rel => exact ⟨k + 1, ps', cs', by omega, by omega, by go_num, HP', HC', H8⟩
            case measure => simp [intOf]; omega
        · have hk80 : ¬ (k : Int) < 80 := by omega
          have hkI : (k : Int) < (xs.length : Int) := by omega
          have hqb : decide ((k : Int) < 80) = false := by simp; omega
          go_wp2_with fail
          go_meet
          exact ⟨ps, cs, HP, H6⟩
      · have hkI : ¬ (k : Int) < (xs.length : Int) := by omega
        have hqb : decide ((k : Int) < (xs.length : Int)) = false := by simp; omega
        go_wp2_with fail
        go_meet
        exact ⟨ps, cs, HP, H6⟩
  case rest =>
    obtain ⟨ps, cs, HP, H6⟩ := hcut
    clear H5
    have HNB := Lib.hid (not_both f ps cs HP.out)
    have HBL := Lib.hid (committedL_short (all := cs) (q := 2 * f + 1) cs H6.out.small.2.2)
    go_wp2_with fail
    refine (ws_prepared H6.out).mono ?_
    rintro e w6 ⟨u6, rfl, -, h7, -⟩
    have H7 := Lib.hid h7.swap
    rw [HFA.out]
    clear h7 H6
    go_wp2_with fail
    refine (ws_prepared H7.out).mono ?_
    rintro e w7 ⟨u7, rfl, -, h8, -⟩
    have H8 := Lib.hid h8.swap
    rw [HFB.out]
    clear h8 H7
    generalize (preparedS f ⟨true, [rq 0 1], ps, cs⟩).isSome = pa at *
    generalize (preparedS f ⟨true, [rq 0 2], ps, cs⟩).isSome = pb at *
    go_wp2_with fail
    refine (ws_committed H8.out).mono ?_
    rintro e w9 ⟨v9, u9, rfl, -, h9, hb9, -⟩
    have H9 := Lib.hid h9.swap
    have c1 : committedS f ⟨true, [rq 0 1], ps, cs⟩ = committedL cs (2 * f + 1) cs := rfl
    have c2 : committedS f ⟨true, [rq 0 2], ps, cs⟩ = committedL cs (2 * f + 1) cs := rfl
    rw [HFA.out, c1] at hb9 ⊢
    have B9 := Lib.hid hb9
    clear h9 H8 hb9
    go_wp2_with fail
    refine (ws_committed H9.out).mono ?_
    rintro e w10 ⟨v10, u10, rfl, hu10, h10, hb10, -⟩
    rw [HFB.out, c2] at hb10 ⊢
    have H10 := Lib.hid h10
    have B10 := Lib.hid hb10
    have B9a := Lib.hid (B9.out.upd hu10 (by simp))
    clear h10 H9 hb10 B9 hu10 c1 c2
    generalize committedL cs (2 * f + 1) cs = R at *
    have hbb : (R.isSome == R.isSome) = true := by simp
    generalize R.isSome = bb at *
    have hpq : (pa && pb) = false := HNB.out
    clear HNB
    cases pa
    · have hx := trivial
      clear hpq
      go_wp2_with fail
      refine (sameR_any v9 v10 (batchOf R) (batchOf R) _ HBL.out HBL.out B9a.out B10.out).mono ?_
      rintro e w11 ⟨rfl, hu11⟩
      rw [decide_eq_true (rfl : batchOf R = batchOf R)]
      have H11 := Lib.hid (H10.out.upd0 hu11)
      go_wp2_with fail
      refine (wakes_any _).mono ?_
      rintro e w12 ⟨rfl, hb12⟩
      have H12 := Lib.hid (H11.out.upd0 (Upd.of_below hb12))
      go_wp2_with fail
      go_ret
      exact ⟨rfl, H12.out.below⟩
    · have hpb : pb = false := by simpa using hpq
      subst hpb
      clear hpq
      go_wp2_with fail
      refine (sameR_any v9 v10 (batchOf R) (batchOf R) _ HBL.out HBL.out B9a.out B10.out).mono ?_
      rintro e w11 ⟨rfl, hu11⟩
      rw [decide_eq_true (rfl : batchOf R = batchOf R)]
      have H11 := Lib.hid (H10.out.upd0 hu11)
      go_wp2_with fail
      refine (wakes_any _).mono ?_
      rintro e w12 ⟨rfl, hb12⟩
      have H12 := Lib.hid (H11.out.upd0 (Upd.of_below hb12))
      go_wp2_with fail
      go_ret
      exact ⟨rfl, H12.out.below⟩
end Go.Proofs.Ytdeadekeffficaa
