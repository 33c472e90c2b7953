/- The walk of the law SlotOrders. -/
import Derived.Test.YtdeadekeffficaaAlike
import Derived.Test.YtdeadekeffficaaArgs
import Derived.Deep.DeepCutAuto
import Derived.Deep.CutBlock
namespace Go.Proofs.Ytdeadekeffficaa
open Go.RowKit Go.Heap

def setB (g : Nat → Nat) (k : Nat) : Nat → Bool := fun j => (List.range k).any fun i => decide (g i = j)
theorem setB_succ (g : Nat → Nat) (k : Nat) : addB (setB g k) (g k) = setB g (k + 1) := by
  funext j
  simp [addB, setB, List.range_succ, eq_comm]
theorem setB_rot (g : Nat → Nat) (n t : Nat) (ht : t < n) : setB (fun i => g ((i + t) % n)) n = setB g n := by
  funext j
  rw [Bool.eq_iff_iff]
  simp only [setB, List.any_eq_true, List.mem_range, decide_eq_true_eq]
  constructor
  · rintro ⟨i, hi, h⟩
    exact ⟨(i + t) % n, Nat.mod_lt _ (by omega), h⟩
  · rintro ⟨m, hm, h⟩
    by_cases hmt : t ≤ m
    · exact ⟨m - t, by omega, by rw [show m - t + t = m by omega, Nat.mod_eq_of_lt hm]; exact h⟩
    · exact ⟨m + n - t, by omega, by rw [show m + n - t + t = m + n by omega, Nat.add_mod_right, Nat.mod_eq_of_lt hm]; exact h⟩

theorem picked_len (f : Nat) (c : Int) (b : List Rq) (h : Nat → Bool) (q : Nat) : ∀ k, k ≤ 3 * f + 1 → (picked b (lv f c b h) q k).length = (picked b (lv f 0 b h) q k).length
  | 0, _ => by simp [picked_zero]
  | k + 1, hk => by
    rw [lv_picked f c b h q k (by omega), lv_picked f 0 b h q k (by omega), picked_len f c b h q k (by omega)]
    split <;> simp [picked_len f c b h q k (by omega)]

theorem enough_len (f : Nat) (c : Int) (b : List Rq) (h : Nat → Bool) (q : Nat) : (enoughS (lv f c b h) b q).isSome = (enoughS (lv f 0 b h) b q).isSome := by
  rw [lv_enough, lv_enough, picked_len f c b h q _ (Nat.le_refl _)]
  split <;> rfl

def os (f : Nat) (hs : Bool) (bt : List Rq) (h : Nat → Bool) : Sl := ⟨hs, bt, lv f 0 [rq 1 2] h, lv f 50 [rq 1 2] h⟩

theorem os_votes (f : Nat) (hs : Bool) (bt : List Rq) (h : Nat → Bool) (m : Nat) (hm : m < 3 * f + 1) :
    voteS (voteS (os f hs bt h) 4 m m [rq 1 2]) 5 m (50 + (m : Int)) [rq 1 2] = os f hs bt (addB h m) ∧ voteS (voteS (os f hs bt h) 5 m (50 + (m : Int)) [rq 1 2]) 4 m m [rq 1 2] = os f hs bt (addB h m) := by
  constructor
  · rw [os, (vote4 f 0 [rq 1 2] h hs bt _ m hm m (by simp)).2, (vote5 f 50 [rq 1 2] h hs bt _ m hm _ rfl).2]; rfl
  · rw [os, (vote5 f 50 [rq 1 2] h hs bt _ m hm _ rfl).2, (vote4 f 0 [rq 1 2] h hs bt _ m hm m (by simp)).2]; rfl

theorem os_empty (f : Nat) : emptySl f = os f false [] (fun _ => false) := by
  unfold os emptySl
  simp only [lv_none]

/-- What a slot of such votes answers: the same votes, the same seals, Prepares and Commits alike. -/
theorem os_ends (f : Nat) (hf : f ≤ 4) (h : Nat → Bool) : ∃ (A B : Vs) (X : List Rq) (bb : Bool), A.length ≤ 100000 ∧ B.length ≤ 100000 ∧ X.length ≤ 100000 ∧
    (preparedS f (os f true [rq 1 2] h)).isSome = bb ∧ (preparedS f (os f true [rq 1 2] h)).getD [] = A ∧ (committedS f (os f true [rq 1 2] h)).isSome = bb ∧
    batchOf (committedS f (os f true [rq 1 2] h)) = X ∧ votesOf (committedS f (os f true [rq 1 2] h)) = B := by
  have h1 : preparedS f (os f true [rq 1 2] h) = enoughS (lv f 0 [rq 1 2] h) [rq 1 2] (2 * f + 1) := rfl
  have h2 : committedS f (os f true [rq 1 2] h) = (enoughS (lv f 50 [rq 1 2] h) [rq 1 2] (2 * f + 1)).map (Prod.mk [rq 1 2]) := one_comm f 50 [rq 1 2] h true [rq 1 2] _
  refine ⟨_, _, _, _, ?_, ?_, ?_, rfl, rfl, ?_, rfl, rfl⟩
  · rw [h1, lv_enough]
    split
    · simp
    · have := picked_le [rq 1 2] (lv f 0 [rq 1 2] h) (2 * f + 1) (3 * f + 1)
      simp only [Option.getD_some]; omega
  · rw [h2, lv_enough]
    split
    · simp [votesOf]
    · have := picked_le [rq 1 2] (lv f 50 [rq 1 2] h) (2 * f + 1) (3 * f + 1)
      simp only [Option.map_some, votesOf]; omega
  · rw [h2]; cases enoughS (lv f 50 [rq 1 2] h) [rq 1 2] (2 * f + 1) <;> simp [batchOf]
  · rw [h1, h2, ← enough_len f 50]; simp

set_option maxHeartbeats 1000000 in
set_option maxRecDepth 100000 in
theorem orders_any (a0 : Int) (v : Value) (zs : List Int) {w : World} (hv : Ints w v zs) (a2 : Int) : Calls Try.prog 3 #[.int .i64 a0, v, .int .i64 a2] w fun e w' => e = .returned (.bool true) ∧ Below w.heap.size w w' := by
  obtain ⟨ao, cap, rfl, hl1, hl2, -⟩ := id hv
  have hmx : zs.length ≤ 9223372036854775807 := by unfold maxLen at hl2; omega
  clear hl1 hl2
  have HZ := Lib.hid hv
  clear hv
  obtain ⟨f, hf1, hf2, hfv⟩ := f_of a0
  have HV := Lib.hid hfv
  clear hfv
  go_enter Try.func3, Try.ntmps3
  go_wp2_with fail
  refine (Within_any a0 4 _ (by omega) (by omega)).mono ?_
  rintro e w' ⟨rfl, rfl⟩
  have hb := emod_in a0 4 (by omega)
  obtain ⟨hb1, hb2⟩ := hb
  go_wp2_with fail
  rw [HV.out]
  clear hb1 hb2
  refine (ws_new f hf1 hf2 (Ws.start (Below.refl w.heap.size w) (Nat.le_refl _))).mono ?_
  rintro e w1 ⟨La, rfl, hfa, h1⟩
  have HFA := Lib.hid hfa
  have H1 := Lib.hid h1
  clear hfa h1
  go_wp2_with fail
  refine (ws_new f hf1 hf2 H1.out).mono ?_
  rintro e w2 ⟨Lb, rfl, hfb, h2⟩
  have HFB := Lib.hid hfb
  have H2 := Lib.hid h2
  clear hfb h2 H1
  by_cases hbig : 40 < zs.length
  · have hbI : (40 : Int) < (zs.length : Int) := by omega
    go_wp2_with fail
    refine (wakes_any _).mono ?_
    rintro e w9 ⟨rfl, hb9⟩
    have H9 := Lib.hid (H2.out.upd0 (Upd.of_below hb9))
    go_wp2_with fail
    go_ret
    exact ⟨rfl, H9.out.below⟩
  have hbI : ¬ (40 : Int) < (zs.length : Int) := by omega
  have hbB : decide ((40 : Int) < (zs.length : Int)) = false := by simp; omega
  have hst : emptySl f = os f false [] (setB (fun i => 0) 0) := os_empty f
  have H3 := Lib.hid ((H2.out.swap).batch 1 2)
  clear H2
  go_wp2_with fail
  generalize w2.alloc (rqObj 1 2) = w3 at *
  generalize w2.heap.size = gx at *
  refine (ws_pre H3.out (sl1 gx) [rq 1 2] (by simp) (by simp)).mono ?_
  rintro e w4 ⟨rfl, h4⟩
  have h4' : Ws w.heap.size w w4 [(La, os f true [rq 1 2] fun _ => false), (Lb, os f false [] fun _ => false)] [] [(sl1 gx, [rq 1 2])] := by
    rw [os_empty] at h4; exact h4
  have t1 : (!(emptySl f).has) = true := rfl
  rw [t1]
  have H4 := Lib.hid h4'
  clear t1 h4 h4' H3 hst
  go_wp2_with fail
  refine (rnodes_any f _ (by omega) (by omega)).mono ?_
  rintro e w' ⟨rfl, rfl⟩
  obtain ⟨t, ht, hte⟩ : ∃ t : Nat, (0 < zs.length → t < zs.length) ∧ (0 < zs.length → a2 % (zs.length : Int) = t) := by
    by_cases h0 : 0 < zs.length
    · obtain ⟨q1, q2⟩ := emod_in a2 zs.length (by omega)
      exact ⟨(a2 % (zs.length : Int)).toNat, fun _ => by omega, fun _ => by omega⟩
    · exact ⟨0, fun h => absurd h h0, fun h => absurd h h0⟩
  have HTE := Lib.hid hte
  clear hte
  obtain ⟨g, hg⟩ : ∃ g : Nat → Nat, ∀ i (hi : i < zs.length), g i < 3 * f + 1 ∧ zs[i] % (3 * (f : Int) + 1) = g i := by
    refine ⟨fun i => (zs.getD i 0 % (3 * (f : Int) + 1)).toNat, fun i hi => ?_⟩
    obtain ⟨q1, q2⟩ := emod_in zs[i] (3 * (f : Int) + 1) (by omega)
    simp only [List.getD, List.getElem?_eq_getElem hi, Option.getD_some]
    omega
  have HG := Lib.hid hg
  clear hg
  go_wp2_with fail
  go_loopw [86] (fun i wr => ∃ k : Nat, k ≤ zs.length ∧ i = .int .i64 k ∧ Hid (Ws w.heap.size w wr [(La, os f true [rq 1 2] (setB g k)), (Lb, os f false [] (setB (fun i => g ((i + t) % zs.length)) k))] [] [(sl1 gx, [rq 1 2])])) (fun i _ => zs.length - (intOf i).toNat)
  case atStart => exact ⟨0, by omega, rfl, H4⟩
  case round =>
    clear H4
    obtain ⟨k, hk, rfl, H5⟩ := hrel
    by_cases hlt : k < zs.length
    · have htl := ht (by omega)
      obtain ⟨r, hre⟩ : ∃ r, r = (k + t) % zs.length := ⟨_, rfl⟩
      have hr : r < zs.length := by rw [hre]; exact Nat.mod_lt _ (by omega)
      have hz1 := HZ.out.upd (M := []) (Upd.of_below H5.out.below) (by simp)
      obtain ⟨-, b, o, rfl, hbl, hcell⟩ := hz1.at k hlt
      obtain ⟨-, b', o', hbe, -, hcell'⟩ := hz1.at _ hr
      simp only [Option.some.injEq, Addr.mk.injEq, and_true] at hbe
      obtain ⟨rfl, rfl⟩ := hbe
      obtain ⟨g1, g2⟩ := HG.out k hlt
      obtain ⟨g3, g4⟩ := HG.out _ hr
      have hrem : ((k : Int) + (t : Int)).tmod (zs.length : Int) = (r : Int) := by
        rw [hre, show (k : Int) + (t : Int) = ((k + t : Nat) : Int) by simp]; exact Int.ofNat_tmod _ _
      obtain ⟨m, hme⟩ : ∃ m, m = g k := ⟨_, rfl⟩
      obtain ⟨n, hne⟩ : ∃ n, n = g r := ⟨_, rfl⟩
      rw [← hme] at g1 g2
      rw [← hne] at g3 g4
      have HRE := Lib.hid hre
      have HME := Lib.hid hme
      have HNE := Lib.hid hne
      clear hre hme hne
      have G2 := Lib.hid g2
      have G4 := Lib.hid g4
      have HRM := Lib.hid hrem
      clear g2 g4 hrem hz1
      have hkI : (k : Int) < (zs.length : Int) := by omega
      have hrI : (r : Int) < (zs.length : Int) := by omega
      have hr0 : (0 : Int) ≤ (r : Int) := by omega
      go_wp2_with fail
      refine (Within_any zs[k] (3 * (f : Int) + 1) _ (by omega) (by omega)).mono ?_
      rintro e w' ⟨rfl, rfl⟩
      rw [G2.out]
      go_wp2_with fail
      refine (Within_any a2 zs.length _ (by omega) (by omega)).mono ?_
      rintro e w' ⟨rfl, rfl⟩
      rw [HTE.out (by omega)]
      have hrem := HRM.out
      go_wp2_with fail
      refine (Within_any zs[r] (3 * (f : Int) + 1) _ (by omega) (by omega)).mono ?_
      rintro e w' ⟨rfl, rfl⟩
      rw [G4.out]
      clear hrem hcell hcell'
      have hm13 : (m : Int) < 13 := by omega
      have hn13 : (n : Int) < 13 := by omega
      have hm0 : (0 : Int) ≤ (m : Int) := by omega
      have hn0 : (0 : Int) ≤ (n : Int) := by omega
      go_wp2_with fail
      refine (ws_vote H5.out 4 m m (sl1 gx) [rq 1 2] (by simp) (by simp)).mono ?_
      rintro e w5 ⟨rfl, h6⟩
      have H6 := Lib.hid h6
      clear h6 H5
      go_wp2_with fail
      refine (ws_vote H6.out 5 m (50 + (m : Int)) (sl1 gx) [rq 1 2] (by simp) (by simp)).mono ?_
      rintro e w6 ⟨rfl, h7⟩
      rw [(os_votes f true [rq 1 2] (setB g k) m g1).1, HME.out, setB_succ] at h7
      have H7 := Lib.hid h7.swap
      clear h7 H6
      go_wp2_with fail
      refine (ws_vote H7.out 5 n (50 + (n : Int)) (sl1 gx) [rq 1 2] (by simp) (by simp)).mono ?_
      rintro e w7 ⟨rfl, h8⟩
      have H8 := Lib.hid h8
      clear h8 H7
      go_wp2_with fail
      refine (ws_vote H8.out 4 n n (sl1 gx) [rq 1 2] (by simp) (by simp)).mono ?_
      rintro e w8 ⟨rfl, h9⟩
      have hgr : n = (fun i => g ((i + t) % zs.length)) k := by rw [HNE.out, HRE.out]
      rw [(os_votes f false [] _ n g3).2, hgr, setB_succ] at h9
      have H9 := Lib.hid h9.swap
      clear h9 H8 hgr
      go_wp2_with fail
      go_roundw
      case rel => exact ⟨k + 1, by omega, by go_num, H9⟩
      case measure => simp [intOf]; omega
    · have hkz : k = zs.length := by omega
      subst hkz
      have hkI : ¬ (zs.length : Int) < (zs.length : Int) := by omega
      have hrot : setB (fun i => g ((i + t) % zs.length)) zs.length = setB g zs.length := by
        by_cases h0 : 0 < zs.length
        · exact setB_rot g _ t (ht h0)
        · rw [show zs.length = 0 by omega]; rfl
      rw [hrot] at H5
      clear hrot ht HTE
      obtain ⟨A, B, X, bb, lA, lB, lX, e1, e2, e3, e4, e5⟩ := os_ends f hf2 (setB g zs.length)
      generalize setB g zs.length = h at *
      have E1 := Lib.hid e1
      have E2 := Lib.hid e2
      have E3 := Lib.hid e3
      have E4 := Lib.hid e4
      have E5 := Lib.hid e5
      have LA := Lib.hid lA
      have LB := Lib.hid lB
      have LX := Lib.hid lX
      clear e1 e2 e3 e4 e5 lA lB lX HG
      have H6 := Lib.hid H5.out.swap
      clear H5
      go_wp2_with fail
      refine (ws_prepared H6.out).mono ?_
      rintro e w5 ⟨u5, rfl, -, h7, -⟩
      have H7 := Lib.hid h7
      have t2 : (preparedS Lb.f (os f false [] h)).isSome = false := rfl
      rw [t2]
      clear t2 h7 H6
      go_wp2_with fail
      refine (ws_pre H7.out (sl1 gx) [rq 1 2] (by simp) (by simp)).mono ?_
      rintro e w6 ⟨rfl, h8⟩
      have t3 : (!(os f false [] h).has) = true := rfl
      rw [t3]
      have H8 := Lib.hid (show Ws w.heap.size w w6 [(La, os f true [rq 1 2] h), (Lb, os f true [rq 1 2] h)] [] [(sl1 gx, [rq 1 2])] from h8.swap)
      clear h8 H7 t3
      go_wp2_with fail
      refine (ws_prepared H8.out).mono ?_
      rintro e w7 ⟨u7, rfl, -, h9, hb7⟩
      rw [HFA.out, E2.out] at hb7
      rw [HFA.out, E1.out]
      have H9 := Lib.hid h9.swap
      have V7 := Lib.hid hb7
      clear h9 H8 hb7
      go_wp2_with fail
      refine (ws_prepared H9.out).mono ?_
      rintro e w8 ⟨u8, rfl, hu8, h10, hb8⟩
      rw [HFB.out, E2.out] at hb8
      rw [HFB.out, E1.out]
      have H10 := Lib.hid h10.swap
      have V8 := Lib.hid hb8
      have V7a := Lib.hid (V7.out.upd hu8 (by simp))
      clear h10 H9 hb8 V7 hu8
      go_wp2_with fail
      refine (ws_committed H10.out).mono ?_
      rintro e w9 ⟨v9, u9, rfl, hu9, h11, hb9, hv9⟩
      rw [HFA.out, E4.out] at hb9
      rw [HFA.out, E5.out] at hv9
      rw [HFA.out, E3.out]
      have H11 := Lib.hid h11.swap
      have B9 := Lib.hid hb9
      have V9 := Lib.hid hv9
      have V7b := Lib.hid (V7a.out.upd hu9 (by simp))
      have V8b := Lib.hid (V8.out.upd hu9 (by simp))
      clear h11 H10 hb9 hv9 V7a V8 hu9
      go_wp2_with fail
      refine (ws_committed H11.out).mono ?_
      rintro e w10 ⟨v10, u10, rfl, hu10, h12, hb10, hv10⟩
      rw [HFB.out, E4.out] at hb10
      rw [HFB.out, E5.out] at hv10
      rw [HFB.out, E3.out]
      have H12 := Lib.hid h12
      have B10 := Lib.hid hb10
      have V10 := Lib.hid hv10
      have B9c := Lib.hid (B9.out.upd hu10 (by simp))
      have V9c := Lib.hid (V9.out.upd hu10 (by simp))
      have V7c := Lib.hid (V7b.out.upd hu10 (by simp))
      have V8c := Lib.hid (V8b.out.upd hu10 (by simp))
      clear h12 H11 hb10 hv10 V7b V8b hu10 B9 V9
      have tbb : (bb == bb) = true := by simp
      go_wp2_with fail
      refine (sameV_any u7 u8 A A _ LA.out LA.out V7c.out V8c.out).mono ?_
      rintro e w11 ⟨rfl, hu11⟩
      rw [decide_eq_true (rfl : A = A)]
      have H13 := Lib.hid (H12.out.upd0 hu11)
      have B9d := Lib.hid (B9c.out.upd hu11 (by simp))
      have B10d := Lib.hid (B10.out.upd hu11 (by simp))
      have V9d := Lib.hid (V9c.out.upd hu11 (by simp))
      have V10d := Lib.hid (V10.out.upd hu11 (by simp))
      clear hu11 H12 B9c B10 V9c V10 V7c V8c
      go_wp2_with fail
      refine (sameR_any v9 v10 X X _ LX.out LX.out B9d.out B10d.out).mono ?_
      rintro e w12 ⟨rfl, hu12⟩
      rw [decide_eq_true (rfl : X = X)]
      have H14 := Lib.hid (H13.out.upd0 hu12)
      have V9e := Lib.hid (V9d.out.upd hu12 (by simp))
      have V10e := Lib.hid (V10d.out.upd hu12 (by simp))
      clear hu12 H13 B9d B10d V9d V10d
      go_wp2_with fail
      refine (sameV_any u9 u10 B B _ LB.out LB.out V9e.out V10e.out).mono ?_
      rintro e w13 ⟨rfl, hu13⟩
      rw [decide_eq_true (rfl : B = B)]
      have H15 := Lib.hid (H14.out.upd0 hu13)
      clear hu13 H14 V9e V10e
      go_wp2_with fail
      refine (wakes_any _).mono ?_
      rintro e w14 ⟨rfl, hb14⟩
      have H16 := Lib.hid (H15.out.upd0 (Upd.of_below hb14))
      go_wp2_with fail
      go_ret
      exact ⟨rfl, H16.out.below⟩

end Go.Proofs.Ytdeadekeffficaa
