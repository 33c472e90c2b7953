/- Parts of the proof, one behind the other. -/
import Derived.Test.YtimdphlolmbhnaaGreatAudC3
import Derived.Deep.DeepCutAuto
import Derived.Deep.CutBlock
import Derived.Deep.AppendLies

/- The law AuditLogs, walked. -/
namespace Go.Proofs.YtimdphlolmbhnaaGreat
open Go.RowKit Go.Heap

theorem nat_in' (v : Int) (n : Int) (h : 1 ≤ n) : ∃ k : Nat, v % n = (k : Int) ∧ (k : Int) < n := by
  obtain ⟨h1, h2⟩ := emod_in v n h
  exact ⟨(v % n).toNat, by omega, by omega⟩
theorem ens_min {w : World} {ao : Option Addr} {n c : Nat} {l : List En} (h : Ens w (.slice ao n c) l) (m : Nat) : ∃ M : Nat, min (n : Int) (m : Int) = (M : Int) ∧ M ≤ c ∧ Ens w (.slice ao M c) (l.take m) ∧ (l.take m).length ≤ m := by
  obtain ⟨_, _, hv, q, _⟩ := id h
  simp only [Value.slice.injEq] at hv
  refine ⟨min n m, by omega, by omega, ?_, List.length_take_le _ _⟩
  rw [← cutV_at]
  exact ens_cut h m
theorem bat_min {w : World} {ao : Option Addr} {n c : Nat} {l : List Rq} (h : Bat w (.slice ao n c) l) (m : Nat) : ∃ M : Nat, min (n : Int) (m : Int) = (M : Int) ∧ M ≤ c ∧ Bat w (.slice ao M c) (l.take m) ∧ (l.take m).length ≤ m := by
  obtain ⟨_, _, hv, q, _⟩ := id h
  simp only [Value.slice.injEq] at hv
  refine ⟨min n m, by omega, by omega, ?_, List.length_take_le _ _⟩
  rw [← cutV_at]
  exact bat_cut h m

set_option maxHeartbeats 1000000 in
theorem ronce_q (v : Value) (l : List En) (w : World) (hn : l.length ≤ 100000) (h : Ens w v l) :
    Calls Tryz.prog 17 #[v] w fun e w' => e = .returned (.bool (decide (OnceP l))) ∧ ∃ N, w' = w.drewN N := by
  obtain ⟨ao, cap, rfl, h1, h2, h3, h4, h5⟩ := h
  clear h1 h2 h3 h4
  have H5 := Lib.hid h5
  clear h5
  go_enter Tryz.func17, Tryz.ntmps17
  go_wp2_with fail
  go_loopw [7] (fun i wr => ∃ k : Nat, k ≤ l.length ∧ i = .int .i64 k ∧ Hid (OnceTo l k) ∧ (∃ N, wr = w.drewN N)) (fun i _ => l.length - (intOf i).toNat)
  case atStart => exact ⟨0, by omega, rfl, Lib.hid (fun i hi => by omega), ⟨0, rfl⟩⟩
  case round =>
    obtain ⟨k, hk, rfl, HK, N0, rfl⟩ := hrel
    by_cases hlt : k < l.length
    · have hkI : (k : Int) < (l.length : Int) := by omega
      obtain ⟨b, o, rfl, hbs, hc⟩ := H5.out (by omega)
      have HCC := Lib.hid hc
      clear hc
      go_wp2_with fail
      go_loopw [4] (fun i wr => ∃ m : Nat, m ≤ k ∧ i = .int .i64 m ∧ Hid (OnceRow l k m) ∧ (∃ N, wr = w.drewN N)) (fun i _ => k - (intOf i).toNat)
      case atStart => exact ⟨0, by omega, rfl, Lib.hid (fun i hi => by omega), _, rfl⟩
      case round =>
        obtain ⟨m, hm, rfl, HR, N1, rfl⟩ := hrel
        by_cases hlm : m < k
        · have hmI : (m : Int) < (k : Int) := by omega
          have hml : m < l.length := by omega
          have hmlI : (m : Int) < (l.length : Int) := by omega
          obtain ⟨q0, q1, -, -, -, -, -⟩ := ens_cells HCC.out m l[m] (by simp)
          obtain ⟨p0, p1, -, -, -, -, -⟩ := ens_cells HCC.out k l[k] (by simp)
          by_cases hc1 : l[m].rq.client = l[k].rq.client
          · have hcb : (l[m].rq.client == l[k].rq.client) = true := by simp [hc1]
            have HC1 := Lib.hid hc1
            clear hc1
            by_cases hc2 : l[k].rq.time ≤ l[m].rq.time
            · have HC2 := Lib.hid hc2
              go_wp2_with fail
              go_quiet (fail)
              go_wp2_with fail
              go_ret
              exact ⟨ret_bool (once_false hlm ⟨hml, hlt, HC1.out, HC2.out⟩).symm, _, World.drewN_drewN ..⟩
            · have HC2 := Lib.hid hc2
              go_wp2_with fail
              go_quiet (fail)
              go_wp2_with fail
              go_roundw
              case rel => exact ⟨m + 1, by omega, by go_num, Lib.hid (HR.out.next (fun ⟨_, _, c⟩ => by have h1 := HC2.out; have h2 := c.2; omega)), _, rfl⟩
              case measure => simp [intOf]; omega
          · have hcb : (l[m].rq.client == l[k].rq.client) = false := by simp [hc1]
            go_wp2_with fail
            go_quiet (fail)
            go_wp2_with fail
            go_roundw
            case rel => exact ⟨m + 1, by omega, by go_num, Lib.hid (HR.out.next (fun ⟨_, _, c⟩ => hc1 c.1)), _, rfl⟩
            case measure => simp [intOf]; omega
        · have hmk : m = k := by omega
          subst hmk
          have hmI : decide ((m : Int) < (m : Int)) = false := by simp
          go_wp2_with fail
          go_roundw
          case rel => exact ⟨m + 1, by omega, by go_num, Lib.hid (HK.out.next HR.out), _, rfl⟩
          case measure => simp [intOf]; omega
    · have hkl : k = l.length := by omega
      subst hkl
      go_wp2_with fail
      go_ret
      exact ⟨ret_bool (once_true HK.out).symm, _, rfl⟩


set_option maxHeartbeats 8000000 in
set_option maxRecDepth 100000 in
theorem audlogs_any (v0 : Value) (xs : List Lo) {W : World} (h0 : Logs W v0 xs) (v1 : Value) (ac : List En) (h1 : Ens W v1 ac) (cl : Int) (v3 : Value) (iss : List Rq) (h3 : Bat W v3 iss) (n : Int) :
    Calls Tryz.prog 5 #[v0, v1, .int .i64 cl, v3, .int .i64 n] W fun e w' => e = .returned (.bool true) ∧ Below W.heap.size W w' := by
  obtain ⟨N0, hN0, hN1⟩ := nat_in' n 4 (by decide)
  obtain ⟨N, hN⟩ : ∃ N, N = 1 + N0 := ⟨_, rfl⟩
  have HN0 := Lib.hid hN0
  have HN : Hid ((1 : Int) + (N0 : Int) = (N : Int)) := Lib.hid (by omega)
  have hNa : 1 ≤ N := by omega
  have hNb : N ≤ 4 := by omega
  have HL := Lib.hid (logs_any v0 xs W h0)
  obtain ⟨a1, c1, rfl, k1, k2⟩ := ens_form h1
  obtain ⟨a3, c3, rfl⟩ := bat_form h3
  obtain ⟨M1, hm1, hc1, e1, hA⟩ := ens_min h1 12
  obtain ⟨M3, hm3, hc3, e3, hI⟩ := bat_min h3 12
  have E1 := Lib.hid e1
  have E3 := Lib.hid e3
  have hm1 : min (ac.length : Int) 12 = (M1 : Int) := hm1
  have hm3 : min (iss.length : Int) 12 = (M3 : Int) := hm3
  have hc1 : (M1 : Int) ≤ (c1 : Int) := by omega
  have hc3 : (M3 : Int) ≤ (c3 : Int) := by omega
  have hz1 : (0 : Int) ≤ (M1 : Int) := by omega
  have hz3 : (0 : Int) ≤ (M3 : Int) := by omega
  have hn8 : (N0 : Int) < 8 := by omega
  clear hN0 hN1 hN h0 h1 h3 k1 k2 e1 e3
  generalize ac.take 12 = A at *
  generalize iss.take 12 = I at *
  generalize ac.length = la at *
  generalize iss.length = li at *
  go_enter Tryz.func5, Tryz.ntmps5
  go_wp2_with fail
  refine HL.out.mono ?_
  rintro e w1 ⟨v0', rfl, hu1, hl1⟩
  have HU := Lib.hid hu1
  have HYN : Hid (((xs.take 6).map cutLo).length ≤ 6 ∧ ∀ x ∈ (xs.take 6).map cutLo, x.es.length ≤ 20) := Lib.hid ⟨by simp; omega, fun x hx => by
    obtain ⟨y, -, rfl⟩ := List.mem_map.1 hx
    exact List.length_take_le _ _⟩
  generalize (xs.take 6).map cutLo = ys at *
  have HLO := Lib.hid hl1
  obtain ⟨ay, cy, hvy, hcy, -⟩ := hl1.1
  subst hvy
  clear hu1 hl1 HL
  go_wp2_with fail
  refine (Within_any _ _ _ (by decide) (by decide)).mono ?_
  rintro e w2 ⟨rfl, rfl⟩
  rw [HN0.out]
  go_wp2_with fail
  rw [HN.out]
  clear hm1 hm3 hc1 hc3 hz1 hz3 hn8
  have F1 := Lib.hid (agree_any _ ys w1 (by have := HYN.out.1; omega) (fun x hx => by have := HYN.out.2 x hx; omega) HLO.out)
  have F2 : Hid (∀ wx, Upd [] w1 wx → Calls Tryz.prog 16 #[.slice ay ys.length cy] wx fun e w' => e = .returned (.bool (agreeB (ys.map Lo.es))) ∧ Upd [] w1 w') := Lib.hid (fun wx hx => (ragree_any _ ys wx (by have := HYN.out.1; omega) (fun x hx => by have := HYN.out.2 x hx; omega) (HLO.out.upd hx)).mono (fun e w' ⟨q1, q2⟩ => ⟨q1, hx.trans q2⟩))
  generalize agreeB (ys.map Lo.es) = b0 at *
  refine F1.out.mono ?_
  rintro e w3 ⟨rfl, hu3⟩
  go_wp2_with fail
  refine (F2.out _ hu3).mono ?_
  rintro e w4 ⟨rfl, hu4⟩
  have H4 := Lib.hid hu4
  have hbb : (b0 != b0) = false := by cases b0 <;> rfl
  clear hu3 hu4 F1 F2
  go_wp2_with fail
  clear hbb
  go_loopw [34] (fun j wr => ∃ k : Nat, k ≤ ys.length ∧ j = .int .i64 k ∧ Hid (Upd [] w1 wr)) (fun j _ => ys.length - (intOf j).toNat)
  case atStart => exact ⟨0, by omega, rfl, H4⟩
  case round =>
    clear H4
    obtain ⟨k, hk, rfl, H4⟩ := hrel
    by_cases hlt : k < ys.length
    · have hkI : (k : Int) < (ys.length : Int) := by omega
      have hk0 : (0 : Int) ≤ (k : Int) := by omega
      obtain ⟨b, o, rfl, hbs, hcs⟩ := logs_cell HLO.out.1 k hlt
      have q0 := hcs k hlt
      have hx := HLO.out.2 ys[k] (List.getElem_mem hlt)
      have hxn := HYN.out.2 ys[k] (List.getElem_mem hlt)
      have hy6 := HYN.out.1
      generalize ys[k].v = rv at *
      generalize ys[k].es = re at *
      have hx' := hx
      have ha' : Ens w1 (.slice a1 M1 c1) A := E1.out.upd HU.out (by simp)
      have hi' : Bat w1 (.slice a3 M3 c3) I := E3.out.upd HU.out (by simp)
      have C1 : Hid (∀ wx, Upd [] w1 wx → Calls Tryz.prog 14 #[rv] wx fun e w' => e = .returned (.bool (decide (OnceP re))) ∧ Upd [] w1 w') := Lib.hid (fun wx hx => (once_any rv re wx (by omega) (hx'.upd hx (by simp))).mono (fun e w' ⟨q1, q2⟩ => ⟨q1, hx.trans q2⟩))
      have C2 : Hid (∀ wx, Upd [] w1 wx → Calls Tryz.prog 17 #[rv] wx fun e w' => e = .returned (.bool (decide (OnceP re))) ∧ Upd [] w1 w') := Lib.hid (fun wx hx => (ronce_any rv re wx (by omega) (hx'.upd hx (by simp))).mono (fun e w' ⟨q1, q2⟩ => ⟨q1, hx.trans q2⟩))
      have C3 : Hid (∀ wx, Upd [] w1 wx → Calls Tryz.prog 18 #[.int .i64 N, rv] wx fun e w' => e = .returned (.bool (followsB N Sv.new re)) ∧ Upd [] w1 w') := Lib.hid (fun wx hx => (follows_any N hNa hNb rv re wx (by omega) (hx'.upd hx (by simp))).mono (fun e w' ⟨q1, q2⟩ => ⟨q1, hx.trans q2⟩))
      have C4 : Hid (∀ wx, Upd [] w1 wx → Calls Tryz.prog 19 #[.int .i64 N, rv] wx fun e w' => e = .returned (.bool (followsB N Sv.new re)) ∧ Upd [] w1 w') := Lib.hid (fun wx hx => (rfollows_any N (by omega) rv re wx (by omega) (hx'.upd hx (by simp))).mono (fun e w' ⟨q1, q2⟩ => ⟨q1, hx.trans q2⟩))
      have C5 : Hid (∀ wx, Upd [] w1 wx → Calls Tryz.prog 13 #[rv, .int .i64 cl, .slice a3 M3 c3] wx fun e w' => e = .returned (.bool (givenB re cl I)) ∧ Upd [] w1 w') := Lib.hid (fun wx hx => (given_any rv re cl _ I wx (by omega) (by omega) (hx'.upd hx (by simp)) (hi'.upd hx (by simp))).mono (fun e w' ⟨q1, q2⟩ => ⟨q1, hx.trans q2⟩))
      have C6 : Hid (∀ wx, Upd [] w1 wx → Calls Tryz.prog 20 #[rv, .int .i64 cl, .slice a3 M3 c3] wx fun e w' => e = .returned (.bool (givenB re cl I)) ∧ Upd [] w1 w') := Lib.hid (fun wx hx => (rgiven_any rv re cl _ I wx (by omega) (by omega) (hx'.upd hx (by simp)) (hi'.upd hx (by simp))).mono (fun e w' ⟨q1, q2⟩ => ⟨q1, hx.trans q2⟩))
      have C7 : Hid (∀ wx, Upd [] w1 wx → Calls Tryz.prog 17 #[.slice a1 M1 c1] wx fun e w' => e = .returned (.bool (decide (OnceP A))) ∧ Upd [] w1 w') := Lib.hid (fun wx hx => (ronce_any _ A wx (by omega) (ha'.upd hx (by simp))).mono (fun e w' ⟨q1, q2⟩ => ⟨q1, hx.trans q2⟩))
      have C8 : Hid (∀ wx, Upd [] w1 wx → Calls Tryz.prog 12 #[rv, .slice a1 M1 c1] wx fun e w' => e = .returned (.bool (keptB re 0 A)) ∧ Upd [] w1 w') := Lib.hid (fun wx hx => (kept_any rv _ re A wx (by omega) (by omega) (hx'.upd hx (by simp)) (ha'.upd hx (by simp))).mono (fun e w' ⟨q1, q2⟩ => ⟨q1, hx.trans q2⟩))
      have C9 : Hid (∀ wx, Upd [] w1 wx → Calls Tryz.prog 21 #[rv, .slice a1 M1 c1] wx fun e w' => e = .returned (.bool (keptB re 0 A)) ∧ Upd [] w1 w') := Lib.hid (fun wx hx => (rkept_any rv _ re A wx (by omega) (by omega) (hx'.upd hx (by simp)) (ha'.upd hx (by simp))).mono (fun e w' ⟨q1, q2⟩ => ⟨q1, hx.trans q2⟩))
      have CQ : Hid (∀ wx, Upd [] w1 wx → Calls Tryz.prog 17 #[.slice a1 M1 c1] wx fun e w' => e = .returned (.bool (decide (OnceP A))) ∧ ∃ N, w' = wx.drewN N) := Lib.hid (fun wx hx => ronce_q _ A wx (by omega) (ha'.upd hx (by simp)))
      have HQ : Hid (∀ wx, Upd [] w1 wx → wx.cell? ⟨b, o + k, none⟩ = some rv) := Lib.hid (fun wx hx => (World.cell?_of_block (hx.block b hbs (by simp))).trans q0)
      clear hcs q0 hbs hx hxn hx' ha' hi'
      generalize decide (OnceP re) = b1 at *
      generalize followsB N Sv.new re = b2 at *
      generalize givenB re cl I = b3 at *
      generalize decide (OnceP A) = b4 at *
      generalize keptB re 0 A = b5 at *
      have hb1 : (b1 != b1) = false := by cases b1 <;> rfl
      have hb2 : (b2 != b2) = false := by cases b2 <;> rfl
      have hb3 : (b3 != b3) = false := by cases b3 <;> rfl
      have hb5 : (b5 != b5) = false := by cases b5 <;> rfl
      go_upto_region 10 with fail
      have hd := H4.out.drew
      refine Held.wp_held [(b, o + k, [rv])] [(3, 0), (8, 0), (16, 0), (22, 0), (30, 0), (37, 0)] [] [(5, true), (5, true), (8, true), (6, true), (10, true), (7, true)] (by kernel_rfl) (by kernel_rfl) ⟨⟨HQ.out _ hd, trivial⟩, trivial⟩ ?_
      have HD := Lib.hid hd
      clear hd
      simp only [Held.cutAt, Held.walk, List.take_succ_cons, List.take_zero, List.drop_succ_cons, List.drop_zero]
      have d1 := HQ.out _ HD.out
      go_wp2_with fail
      refine (C1.out _ HD.out).mono ?_
      rintro e wa ⟨rfl, hua⟩
      have HA := Lib.hid hua
      have d2 := HQ.out _ hua
      clear hua d1
      go_wp2_with fail
      refine ⟨⟨⟨HQ.out _ HA.out, trivial⟩, trivial⟩, ?_⟩
      go_wp2_with fail
      clear d2
      refine (C2.out _ HA.out).mono ?_
      rintro e wb ⟨rfl, hu⟩
      have Hwb := Lib.hid hu
      have d1 := HQ.out _ hu
      clear hu
      go_wp2_with fail
      refine ⟨⟨⟨HQ.out _ Hwb.out, trivial⟩, trivial⟩, ?_⟩
      go_wp2_with fail
      clear d1
      refine (C3.out _ Hwb.out).mono ?_
      rintro e wcc ⟨rfl, hu⟩
      have Hwcc := Lib.hid hu
      have d1 := HQ.out _ hu
      clear hu
      go_wp2_with fail
      refine ⟨⟨⟨HQ.out _ Hwcc.out, trivial⟩, trivial⟩, ?_⟩
      go_wp2_with fail
      clear d1
      refine (C4.out _ Hwcc.out).mono ?_
      rintro e wd ⟨rfl, hu⟩
      have Hwd := Lib.hid hu
      have d1 := HQ.out _ hu
      clear hu
      go_wp2_with fail
      refine ⟨⟨⟨HQ.out _ Hwd.out, trivial⟩, trivial⟩, ?_⟩
      go_wp2_with fail
      clear d1
      refine (C5.out _ Hwd.out).mono ?_
      rintro e we ⟨rfl, hu⟩
      have Hwe := Lib.hid hu
      have d1 := HQ.out _ hu
      clear hu
      go_wp2_with fail
      refine ⟨⟨⟨HQ.out _ Hwe.out, trivial⟩, trivial⟩, ?_⟩
      go_wp2_with fail
      clear d1
      refine (C6.out _ Hwe.out).mono ?_
      rintro e wf ⟨rfl, hu⟩
      have Hwf := Lib.hid hu
      have d1 := HQ.out _ hu
      clear hu
      go_wp2_with fail
      refine ⟨⟨⟨HQ.out _ Hwf.out, trivial⟩, trivial⟩, ?_⟩
      go_wp2_with fail
      clear d1
      refine ⟨trivial, by rfl, ⟨⟨rfl, .inl ⟨by kernel_rfl, rfl⟩⟩, ⟨rfl, .inl ⟨by kernel_rfl, rfl⟩⟩, ⟨rfl, .inl ⟨by kernel_rfl, rfl⟩⟩, ⟨rfl, .inl ⟨by kernel_rfl, rfl⟩⟩, ⟨rfl, .inl ⟨by kernel_rfl, rfl⟩⟩, ⟨rfl, .inl ⟨by kernel_rfl, rfl⟩⟩, trivial⟩, ?_⟩
      clear hb1 hb2 hb3
      go_upto_region 12 with fail
      cases b4 with
      | true =>
        have hd := Hwf.out.drew
        refine Held.wp_held [(b, o + k, [rv])] [(6, 0), (12, 0)] [] [(2, true), (7, true), (6, true)] (by kernel_rfl) (by kernel_rfl) ⟨⟨HQ.out _ hd, trivial⟩, trivial⟩ ?_
        have HD2 := Lib.hid hd
        clear hd
        simp only [Held.cutAt, Held.walk, List.take_succ_cons, List.take_zero, List.drop_succ_cons, List.drop_zero]
        have d1 := HQ.out _ HD2.out
        go_wp2_with fail
        clear d1
        refine (C7.out _ HD2.out).mono ?_
        rintro e wg ⟨rfl, hu⟩
        have Hwg := Lib.hid hu
        have d1 := HQ.out _ hu
        clear hu
        go_wp2_with fail
        refine ⟨⟨⟨HQ.out _ Hwg.out, trivial⟩, trivial⟩, ?_⟩
        go_wp2_with fail
        clear d1
        refine (C8.out _ Hwg.out).mono ?_
        rintro e wh ⟨rfl, hu⟩
        have Hwh := Lib.hid hu
        have d1 := HQ.out _ hu
        clear hu
        go_wp2_with fail
        refine ⟨⟨⟨HQ.out _ Hwh.out, trivial⟩, trivial⟩, ?_⟩
        go_wp2_with fail
        clear d1
        refine (C9.out _ Hwh.out).mono ?_
        rintro e wi ⟨rfl, hu⟩
        have Hwi := Lib.hid hu
        have d1 := HQ.out _ hu
        clear hu
        go_wp2_with fail
        refine ⟨⟨⟨HQ.out _ Hwi.out, trivial⟩, trivial⟩, ?_⟩
        go_wp2_with fail
        refine ⟨trivial, by rfl, ⟨⟨rfl, .inl ⟨by kernel_rfl, rfl⟩⟩, ⟨rfl, .inl ⟨by kernel_rfl, rfl⟩⟩, trivial⟩, ?_⟩
        go_wp2_with fail
        go_roundw
        case rel => exact ⟨k + 1, by omega, by go_num, Hwi⟩
        case measure => simp [intOf]; omega
      | false =>
        have HC7 : Hid (∀ N : Nat, Calls Tryz.prog 17 #[.slice a1 M1 c1] (wf.drewN N) fun e w' => e = .returned (.bool false) ∧ ∃ m, w' = wf.drewN m) := Lib.hid (fun N => Calls.mono (CQ.out (wf.drewN N) (Hwf.out.drewN N)) (fun e w' ⟨q1, M, q2⟩ => ⟨q1, N + M, by rw [q2, World.drewN_drewN]⟩))
        clear CQ C7 C8 C9 C1 C2 C3 C4 C5 C6
        go_quiet ((go_at_call 17; exact HC7.out _))
        go_wp2_with fail
        go_roundw
        case rel => exact ⟨k + 1, by omega, by go_num, Lib.hid (Hwf.out.drewN _)⟩
        case measure => simp [intOf]; omega
    · have hkl : k = ys.length := by omega
      subst hkl
      go_wp2_with fail
      refine (wakes26_any _).mono ?_
      rintro e w8 ⟨rfl, hb8⟩
      go_wp2_with fail
      go_ret
      exact ⟨rfl, (HU.out.trans H4.out).below.trans (hb8.mono (HU.out.trans H4.out).size)⟩

end Go.Proofs.YtimdphlolmbhnaaGreat

/- The laws AuditFinds and AuditTrue: a log that the service made. -/
namespace Go.Proofs.YtimdphlolmbhnaaGreat
open Go.RowKit Go.Heap

theorem bats_cell {w : World} {ao : Option Addr} {n cap : Nat} {xs : List Ba} (h : Reads w (.slice ao n cap) 1 xs.length (xs.map Ba.v)) (k : Nat) (hk : k < xs.length) : ∃ b o, ao = some ⟨b, o, none⟩ ∧ b < w.heap.size ∧ ∀ k (hk : k < xs.length), w.cell? ⟨b, o + k, none⟩ = some xs[k].v := by
  obtain ⟨ao', cap', hv, h1, h2, h3, h4, h5⟩ := h
  simp only [Value.slice.injEq] at hv
  obtain ⟨rfl, rfl, rfl⟩ := hv
  obtain ⟨b, o, rfl, hb, hc⟩ := h5 (by omega)
  exact ⟨b, o, rfl, hb, fun k hk => by rw [hc k (by omega)]; simp [hk]⟩
theorem bat_form' {w : World} {v : Value} {l : List Rq} (h : Bat w v l) : ∃ ao n cap, v = .slice ao n cap ∧ n = l.length := let ⟨ao, cap, hv, _⟩ := h; ⟨ao, _, cap, hv, rfl⟩
theorem led_box {B : Nat} {w0 W : World} {rs : List Res} (h : Own B w0 W rs) (n : Int) : Own B w0 (W.alloc (.cells (Tryz.zeroCells31.setIfInBounds 0 (.int .i64 n)) 31 (0, 0))) (ldB W.heap.size (c0 n) :: rs) :=
  funB_of (h.box _) (Tryz.ledN n) (fun j hj => by
    rw [← Array.getElem?_toList, Tryz.led0, List.getElem?_map, List.getElem?_range hj]; rfl)

/-- A log that was made so far. -/
def MdMk (B : Nat) (w0 : World) (p : Nat) (n : Int) (k : Nat) (w : World) : Prop :=
  ∃ lv c es sv, es.length ≤ 5 * k ∧ followsB n Sv.new es = true ∧ behind n Sv.new es = sv ∧ (∀ e ∈ es, -1000000000000 < e.res ∧ e.res < 1000000000000) ∧ LedC n sv lv c ∧ Own B w0 w [ldB p c, enR lv es]

/-- append where a guard lets it be. -/
theorem wpList_append_want {P : Program} {w : World} {ops : Array Oper} {rest : List Oper} {o : Oper} {a : Act} {Q : Exit → Act → World → Prop} (hgd : Region.wanted o (yielded ops a.tmps) = true) (s x : Operand) (t : TypeId)
    (ho : o.op = .call { callee := .builtin .append, args := #[s, x], argTypes := #[t, t] })
    (e : TypeId) (i : TypeInfo) (z : Value) (size bytes : Nat) (ht : P.underlying t = some (.slice e)) (hi : P.info? e = some i) (hz : i.zero = some z)
    (hsize : i.size = size) (hby : i.bytes = bytes) (hzs : z.cells.size = size) (hsz : 0 < size)
    (v : Value) (n : Nat) (xs : List Value) (hs : a.eval s = v) (hown : w.ownsRow 0 e size v n xs)
    (ad : Addr) (c : Nat) (news : List Value) (hx : a.eval x = .slice (some ad) 1 c) (hl : news.length = 1 * size) (hnews : ∀ j u, news[j]? = some u → w.cell? (ad.add j) = some u) (h1 : ∀ u ∈ news, u.oneCell' = true)
    (h63 : n + 1 ≤ maxLen) (hbytes : (n + 1) * bytes ≤ 140737488355328)
    (h : ∀ g cap w', w'.ownsRow 0 e size (.slice (some ⟨g, 0, none⟩) (n + 1) cap) (n + 1) (xs ++ news) → w.grownBy w' v.ownBlock → (v.ownBlock = some g ∨ g = w.heap.size) → wpList P ops Q rest (a.put o.dst (.slice (some ⟨g, 0, none⟩) (n + 1) cap)) w') : wpList P ops Q (o :: rest) a w :=
  wpList_step fun _ hK => by
    rw [if_pos hgd]
    exact wp_append_lies w s x t ho 0 e i z size bytes ht hi hz hsize hby hzs hsz v n xs hs hown ad 1 c news hx hl hnews h1 (by decide) h63 hbytes (Nat.zero_le _) _ rfl fun g cap w' h2 h3 h4 _ => hK _ _ (h g cap w' h2 h3 h4)

theorem logs_two {w : World} {g : Nat} {v1 v2 : Value} {l1 l2 : List En} {T : TypeId} (h : w.heap[g]? = some (.cells #[v1, v2] T (0, 0))) (e1 : Ens w v1 l1) (e2 : Ens w v2 l2) : Logs w (.slice (some ⟨g, 0, none⟩) 2 2) [⟨v1, l1⟩, ⟨v2, l2⟩] :=
  ⟨⟨_, _, rfl, by simp, by unfold maxLen; simp, rfl, (fun e => by cases e), fun _ => ⟨g, 0, rfl, block_lt h, fun j hj => by rw [Nat.zero_add, block_cell h]; simp⟩⟩, fun x hx => by
    simp only [List.mem_cons, List.not_mem_nil, or_false] at hx
    rcases hx with rfl | rfl
    · exact e1
    · exact e2⟩
theorem logs_three {w : World} {g : Nat} {v1 v2 v3 : Value} {l1 l2 l3 : List En} {T : TypeId} (h : w.heap[g]? = some (.cells #[v1, v2, v3] T (0, 0))) (e1 : Ens w v1 l1) (e2 : Ens w v2 l2) (e3 : Ens w v3 l3) : Logs w (.slice (some ⟨g, 0, none⟩) 3 3) [⟨v1, l1⟩, ⟨v2, l2⟩, ⟨v3, l3⟩] :=
  ⟨⟨_, _, rfl, by simp, by unfold maxLen; simp, rfl, (fun e => by cases e), fun _ => ⟨g, 0, rfl, block_lt h, fun j hj => by rw [Nat.zero_add, block_cell h]; simp⟩⟩, fun x hx => by
    simp only [List.mem_cons, List.not_mem_nil, or_false] at hx
    rcases hx with rfl | rfl | rfl
    · exact e1
    · exact e2
    · exact e3⟩
theorem agree_two (a b : Lo) : agreeB ([a, b].map Lo.es) = prefB b.es a.es := by
  cases h : prefB b.es a.es with
  | false => exact agree_false (xs := [a, b]) (k := 1) (m := 0) (by simp) (by decide) h
  | true =>
    refine agree_true (xs := [a, b]) (fun i hi j hj => ?_)
    obtain ⟨rfl, rfl⟩ : i = 1 ∧ j = 0 := by simp at hi; omega
    exact h
theorem agree_three_no {a b c : Lo} (h : prefB c.es a.es = false) : agreeB ([a, b, c].map Lo.es) = false := agree_false (xs := [a, b, c]) (k := 2) (m := 0) (by simp) (by decide) h
theorem agree_three_yes {a b c : Lo} (h1 : prefB b.es a.es = true) (h2 : prefB c.es a.es = true) (h3 : prefB c.es b.es = true) : agreeB ([a, b, c].map Lo.es) = true :=
  agree_true (xs := [a, b, c]) (fun i hi j hj => by
    have h : (i = 1 ∧ j = 0) ∨ (i = 2 ∧ j = 0) ∨ (i = 2 ∧ j = 1) := by simp at hi; omega
    rcases h with ⟨rfl, rfl⟩ | ⟨rfl, rfl⟩ | ⟨rfl, rfl⟩
    · exact h1
    · exact h2
    · exact h3)

/-- Those issued so far. -/
def IsMk (B : Nat) (w0 : World) (l tl : List En) (I g0 g1 k : Nat) (v : Value) (w : World) : Prop :=
  ∃ a c, v = .slice a (others l I k).length c ∧ Own B w0 w [ownR 38 6 (.slice a (others l I k).length c) (others l I k).length (rqsCells (others l I k)), segR g1 40 (ensCells tl), segR g0 40 (ensCells l)]

set_option maxHeartbeats 8000000 in
set_option maxRecDepth 100000 in
theorem finds_any (v0 : Value) (xs : List Ba) {W : World} (h0 : Bats W v0 xs) (at_ : Int) :
    Calls Tryz.prog 3 #[v0, .int .i64 at_] W fun e w' => e = .returned (.bool true) ∧ Below W.heap.size W w' := by
  obtain ⟨ao, cap, hv, hcap, -⟩ := h0.1
  subst hv
  have H0 := Lib.hid h0
  clear h0 hcap
  go_enter Tryz.func3, Tryz.ntmps3
  go_upto_block 0 with fail
  have HB1 := Lib.hid (led_box (Own.row0 (E := 40) (sz := 7) (own_start W)) (3))
  have HMD : Hid (MdMk W.heap.size W W.heap.size (3) 0 (W.alloc (.cells (Tryz.zeroCells31.setIfInBounds 0 (.int .i64 3)) 31 (0, 0)))) := Lib.hid ⟨.slice none 0 0, c0 (3), [], Sv.new, by simp, rfl, rfl, by simp, LedC.new _, HB1.out⟩
  generalize W.alloc (.cells (Tryz.zeroCells31.setIfInBounds 0 (.int .i64 3)) 31 (0, 0)) = w1 at *
  clear HB1
  generalize hp : W.heap.size = p at *
  go_cut [] (fun wx => Hid (∃ k, k ≤ 8 ∧ MdMk p W p (3) k wx))
  case first =>
    go_wp2_with fail
    go_loopw [6] (fun j wr => ∃ k : Nat, k ≤ xs.length ∧ k ≤ 8 ∧ j = .int .i64 k ∧ Hid (MdMk p W p (3) k wr)) (fun j _ => 8 - (intOf j).toNat)
    case atStart => exact ⟨0, by omega, by omega, rfl, HMD⟩
    case round =>
      clear HMD
      obtain ⟨k, hk, hk6, rfl, HM⟩ := hrel
      by_cases hlt : k < xs.length
      · have hkI : (k : Int) < (xs.length : Int) := by omega
        by_cases hl6 : k < 8
        · have h6I : (k : Int) < 8 := by omega
          have hk0 : (0 : Int) ≤ (k : Int) := by omega
          obtain ⟨lv, c, es, sv, hel, hfo, hbe, hre, hc, ho⟩ := HM.out
          obtain ⟨ab, nb, cb, hxv, hn1⟩ := bat_form' (H0.out.2 xs[k] (List.getElem_mem hlt))
          obtain ⟨M, hmin, hMc, hbt, hbl⟩ := bat_min (by rw [← hxv]; exact H0.out.2 xs[k] (List.getElem_mem hlt)) 5
          obtain ⟨b, o, rfl, hbW, hcs⟩ := bats_cell H0.out.1 k hlt
          have q0 := hcs k hlt
          rw [hxv] at q0
          have q0 : wr.drew.cell? ⟨b, o + k, none⟩ = some (.slice ab nb cb) := (World.cell?_of_block (ho.drew.below.block b (hp ▸ hbW))).trans q0
          have hmin : min (nb : Int) 5 = (M : Int) := hmin
          have hMc : (M : Int) ≤ (cb : Int) := by omega
          have hM0 : (0 : Int) ≤ (M : Int) := by omega
          have hbt2 : Bat wr.drew (.slice ab M cb) (xs[k].rs.take 5) := hbt.upd (M := []) (Upd.of_below (by rw [hp]; exact ho.below)).drew (by simp)
          have h3 := own_bat ho.drew hbt2 (fun j hj => .inl (hp ▸ Reads.lies_lt hbt j hj))
          have HRR := Lib.hid (rrun_any (ss := []) (h3.perm (List.perm_append_comm (l₁ := [_]) (l₂ := [_, _]))) hc (by decide) (by omega) (by omega))
          have HNX : Hid (∀ (e : Ending) (w : World), RunOk p W [] p (3) sv es (.slice ab M cb) (xs[k].rs.take 5) e w → MdMk p W p (3) (k + 1) w) := Lib.hid (fun e w hr => by
            obtain ⟨vo, c', lv', -, hc', ho'⟩ := hr
            obtain ⟨r1, r2, r3⟩ := run_ok (n := 3) (xs[k].rs.take 5) hc.ok
            obtain ⟨f1, f2⟩ := follows_run (3) sv (xs[k].rs.take 5)
            refine ⟨lv', c', _, _, by rw [List.length_append]; omega, by rw [follows_append, hfo, hbe, f1]; rfl, by rw [behind_append, hbe, f2], fun e he => ?_, hc', (ho'.dropAt 2 (by simp)).dropAt 2 (by simp)⟩
            rcases List.mem_append.1 he with he | he
            · exact hre e he
            · exact r2 e he)
          clear HM hel hfo hbe hre hc ho hxv hn1 hbt hbl hcs hbt2 h3
          generalize xs[k].rs.take 5 = bs at *
          go_upto_region 5 with fail
          refine Mix.wp_text2 (by kernel_rfl) (by kernel_rfl) ?_
          generalize wr.drew = wd at *
          go_wp2_with fail
          refine HRR.out.mono ?_
          intro e w5 hr
          have HZ := Lib.hid (HNX.out e w5 hr)
          obtain ⟨vo, c', lv', rfl, -, -⟩ := hr
          clear HRR HNX q0 hbW
          go_wp2_with fail
          refine ⟨by rfl, ?_⟩
          go_wp2_with fail
          go_roundw
          case rel => exact ⟨k + 1, by omega, by omega, by go_num, HZ⟩
          case measure => simp [intOf]; omega
        · have h6 : k = 8 := by omega
          subst h6
          go_wp2_with fail
          go_meet
          exact Lib.hid ⟨_, Nat.le_refl _, HM.out⟩
      · have hkl : k = xs.length := by omega
        subst hkl
        have hkI : decide ((xs.length : Int) < (xs.length : Int)) = false := by simp
        go_wp2_with fail
        go_meet
        exact Lib.hid ⟨_, hk6, HM.out⟩
  case rest =>
    obtain ⟨k, hk, lv, c, l, sv, hel, hfo, -, hre, hc, ho⟩ := hcut
    obtain ⟨-, hcell, -⟩ := funB_at (ho.get 0 rfl)
    have x137 := hcell 137 (by omega)
    rw [hc.l] at x137
    have hln : l.length ≤ 100 := by omega
    have HCP := Lib.hid (copy_any lv l (by omega) (own_ens (v := lv) (E := 40) (l := l) ho 1 rfl) ho)
    have HON := Lib.hid (follows_above 3 Sv.new l hfo).2.2.2
    have HRE := Lib.hid hre
    clear hel hfo hre hc ho hcell hk
    go_wp2_with fail
    refine HCP.out.mono ?_
    rintro e w2 ⟨a2, c2, rfl, -, h2⟩
    have h3 := (h2.dropAt 1 (by simp)).dropAt 1 (by simp)
    have H3 := Lib.hid h3
    clear x137 HCP h2 h3
    by_cases hz : l.length = 0
    · have hzI : ((l.length : Int) == 0) = true := by simp [hz]
      clear hz
      go_wp2_with fail
      refine (wakes26_any _).mono ?_
      rintro e w8 ⟨rfl, hb8⟩
      go_wp2_with fail
      go_ret
      exact ⟨rfl, by rw [hp]; exact H3.out.below.trans (hb8.mono H3.out.size)⟩
    have hzI : ((l.length : Int) == 0) = false := by simp; exact fun e => hz (by simp [e])
    have hn0 : 0 < l.length := by omega
    clear hz
    obtain ⟨g0, rfl, hc1, hc2, h4⟩ := own_rowSeg H3.out hn0
    have H4 := Lib.hid h4
    have HCA := Lib.hid (And.intro hc1 hc2)
    obtain ⟨I, hI0, hI1⟩ := nat_in' at_ (l.length : Int) (by omega)
    have HI0 := Lib.hid hI0
    have hI : I < l.length := by omega
    have hII : (I : Int) < (l.length : Int) := by omega
    have hI9 : (0 : Int) ≤ (I : Int) := by omega
    have HCP := Lib.hid (copy_any (.slice (some ⟨g0, 0, none⟩) l.length c2) l (by omega) (own_ensSeg h4 0 rfl hc1 hc2) h4)
    clear h4 hc1 hc2 hI0 hI1 H3
    go_wp2_with fail
    refine (Within_any _ _ _ (by omega) (by omega)).mono ?_
    rintro e w3 ⟨rfl, rfl⟩
    rw [HI0.out]
    go_wp2_with fail
    refine HCP.out.mono ?_
    rintro e w3 ⟨a3, c3, rfl, -, h5⟩
    obtain ⟨g1, rfl, hc3, hc4, h6⟩ := own_rowSeg h5 hn0
    have HCB := Lib.hid (And.intro hc3 hc4)
    have hrI := HRE.out l[I] (List.getElem_mem hI)
    obtain ⟨u0, u1, u2⟩ := segR_at h6.head
    have y6 : w3.cell? ⟨g1, I * 7 + 6, none⟩ = some (.int .i64 l[I].res) := by
      rw [u1 (I * 7 + 6) (by rw [ens_len]; omega), flat_get (cells := enCells) (sz := 7) (fun _ => rfl) l I 6 l[I] (by simp) (by omega)]; rfl
    have z6 := u2 (I * 7 + 6)
    have hw7 : IntKind.i64.wrap (l[I].res + 7) = l[I].res + 7 := IntWalk.i64_in _ (by omega)
    have h7 := h6.put (I * 7 + 6) (.int .i64 (l[I].res + 7))
    rw [flat_set (cells := enCells) (sz := 7) (fun _ => rfl) l I 6 l[I] ⟨l[I].rq, l[I].res + 7⟩ _ (by simp) (by omega) rfl, ← turned_set hI] at h7
    have H7 := Lib.hid h7
    have HT := Lib.hid (show (⟨l[I].rq, l[I].res + 7⟩ : En) ≠ l[I] from fun e => by have := congrArg En.res e; simp only at this; omega)
    have HTL := Lib.hid (turned_len hI (⟨l[I].rq, l[I].res + 7⟩ : En))
    have HTT := Lib.hid (turned_take l I (⟨l[I].rq, l[I].res + 7⟩ : En) hI)
    have HTP := Lib.hid (pref_turned hI HT.out)
    have HTK := Lib.hid (kept_turned HON.out hI (e := (⟨l[I].rq, l[I].res + 7⟩ : En)) rfl HT.out)
    have HTS := Lib.hid (kept_short HON.out hI (e := (⟨l[I].rq, l[I].res + 7⟩ : En)) rfl)
    clear h5 h6 h7 u0 u1 u2 HCP HI0 H4 hc3 hc4 hrI HRE HT
    generalize l[I].res = rI at *
    generalize turned l I ⟨l[I].rq, rI + 7⟩ = tl at *
    go_wp2_with fail
    clear y6 z6 hw7
    generalize w3.setCell _ _ = w4 at *
    obtain ⟨i1, hj, hj0, hj1, hj2⟩ := info_parts Tryz.infoRq
    have HS : Hid (IsMk p W l tl I g0 g1 0 (.slice none 0 0) w4) := Lib.hid ⟨none, 0, rfl, H7.out.row0⟩
    clear H7
    go_loopw [10, 62] (fun v j wr => ∃ k : Nat, k ≤ l.length ∧ j = .int .i64 k ∧ Hid (IsMk p W l tl I g0 g1 k v wr)) (fun _ j _ => l.length - (intOf j).toNat)
    case atStart => exact ⟨0, by omega, rfl, HS⟩
    case round =>
      clear HS
      obtain ⟨k, hk, rfl, HM⟩ := hrel
      obtain ⟨a, cq, rfl, ho⟩ := HM.out
      have HO := Lib.hid ho
      have hol := others_len l I k
      clear ho HM
      by_cases hlt : k < l.length
      · have hkI : (k : Int) < (l.length : Int) := by omega
        have hk0 : (0 : Int) ≤ (k : Int) := by omega
        by_cases hki : k = I
        · subst hki
          have hne : ((k : Int) != (k : Int)) = false := by simp
          have HZ : Hid (IsMk p W l tl k g0 g1 (k + 1) (.slice a (others l k k).length cq) wr) := Lib.hid (by
            have e : others l k (k + 1) = others l k k := by simp [others]
            exact ⟨a, cq, by rw [e], by rw [e]; exact HO.out⟩)
          generalize (others l k k).length = m at *
          go_wp2_with fail
          go_roundw
          case rel => exact ⟨k + 1, by omega, by go_num, HZ⟩
          case measure => simp [intOf]; omega
        · have hne : ((k : Int) != (I : Int)) = true := by simp; omega
          have HNX : Hid (others l I (k + 1) = others l I k ++ [l[k].rq]) := Lib.hid (by simp [others, hki, hlt])
          obtain ⟨u0, u1, -⟩ := segR_at (HO.out.get 2 rfl)
          obtain ⟨q0, q1, q2, q3, q4, q5, -⟩ := ens_cells (o := 0) (fun j hj => by rw [Nat.zero_add]; exact u1 j (by rw [ens_len]; exact hj)) k l[k] (by simp)
          rw [Nat.zero_add] at q0 q1 q2 q3 q4 q5
          have HMX := Lib.hid (small_max (k := (others l I k).length) (by omega))
          have HM48 : Hid (((others l I k).length + 1) * 48 ≤ 140737488355328) := Lib.hid (by omega)
          have hd := HO.out.alloc (rqBox l[k].rq)
          have HD := Lib.hid hd
          have HW := Lib.hid (ownR_owns (hd.get 0 rfl))
          have HNW : Hid (∀ j u, (rqCells l[k].rq)[j]? = some u → (wr.alloc (rqBox l[k].rq)).cell? ((⟨wr.heap.size, 0, none⟩ : Addr).add j) = some u) := Lib.hid (World.news_of_block (heap_alloc_new wr (rqBox l[k].rq)))
          have HONE : Hid (∀ u ∈ rqCells l[k].rq, u.oneCell' = true) := Lib.hid (fun u hu => rqsCells_one [l[k].rq] u (by simpa [rqsCells] using hu))
          clear hd u0 u1 hki
          generalize l[k].rq = r at *
          generalize others l I k = ot at *
          go_wp2_with (at_builtin; refine wpList_append_lies _ rfl (.tmp 68) (.tmp 74) 33 rfl 0 38 i1 (.agg #[.int .i64 0, .int .i64 0, .int .i64 0, .int .i64 0, .int .i64 0, .int .i64 0]) 6 48 Tryz.underlying33 hj hj0 hj1 hj2 rfl (by decide) _ ot.length _ rfl HW.out ⟨wr.heap.size, 0, none⟩ 1 1 (rqCells r) rfl rfl HNW.out HONE.out (by decide) HMX.out HM48.out (Nat.zero_le _) _ rfl ?_)
          intro g9 cap9 w9 hown hgrow hat hlt9
          have h6 := HD.out.growAt 0 rfl hgrow (by simpa using hat) hown
          have HZ : Hid (IsMk p W l tl I g0 g1 (k + 1) (.slice (some ⟨g9, 0, none⟩) (ot.length + 1) cap9) w9) := Lib.hid ⟨some ⟨g9, 0, none⟩, cap9, by rw [HNX.out]; simp, by
            rw [HNX.out]
            have e1 : rqsCells (ot ++ [r]) = rqsCells ot ++ rqCells r := by simp [rqsCells]
            have e2 : (ot ++ [r]).length = ot.length + 1 := by simp
            rw [e1, e2]
            exact h6⟩
          clear hown hgrow hat hlt9 h6 HD HW HNW HONE HMX HM48 HNX q0 q1 q2 q3 q4 q5 HO
          go_wp2_with fail
          go_roundw
          case rel => exact ⟨k + 1, by omega, by go_num, HZ⟩
          case measure => simp [intOf]; omega
      · have hkl : k = l.length := by omega
        subst hkl
        have hlI : decide ((l.length : Int) < (l.length : Int)) = false := by simp
        have HGV := Lib.hid (finds_given HON.out hI)
        generalize others l I l.length = ot at *
        have eA := own_ensSeg (cap := c2) (l := l) HO.out 2 rfl HCA.out.1 HCA.out.2
        have eB := own_ensSeg (cap := c3) (l := tl) HO.out 1 rfl (by rw [HTL.out]; exact HCB.out.1) HCB.out.2
        have eAI := ens_take eA I (by omega)
        have eBI := ens_take eB I (by rw [HTL.out]; omega)
        rw [HTT.out] at eBI
        rw [HTL.out] at eB
        have eO : Bat wr (.slice a ot.length cq) ot := owns_reads (ownR_owns (HO.out.get 0 rfl))
        have hlT : tl.length ≤ 100 := by rw [HTL.out]; exact hln
        have hlI2 : (l.take I).length ≤ 100 := by rw [List.length_take]; omega
        have hgt := HGV.out
        obtain ⟨hgv1, hgv2⟩ := hgt
        have C1 : Hid (∀ wx, Upd [] wr wx → Calls Tryz.prog 11 #[.slice (some ⟨wx.heap.size, 0, none⟩) 2 2] (wx.alloc (.cells #[.slice (some ⟨g0, 0, none⟩) l.length c2, .slice (some ⟨g1, 0, none⟩) l.length c3] 29 (0, 0))) fun e w' => e = .returned (.bool false) ∧ Upd [] wr w') := Lib.hid (fun wx hx => by
          have ha : Upd [] wr (wx.alloc (.cells #[.slice (some ⟨g0, 0, none⟩) l.length c2, .slice (some ⟨g1, 0, none⟩) l.length c3] 29 (0, 0))) := hx.alloc _
          refine (agree_any _ _ _ (by simp) (fun x hx => ?_) (logs_two (heap_alloc_new _ _) (eA.upd ha (by simp)) (eB.upd ha (by simp)))).mono (fun e w' ⟨q1, q2⟩ => ⟨?_, ha.trans q2⟩)
          · simp only [List.mem_cons, List.not_mem_nil, or_false] at hx; rcases hx with rfl | rfl <;> simp only <;> omega
          · rw [q1]; exact ret_bool ((agree_two _ _).trans (by rw [prefB_comm]; exact HTP.out)))
        have C2 : Hid (∀ wx, Upd [] wr wx → Calls Tryz.prog 11 #[.slice (some ⟨wx.heap.size, 0, none⟩) 3 3] (wx.alloc (.cells #[.slice (some ⟨g0, 0, none⟩) l.length c2, .slice none 0 0, .slice (some ⟨g1, 0, none⟩) l.length c3] 29 (0, 0))) fun e w' => e = .returned (.bool false) ∧ Upd [] wr w') := Lib.hid (fun wx hx => by
          have ha : Upd [] wr (wx.alloc (.cells #[.slice (some ⟨g0, 0, none⟩) l.length c2, .slice none 0 0, .slice (some ⟨g1, 0, none⟩) l.length c3] 29 (0, 0))) := hx.alloc _
          refine (agree_any _ _ _ (by simp) (fun x hx => ?_) (logs_three (heap_alloc_new _ _) (eA.upd ha (by simp)) (show Ens _ (.slice none 0 0) [] from Reads.nil _ _) (eB.upd ha (by simp)))).mono (fun e w' ⟨q1, q2⟩ => ⟨?_, ha.trans q2⟩)
          · simp only [List.mem_cons, List.not_mem_nil, or_false] at hx; rcases hx with rfl | rfl | rfl <;> simp only [List.length_nil] <;> omega
          · rw [q1]; exact ret_bool (agree_three_no (by rw [prefB_comm]; exact HTP.out)))
        have C3 : Hid (∀ wx, Upd [] wr wx → Calls Tryz.prog 11 #[.slice (some ⟨wx.heap.size, 0, none⟩) 2 2] (wx.alloc (.cells #[.slice (some ⟨g0, 0, none⟩) l.length c2, .slice (some ⟨g1, 0, none⟩) I c3] 29 (0, 0))) fun e w' => e = .returned (.bool true) ∧ Upd [] wr w') := Lib.hid (fun wx hx => by
          have ha : Upd [] wr (wx.alloc (.cells #[.slice (some ⟨g0, 0, none⟩) l.length c2, .slice (some ⟨g1, 0, none⟩) I c3] 29 (0, 0))) := hx.alloc _
          refine (agree_any _ _ _ (by simp) (fun x hx => ?_) (logs_two (heap_alloc_new _ _) (eA.upd ha (by simp)) (eBI.upd ha (by simp)))).mono (fun e w' ⟨q1, q2⟩ => ⟨?_, ha.trans q2⟩)
          · simp only [List.mem_cons, List.not_mem_nil, or_false] at hx; rcases hx with rfl | rfl <;> simp only <;> omega
          · rw [q1]; exact ret_bool ((agree_two _ _).trans (by rw [prefB_comm]; exact prefB_take _ _)))
        have C4 : Hid (∀ wx, Upd [] wr wx → Calls Tryz.prog 12 #[.slice (some ⟨g0, 0, none⟩) l.length c2, .slice (some ⟨g1, 0, none⟩) l.length c3] wx fun e w' => e = .returned (.bool false) ∧ Upd [] wr w') := Lib.hid (fun wx hx => (kept_any _ _ _ _ wx (by omega) (by omega) (eA.upd hx (by simp)) (eB.upd hx (by simp))).mono (fun e w' ⟨q1, q2⟩ => ⟨by rw [q1, HTK.out], hx.trans q2⟩))
        have C5 : Hid (∀ wx, Upd [] wr wx → Calls Tryz.prog 12 #[.slice (some ⟨g0, 0, none⟩) l.length c2, .slice (some ⟨g1, 0, none⟩) I c3] wx fun e w' => e = .returned (.bool true) ∧ Upd [] wr w') := Lib.hid (fun wx hx => (kept_any _ _ _ _ wx (by omega) (by omega) (eA.upd hx (by simp)) (eBI.upd hx (by simp))).mono (fun e w' ⟨q1, q2⟩ => ⟨by rw [q1, kept_take HON.out I], hx.trans q2⟩))
        have C6 : Hid (∀ wx, Upd [] wr wx → Calls Tryz.prog 12 #[.slice (some ⟨g0, 0, none⟩) I c2, .slice (some ⟨g1, 0, none⟩) l.length c3] wx fun e w' => e = .returned (.bool true) ∧ Upd [] wr w') := Lib.hid (fun wx hx => (kept_any _ _ _ _ wx (by omega) (by omega) (eAI.upd hx (by simp)) (eB.upd hx (by simp))).mono (fun e w' ⟨q1, q2⟩ => ⟨by rw [q1, HTS.out], hx.trans q2⟩))
        have C7 : Hid (∀ wx, Upd [] wr wx → Calls Tryz.prog 13 #[.slice (some ⟨g0, 0, none⟩) l.length c2, .int .i64 l[I].rq.client, .slice a ot.length cq] wx fun e w' => e = .returned (.bool false) ∧ Upd [] wr w') := Lib.hid (fun wx hx => (given_any _ l l[I].rq.client _ ot wx (by omega) (by omega) (eA.upd hx (by simp)) (eO.upd hx (by simp))).mono (fun e w' ⟨q1, q2⟩ => ⟨by rw [q1, hgv1], hx.trans q2⟩))
        have HQ : Hid (∀ wx, Upd [] wr wx → wx.cell? ⟨g0, I * 7, none⟩ = some (.int .i64 l[I].rq.client) ∧ wx.cell? ⟨g0, I * 7 + 1, none⟩ = some (.int .i64 l[I].rq.time) ∧ wx.cell? ⟨g0, I * 7 + 2, none⟩ = some (.int .i64 l[I].rq.kind) ∧ wx.cell? ⟨g0, I * 7 + 3, none⟩ = some (.int .i64 l[I].rq.key) ∧ wx.cell? ⟨g0, I * 7 + 4, none⟩ = some (.int .i64 l[I].rq.val) ∧ wx.cell? ⟨g0, I * 7 + 5, none⟩ = some (.int .i64 l[I].rq.sl)) := Lib.hid (fun wx hx => by
          obtain ⟨u0, u1, -⟩ := segR_at ((HO.out.upd0 hx).get 2 rfl)
          obtain ⟨q0, q1, q2, q3, q4, q5, -⟩ := ens_cells (o := 0) (fun j hj => by rw [Nat.zero_add]; exact u1 j (by rw [ens_len]; exact hj)) I l[I] (by simp)
          rw [Nat.zero_add] at q0 q1 q2 q3 q4 q5
          exact ⟨q0, q1, q2, q3, q4, q5⟩)
        have HMX := Lib.hid (small_max (k := ot.length) (by omega))
        have HM48 : Hid ((ot.length + 1) * 48 ≤ 140737488355328) := Lib.hid (by omega)
        have HG2 := Lib.hid hgv2
        clear eA eB eAI eBI eO hlT hlI2 hgv1 hgv2 HGV HTL HTT HTP HTK HTS
        obtain ⟨r, hr⟩ : ∃ r, l[I].rq = r := ⟨_, rfl⟩
        have HRI := Lib.hid hr
        rw [hr] at C7 HQ HG2
        clear hr
        have hIc2 : (I : Int) ≤ (c2 : Int) := by have := HCA.out.1; omega
        have hIc3 : (I : Int) ≤ (c3 : Int) := by have := HCB.out.1; omega
        go_upto_region 19 with fail
        have hu := (Upd.refl [] wr).drew
        refine Held.wp_held [(g0, I * 7, [.int .i64 r.client]), (g0, I * 7, [.int .i64 r.client, .int .i64 r.time, .int .i64 r.kind, .int .i64 r.key, .int .i64 r.val, .int .i64 r.sl])] [(59, 0), (65, 1)] [71] [(4, true), (6, true), (9, true), (5, true), (8, true), (7, true), (11, true), (18, true), (1, true)] (by kernel_rfl) (by kernel_rfl) ⟨⟨(HQ.out _ hu).1, trivial⟩, ⟨(HQ.out _ hu).1, (HQ.out _ hu).2.1, (HQ.out _ hu).2.2.1, (HQ.out _ hu).2.2.2.1, (HQ.out _ hu).2.2.2.2.1, (HQ.out _ hu).2.2.2.2.2, trivial⟩, trivial⟩ ?_
        simp only [Held.cutAt, Held.walk]
        go_wp2_with fail
        refine (C1.out _ hu).mono ?_
        rintro e wa ⟨rfl, hu⟩
        go_wp2_with fail
        refine ⟨⟨⟨(HQ.out _ hu).1, trivial⟩, ⟨(HQ.out _ hu).1, (HQ.out _ hu).2.1, (HQ.out _ hu).2.2.1, (HQ.out _ hu).2.2.2.1, (HQ.out _ hu).2.2.2.2.1, (HQ.out _ hu).2.2.2.2.2, trivial⟩, trivial⟩, ?_⟩
        go_wp2_with fail
        refine (C2.out _ hu).mono ?_
        rintro e wb ⟨rfl, hu⟩
        go_wp2_with fail
        refine ⟨⟨⟨(HQ.out _ hu).1, trivial⟩, ⟨(HQ.out _ hu).1, (HQ.out _ hu).2.1, (HQ.out _ hu).2.2.1, (HQ.out _ hu).2.2.2.1, (HQ.out _ hu).2.2.2.2.1, (HQ.out _ hu).2.2.2.2.2, trivial⟩, trivial⟩, ?_⟩
        go_wp2_with fail
        refine (C3.out _ hu).mono ?_
        rintro e wd ⟨rfl, hu⟩
        go_wp2_with fail
        refine ⟨⟨⟨(HQ.out _ hu).1, trivial⟩, ⟨(HQ.out _ hu).1, (HQ.out _ hu).2.1, (HQ.out _ hu).2.2.1, (HQ.out _ hu).2.2.2.1, (HQ.out _ hu).2.2.2.2.1, (HQ.out _ hu).2.2.2.2.2, trivial⟩, trivial⟩, ?_⟩
        go_wp2_with fail
        refine (C4.out _ hu).mono ?_
        rintro e wf ⟨rfl, hu⟩
        go_wp2_with fail
        refine ⟨⟨⟨(HQ.out _ hu).1, trivial⟩, ⟨(HQ.out _ hu).1, (HQ.out _ hu).2.1, (HQ.out _ hu).2.2.1, (HQ.out _ hu).2.2.2.1, (HQ.out _ hu).2.2.2.2.1, (HQ.out _ hu).2.2.2.2.2, trivial⟩, trivial⟩, ?_⟩
        go_wp2_with fail
        refine (C5.out _ hu).mono ?_
        rintro e wg ⟨rfl, hu⟩
        go_wp2_with fail
        refine ⟨⟨⟨(HQ.out _ hu).1, trivial⟩, ⟨(HQ.out _ hu).1, (HQ.out _ hu).2.1, (HQ.out _ hu).2.2.1, (HQ.out _ hu).2.2.2.1, (HQ.out _ hu).2.2.2.2.1, (HQ.out _ hu).2.2.2.2.2, trivial⟩, trivial⟩, ?_⟩
        go_wp2_with fail
        refine (C6.out _ hu).mono ?_
        rintro e wh ⟨rfl, hu⟩
        go_wp2_with fail
        refine ⟨⟨⟨(HQ.out _ hu).1, trivial⟩, ⟨(HQ.out _ hu).1, (HQ.out _ hu).2.1, (HQ.out _ hu).2.2.1, (HQ.out _ hu).2.2.2.1, (HQ.out _ hu).2.2.2.2.1, (HQ.out _ hu).2.2.2.2.2, trivial⟩, trivial⟩, ?_⟩
        obtain ⟨t0, t1, t2, t3, t4, t5⟩ := HQ.out _ hu
        go_wp2_with fail
        refine (C7.out _ hu).mono ?_
        rintro e wi ⟨rfl, hu⟩
        go_wp2_with fail
        refine ⟨⟨⟨(HQ.out _ hu).1, trivial⟩, ⟨(HQ.out _ hu).1, (HQ.out _ hu).2.1, (HQ.out _ hu).2.2.1, (HQ.out _ hu).2.2.2.1, (HQ.out _ hu).2.2.2.2.1, (HQ.out _ hu).2.2.2.2.2, trivial⟩, trivial⟩, ?_⟩
        clear t0 t1 t2 t3 t4 t5
        obtain ⟨t0, t1, t2, t3, t4, t5⟩ := HQ.out _ hu
        have H9 := Lib.hid (HO.out.upd0 hu)
        have hd := H9.out.alloc (rqBox r)
        have HD := Lib.hid hd
        have HW := Lib.hid (ownR_owns (hd.get 0 rfl))
        have HNW : Hid (∀ j u, (rqCells r)[j]? = some u → (wi.alloc (rqBox r)).cell? ((⟨wi.heap.size, 0, none⟩ : Addr).add j) = some u) := Lib.hid (World.news_of_block (heap_alloc_new wi (rqBox r)))
        have HONE : Hid (∀ u ∈ rqCells r, u.oneCell' = true) := Lib.hid (fun u hu => rqsCells_one [r] u (by simpa [rqsCells] using hu))
        clear hd hu C1 C2 C3 C4 C5 C6 C7 HO
        go_wp2_with (at_builtin; refine wpList_append_want (by rfl) (.tmp 137) (.tmp 143) 33 rfl 38 i1 (.agg #[.int .i64 0, .int .i64 0, .int .i64 0, .int .i64 0, .int .i64 0, .int .i64 0]) 6 48 Tryz.underlying33 hj hj0 hj1 hj2 rfl (by decide) _ ot.length _ rfl HW.out ⟨wi.heap.size, 0, none⟩ 1 (rqCells r) rfl rfl HNW.out HONE.out HMX.out HM48.out ?_)
        intro g9 cap9 w9 hown hgrow hat
        have h6 := HD.out.growAt 0 rfl hgrow (by simpa using hat) hown
        have e1 : rqsCells (ot ++ [r]) = rqsCells ot ++ rqCells r := by simp [rqsCells]
        have e2 : (ot ++ [r]).length = ot.length + 1 := by simp
        have h6 : Own p W w9 [ownR 38 6 (.slice (some ⟨g9, 0, none⟩) (ot ++ [r]).length cap9) (ot ++ [r]).length (rqsCells (ot ++ [r])), segR g1 40 (ensCells tl), segR g0 40 (ensCells l)] := by rw [e1, e2]; exact h6
        have bO : Bat w9 (.slice (some ⟨g9, 0, none⟩) (ot.length + 1) cap9) (ot ++ [r]) := by rw [← e2]; exact owns_reads (ownR_owns (h6.get 0 rfl))
        have C8 := Lib.hid (given_any _ l r.client _ (ot ++ [r]) w9 (by omega) (by rw [e2]; omega) (own_ensSeg (cap := c2) (l := l) h6 2 rfl HCA.out.1 HCA.out.2) bO)
        have HQ : Hid (∀ wx, Upd [] w9 wx → wx.cell? ⟨g0, I * 7, none⟩ = some (.int .i64 r.client) ∧ wx.cell? ⟨g0, I * 7 + 1, none⟩ = some (.int .i64 r.time) ∧ wx.cell? ⟨g0, I * 7 + 2, none⟩ = some (.int .i64 r.kind) ∧ wx.cell? ⟨g0, I * 7 + 3, none⟩ = some (.int .i64 r.key) ∧ wx.cell? ⟨g0, I * 7 + 4, none⟩ = some (.int .i64 r.val) ∧ wx.cell? ⟨g0, I * 7 + 5, none⟩ = some (.int .i64 r.sl)) := Lib.hid (fun wx hx => by
          obtain ⟨u0, u1, -⟩ := segR_at ((h6.upd0 hx).get 2 rfl)
          obtain ⟨q0, q1, q2, q3, q4, q5, -⟩ := ens_cells (o := 0) (fun j hj => by rw [Nat.zero_add]; exact u1 j (by rw [ens_len]; exact hj)) I l[I] (by simp)
          rw [Nat.zero_add, HRI.out] at q0 q1 q2 q3 q4 q5
          exact ⟨q0, q1, q2, q3, q4, q5⟩)
        have H10 := Lib.hid h6
        clear hown hgrow hat h6 HD HW HNW HONE HMX HM48 e1 e2 bO t0 t1 t2 t3 t4 t5 H9
        have hu := Upd.refl [] w9
        go_wp2_with fail
        refine ⟨⟨⟨(HQ.out _ hu).1, trivial⟩, ⟨(HQ.out _ hu).1, (HQ.out _ hu).2.1, (HQ.out _ hu).2.2.1, (HQ.out _ hu).2.2.2.1, (HQ.out _ hu).2.2.2.2.1, (HQ.out _ hu).2.2.2.2.2, trivial⟩, trivial⟩, ?_⟩
        go_wp2_with fail
        refine C8.out.mono ?_
        rintro e w10 ⟨rfl, hu⟩
        rw [HG2.out]
        have H11 := Lib.hid (H10.out.upd0 hu)
        go_wp2_with fail
        refine ⟨⟨⟨(HQ.out _ hu).1, trivial⟩, ⟨(HQ.out _ hu).1, (HQ.out _ hu).2.1, (HQ.out _ hu).2.2.1, (HQ.out _ hu).2.2.2.1, (HQ.out _ hu).2.2.2.2.1, (HQ.out _ hu).2.2.2.2.2, trivial⟩, trivial⟩, ?_⟩
        clear hu
        go_wp2_with fail
        refine (wakes26_any _).mono ?_
        rintro e w8 ⟨rfl, hb8⟩
        go_wp2_with fail
        refine ⟨trivial, by rfl, ⟨⟨rfl, .inl ⟨by kernel_rfl, rfl⟩⟩, ⟨rfl, .inr ⟨by kernel_rfl, by kernel_rfl⟩⟩, trivial⟩, ?_⟩
        go_wp2_with fail
        go_ret
        exact ⟨rfl, by rw [hp]; exact H11.out.below.trans (hb8.mono H11.out.size)⟩

end Go.Proofs.YtimdphlolmbhnaaGreat
