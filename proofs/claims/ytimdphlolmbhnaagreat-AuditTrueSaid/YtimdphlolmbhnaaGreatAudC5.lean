/- Parts of the proof, one behind the other. -/
import Derived.Test.YtimdphlolmbhnaaGreatAudC4

/- The law AuditTrue, walked. -/
namespace Go.Proofs.YtimdphlolmbhnaaGreat
open Go.RowKit Go.Heap

set_option maxHeartbeats 8000000 in
set_option maxRecDepth 100000 in
theorem true_any (v0 : Value) (xs : List Ba) {W : World} (h0 : Bats W v0 xs) (cl at_ tn : Int) :
    Calls Tryz.prog 6 #[v0, .int .i64 cl, .int .i64 at_, .int .i64 tn] W fun e w' => e = .returned (.bool true) ∧ Below W.heap.size W w' := by
  obtain ⟨N0, hN0, hN1⟩ := nat_in' cl 4 (by decide)
  obtain ⟨N, hN⟩ : ∃ N, N = 1 + N0 := ⟨_, rfl⟩
  have HN0 := Lib.hid hN0
  have HN : Hid ((1 : Int) + (N0 : Int) = (N : Int)) := Lib.hid (by omega)
  have hNa : 1 ≤ N := by omega
  have hNb : N ≤ 4 := by omega
  have hn8 : (N0 : Int) < 8 := by omega
  obtain ⟨ao, cap, hv, hcap, -⟩ := h0.1
  subst hv
  have H0 := Lib.hid h0
  clear h0 hcap hN0 hN1 hN
  go_enter Tryz.func6, Tryz.ntmps6
  go_wp2_with fail
  refine (Within_any _ _ _ (by decide) (by decide)).mono ?_
  rintro e w1 ⟨rfl, rfl⟩
  rw [HN0.out]
  go_upto_region 2 with fail
  rw [HN.out]
  clear hn8
  go_upto_block 0 with fail
  have HB1 := Lib.hid (led_box (Own.row0 (E := 40) (sz := 7) (own_start W)) ((N : Int)))
  have HMD : Hid (MdMk W.heap.size W W.heap.size ((N : Int)) 0 (W.alloc (.cells (Tryz.zeroCells31.setIfInBounds 0 (.int .i64 (N : Int))) 31 (0, 0)))) := Lib.hid ⟨.slice none 0 0, c0 ((N : Int)), [], Sv.new, by simp, rfl, rfl, by simp, LedC.new _, HB1.out⟩
  generalize W.alloc (.cells (Tryz.zeroCells31.setIfInBounds 0 (.int .i64 (N : Int))) 31 (0, 0)) = w1 at *
  clear HB1
  generalize hp : W.heap.size = p at *
  go_cut [] (fun wx => Hid (∃ k, k ≤ 10 ∧ MdMk p W p ((N : Int)) k wx))
  case first =>
    go_wp2_with fail
    go_loopw [10] (fun j wr => ∃ k : Nat, k ≤ xs.length ∧ k ≤ 10 ∧ j = .int .i64 k ∧ Hid (MdMk p W p ((N : Int)) k wr)) (fun j _ => 10 - (intOf j).toNat)
    case atStart => exact ⟨0, by omega, by omega, rfl, HMD⟩
    case round =>
      clear HMD
      obtain ⟨k, hk, hk6, rfl, HM⟩ := hrel
      by_cases hlt : k < xs.length
      · have hkI : (k : Int) < (xs.length : Int) := by omega
        by_cases hl6 : k < 10
        · have h6I : (k : Int) < 10 := by omega
          have hk0 : (0 : Int) ≤ (k : Int) := by omega
          obtain ⟨lv, c, es, sv, hel, hfo, hbe, hre, hc, ho⟩ := HM.out
          obtain ⟨ab, nb, cb, hxv, hn1⟩ := bat_form' (H0.out.2 xs[k] (List.getElem_mem hlt))
          obtain ⟨M, hmin, hMc, hbt, hbl⟩ := bat_min (by rw [← hxv]; exact H0.out.2 xs[k] (List.getElem_mem hlt)) 5
          obtain ⟨b, o, rfl, hbW, hcs⟩ := bats_cell H0.out.1 k hlt
          have q0 := hcs k hlt
          rw [hxv] at q0
          have q0 : wr.drew.cell? ⟨b, o + k, none⟩ = some (.slice ab nb cb) := (World.cell?_of_block (ho.drew.below.block b (hp ▸ hbW))).trans q0
          have hmin : min (nb : Int) 5 = (M : Int) := hmin
          have hMc : (M : Int) ≤ (cb : Int) := by omega
          have hM0 : (0 : Int) ≤ (M : Int) := by omega
          have hbt2 : Bat wr.drew (.slice ab M cb) (xs[k].rs.take 5) := hbt.upd (M := []) (Upd.of_below (by rw [hp]; exact ho.below)).drew (by simp)
          have h3 := own_bat ho.drew hbt2 (fun j hj => .inl (hp ▸ Reads.lies_lt hbt j hj))
          have HRR := Lib.hid (rrun_any (ss := []) (h3.perm (List.perm_append_comm (l₁ := [_]) (l₂ := [_, _]))) hc (by omega) (by omega) (by omega))
          have HNX : Hid (∀ (e : Ending) (w : World), RunOk p W [] p ((N : Int)) sv es (.slice ab M cb) (xs[k].rs.take 5) e w → MdMk p W p ((N : Int)) (k + 1) w) := Lib.hid (fun e w hr => by
            obtain ⟨vo, c', lv', -, hc', ho'⟩ := hr
            obtain ⟨r1, r2, r3⟩ := run_ok (n := (N : Int)) (xs[k].rs.take 5) hc.ok
            obtain ⟨f1, f2⟩ := follows_run ((N : Int)) sv (xs[k].rs.take 5)
            refine ⟨lv', c', _, _, by rw [List.length_append]; omega, by rw [follows_append, hfo, hbe, f1]; rfl, by rw [behind_append, hbe, f2], fun e he => ?_, hc', (ho'.dropAt 2 (by simp)).dropAt 2 (by simp)⟩
            rcases List.mem_append.1 he with he | he
            · exact hre e he
            · exact r2 e he)
          clear HM hel hfo hbe hre hc ho hxv hn1 hbt hbl hcs hbt2 h3
          generalize xs[k].rs.take 5 = bs at *
          go_upto_region 6 with fail
          refine Mix.wp_text2 (by kernel_rfl) (by kernel_rfl) ?_
          generalize wr.drew = wd at *
          go_wp2_with fail
          refine HRR.out.mono ?_
          intro e w5 hr
          have HZ := Lib.hid (HNX.out e w5 hr)
          obtain ⟨vo, c', lv', rfl, -, -⟩ := hr
          clear HRR HNX q0 hbW
          go_wp2_with fail
          refine ⟨by rfl, ?_⟩
          go_wp2_with fail
          go_roundw
          case rel => exact ⟨k + 1, by omega, by omega, by go_num, HZ⟩
          case measure => simp [intOf]; omega
        · have h6 : k = 10 := by omega
          subst h6
          go_wp2_with fail
          go_meet
          exact Lib.hid ⟨_, Nat.le_refl _, HM.out⟩
      · have hkl : k = xs.length := by omega
        subst hkl
        have hkI : decide ((xs.length : Int) < (xs.length : Int)) = false := by simp
        go_wp2_with fail
        go_meet
        exact Lib.hid ⟨_, hk6, HM.out⟩
  case rest =>
    obtain ⟨k, hk, lv, c, l, sv, hel, hfo, -, hre, hc, ho⟩ := hcut
    obtain ⟨-, hcell, -⟩ := funB_at (ho.get 0 rfl)
    have x137 := hcell 137 (by omega)
    rw [hc.l] at x137
    have hln : l.length ≤ 100 := by omega
    have HCP := Lib.hid (copy_any lv l (by omega) (own_ens (v := lv) (E := 40) (l := l) ho 1 rfl) ho)
    have HON := Lib.hid (follows_above (N : Int) Sv.new l hfo).2.2.2
    have HFO := Lib.hid hfo
    have HRE := Lib.hid hre
    clear hel hfo hre hc ho hcell hk
    go_wp2_with fail
    refine HCP.out.mono ?_
    rintro e w2 ⟨a2, c2, rfl, -, h2⟩
    have h3 := (h2.dropAt 1 (by simp)).dropAt 1 (by simp)
    have H3 := Lib.hid h3
    have eA : Ens w2 (.slice a2 l.length c2) l := own_ens (v := .slice a2 l.length c2) (E := 40) (l := l) h3 0 rfl
    obtain ⟨_, _, hv, hlc, -⟩ := id eA
    simp only [Value.slice.injEq] at hv
    obtain ⟨rfl, -, rfl⟩ := hv
    obtain ⟨hf, hhf⟩ : ∃ hf : Nat, hf = l.length / 2 := ⟨_, rfl⟩
    have hq2 : Int.tdiv (l.length : Int) 2 = (hf : Int) := by subst hhf; rfl
    have hq3 : (hf : Int) ≤ (c2 : Int) := by omega
    have hq4 : (0 : Int) ≤ (hf : Int) := by omega
    have hq5 : IntKind.i64.wrap (hf : Int) = (hf : Int) := IntWalk.i64_in _ (by omega)
    have eH := ens_take eA hf (by omega)
    have hlh : (l.take hf).length ≤ 100 := by rw [List.length_take]; omega
    clear x137 HCP h2 h3 hhf hlc
    have C1 : Hid (∀ wx, Upd [] w2 wx → Calls Tryz.prog 14 #[.slice a2 l.length c2] wx fun e w' => e = .returned (.bool true) ∧ Upd [] w2 w') := Lib.hid (fun wx hx => (once_any _ l wx (by omega) (eA.upd hx (by simp))).mono (fun e w' ⟨q1, q2⟩ => ⟨by rw [q1, decide_eq_true HON.out], hx.trans q2⟩))
    have C2 : Hid (∀ wx, Upd [] w2 wx → Calls Tryz.prog 18 #[.int .i64 N, .slice a2 l.length c2] wx fun e w' => e = .returned (.bool true) ∧ Upd [] w2 w') := Lib.hid (fun wx hx => (follows_any N hNa hNb _ l wx (by omega) (eA.upd hx (by simp))).mono (fun e w' ⟨q1, q2⟩ => ⟨by rw [q1, HFO.out], hx.trans q2⟩))
    have C3 : Hid (∀ wx, Upd [] w2 wx → Calls Tryz.prog 12 #[.slice a2 l.length c2, .slice a2 l.length c2] wx fun e w' => e = .returned (.bool true) ∧ Upd [] w2 w') := Lib.hid (fun wx hx => (kept_any _ _ l l wx (by omega) (by omega) (eA.upd hx (by simp)) (eA.upd hx (by simp))).mono (fun e w' ⟨q1, q2⟩ => ⟨by rw [q1, kept_self HON.out], hx.trans q2⟩))
    have C4 : Hid (∀ wx, Upd [] w2 wx → Calls Tryz.prog 11 #[.slice (some ⟨wx.heap.size, 0, none⟩) 3 3] (wx.alloc (.cells #[.slice a2 l.length c2, .slice a2 hf c2, .slice none 0 0] 29 (0, 0))) fun e w' => e = .returned (.bool true) ∧ Upd [] w2 w') := Lib.hid (fun wx hx => by
      have ha : Upd [] w2 (wx.alloc (.cells #[.slice a2 l.length c2, .slice a2 hf c2, .slice none 0 0] 29 (0, 0))) := hx.alloc _
      refine (agree_any _ _ _ (by simp) (fun x hx => ?_) (logs_three (heap_alloc_new _ _) (eA.upd ha (by simp)) (eH.upd ha (by simp)) (show Ens _ (.slice none 0 0) [] from Reads.nil _ _))).mono (fun e w' ⟨q1, q2⟩ => ⟨?_, ha.trans q2⟩)
      · simp only [List.mem_cons, List.not_mem_nil, or_false] at hx; rcases hx with rfl | rfl | rfl <;> simp only [List.length_nil] <;> omega
      · rw [q1]; exact ret_bool (agree_three_yes (by rw [prefB_comm]; exact prefB_take _ _) (prefB_nil' _) (prefB_nil' _)))
    clear eA eH hlh
    go_wp2_with fail
    refine (C1.out _ (Upd.refl _ _)).mono ?_
    rintro e wa ⟨rfl, hu⟩
    go_wp2_with fail
    refine (C2.out _ hu).mono ?_
    rintro e wb ⟨rfl, hu⟩
    go_wp2_with fail
    refine (C3.out _ hu).mono ?_
    rintro e wd ⟨rfl, hu⟩
    go_wp2_with fail
    refine (C4.out _ hu).mono ?_
    rintro e wf ⟨rfl, hu⟩
    have H4 := Lib.hid (H3.out.upd0 hu)
    clear hu C1 C2 C3 C4 H3 hq2 hq3 hq4 hq5
    by_cases hz : l.length = 0
    · have hzI : ((l.length : Int) == 0) = true := by simp [hz]
      clear hz
      go_wp2_with fail
      refine (wakes26_any _).mono ?_
      rintro e w8 ⟨rfl, hb8⟩
      go_wp2_with fail
      go_ret
      exact ⟨rfl, by rw [hp]; exact H4.out.below.trans (hb8.mono H4.out.size)⟩
    have hzI : ((l.length : Int) == 0) = false := by simp; exact fun e => hz (by simp [e])
    have hn0 : 0 < l.length := by omega
    clear hz
    obtain ⟨I, hI0, hI1⟩ := nat_in' at_ (l.length : Int) (by omega)
    have HI0 := Lib.hid hI0
    have hI : I < l.length := by omega
    have hII : (I : Int) < (l.length : Int) := by omega
    have hI9 : (0 : Int) ≤ (I : Int) := by omega
    obtain ⟨T, hT0, hT1⟩ := nat_in' tn 3 (by decide)
    have HT0 := Lib.hid hT0
    clear hI0 hI1 hT0
    go_wp2_with fail
    refine (Within_any _ _ _ (by omega) (by omega)).mono ?_
    rintro e w3 ⟨rfl, rfl⟩
    rw [HI0.out]
    go_wp2_with fail
    refine (Within_any _ _ _ (by decide) (by decide)).mono ?_
    rintro e w3 ⟨rfl, rfl⟩
    rw [HT0.out]
    have hT : T = 0 ∨ T = 1 ∨ T = 2 := by omega
    have hrI := HRE.out l[I] (List.getElem_mem hI)
    clear HT0 HI0 hT1 hzI
    rcases hT with rfl | rfl | rfl
    · obtain ⟨g0, rfl, hc1, hc2, h6⟩ := own_rowSeg H4.out hn0
      obtain ⟨u0, u1, u2⟩ := segR_at h6.head
      have y6 : wf.cell? ⟨g0, I * 7 + 6, none⟩ = some (.int .i64 l[I].res) := by
        rw [u1 (I * 7 + 6) (by rw [ens_len]; omega), flat_get (cells := enCells) (sz := 7) (fun _ => rfl) l I 6 l[I] (by simp) (by omega)]; rfl
      have z6 := u2 (I * 7 + 6)
      have hw7 : IntKind.i64.wrap (l[I].res + 1) = l[I].res + 1 := IntWalk.i64_in _ (by omega)
      have h7 := h6.put (I * 7 + 6) (.int .i64 (l[I].res + 1))
      rw [flat_set (cells := enCells) (sz := 7) (fun _ => rfl) l I 6 l[I] ⟨l[I].rq, l[I].res + 1⟩ _ (by simp) (by omega) rfl, ← turned_set hI] at h7
      have HX := Lib.hid h7
      have HF := Lib.hid (follows_res HFO.out hI (v := l[I].res + 1) (by omega))
      have htl := turned_len hI (⟨l[I].rq, l[I].res + 1⟩ : En)
      have eT := own_ensSeg (cap := c2) h7 0 rfl (by rw [htl]; exact hc1) hc2
      have hlt2 : (turned l I ⟨l[I].rq, l[I].res + 1⟩).length ≤ 90000 := by rw [htl]; omega
      rw [htl] at eT
      clear h6 h7 u0 u1 u2 hc1 hc2 hrI htl HRE HFO HON H4
      generalize turned l I ⟨l[I].rq, l[I].res + 1⟩ = tl at *
      generalize l[I].res = rI at *
      have CF := Lib.hid (follows_any N hNa hNb _ tl _ (by omega) (eT))
      clear eT hlt2
      go_wp2_with fail
      refine CF.out.mono ?_
      rintro e w10 ⟨rfl, hu⟩
      rw [HF.out]
      have H11 := Lib.hid (HX.out.upd0 hu)
      clear hu
      go_wp2_with fail
      refine (wakes26_any _).mono ?_
      rintro e w8 ⟨rfl, hb8⟩
      go_wp2_with fail
      go_ret
      exact ⟨rfl, by rw [hp]; exact H11.out.below.trans (hb8.mono H11.out.size)⟩
    · have hd := H4.out.alloc (enBox l[I])
      have HD := Lib.hid hd
      have hda := ownR_owns (hd.get 0 rfl)
      have HW := Lib.hid hda
      obtain ⟨i0, hi, hz0, hz1, hz2⟩ := info_parts Tryz.infoEn
      have HNW : Hid (∀ j u, (enCells l[I])[j]? = some u → (wf.alloc (enBox l[I])).cell? ((⟨wf.heap.size, 0, none⟩ : Addr).add j) = some u) := Lib.hid (World.news_of_block (heap_alloc_new wf (enBox l[I])))
      have HONE : Hid (∀ u ∈ enCells l[I], u.oneCell' = true) := Lib.hid (fun u hu => ens_one [l[I]] u (by simpa [ensCells] using hu))
      have HMX := Lib.hid (small_max (k := l.length) (by omega))
      have HM4 : Hid ((l.length + 1) * 56 ≤ 140737488355328) := Lib.hid (by omega)
      obtain ⟨g0, rfl, hc1, hc2, h6⟩ := own_rowSeg H4.out hn0
      obtain ⟨u0, u1, u2⟩ := segR_at h6.head
      obtain ⟨q0, q1, q2, q3, q4, q5, q6⟩ := ens_cells (o := 0) (fun j hj => by rw [Nat.zero_add]; exact u1 j (by rw [ens_len]; exact hj)) I l[I] (by simp)
      rw [Nat.zero_add] at q0 q1 q2 q3 q4 q5 q6
      have HF := Lib.hid (follows_twice HFO.out hI)
      clear h6 u0 u1 u2 hc1 hc2 hrI hd hda HRE HFO HON H4
      generalize l[I] = en at *
      go_wp2_with (at_builtin; refine wpList_append_lies _ rfl (.tmp 101) (.tmp 106) 29 rfl 0 40 i0 (.agg #[.int .i64 0, .int .i64 0, .int .i64 0, .int .i64 0, .int .i64 0, .int .i64 0, .int .i64 0]) 7 56 Tryz.underlying29 hi hz0 hz1 hz2 rfl (by decide) _ l.length _ rfl HW.out ⟨wf.heap.size, 0, none⟩ 1 1 (enCells en) rfl rfl HNW.out HONE.out (by decide) HMX.out HM4.out (Nat.zero_le _) _ rfl ?_)
      intro g9 cap9 w9 hown hgrow hat hlt9
      have h6 := HD.out.growAt 0 rfl hgrow (by simpa using hat) hown
      have e2 : (l ++ [en]).length = l.length + 1 := by simp
      have e1 : ownR 40 7 (.slice (some ⟨g9, 0, none⟩) (l.length + 1) cap9) (l.length + 1) (ensCells l ++ enCells en) = enR (.slice (some ⟨g9, 0, none⟩) (l.length + 1) cap9) (l ++ [en]) := enR_len _ _ _ _ (by simp) (by rw [ens_append, ens_1])
      have h6 : Own p W w9 [ownR 40 7 (.slice (some ⟨g9, 0, none⟩) (l.length + 1) cap9) (l.length + 1) (ensCells l ++ enCells en)] := h6
      rw [e1] at h6
      have HX := Lib.hid h6
      have eT := own_ens (v := .slice (some ⟨g9, 0, none⟩) (l.length + 1) cap9) (E := 40) (l := l ++ [en]) h6 0 rfl
      clear hown hgrow hat hlt9 h6 HD HW HNW HONE HMX HM4 e1 q0 q1 q2 q3 q4 q5 q6
      have CF := Lib.hid (follows_any N hNa hNb _ (l ++ [en]) _ (by rw [e2]; omega) (eT))
      clear eT e2
      go_wp2_with fail
      refine CF.out.mono ?_
      rintro e w10 ⟨rfl, hu⟩
      rw [HF.out]
      have H11 := Lib.hid (HX.out.upd0 hu)
      clear hu
      go_wp2_with fail
      refine (wakes26_any _).mono ?_
      rintro e w8 ⟨rfl, hb8⟩
      go_wp2_with fail
      go_ret
      exact ⟨rfl, by rw [hp]; exact H11.out.below.trans (hb8.mono H11.out.size)⟩
    · obtain ⟨g0, rfl, hc1, hc2, h6⟩ := own_rowSeg H4.out hn0
      obtain ⟨u0, u1, u2⟩ := segR_at h6.head
      have y6 : wf.cell? ⟨g0, I * 7, none⟩ = some (.int .i64 l[I].rq.client) := by
        rw [show I * 7 = I * 7 + 0 from rfl, u1 (I * 7 + 0) (by rw [ens_len]; omega), flat_get (cells := enCells) (sz := 7) (fun _ => rfl) l I 0 l[I] (by simp) (by omega)]; rfl
      have z6 := u2 (I * 7)
      have h7 := h6.put (I * 7 + 0) (.int .i64 (N : Int))
      rw [flat_set (cells := enCells) (sz := 7) (fun _ => rfl) l I 0 l[I] ⟨⟨N, l[I].rq.time, l[I].rq.kind, l[I].rq.key, l[I].rq.val, l[I].rq.sl⟩, l[I].res⟩ _ (by simp) (by omega) rfl, ← turned_set hI] at h7
      have HX := Lib.hid h7
      have HF := Lib.hid (follows_client (n := (N : Int)) (s := Sv.new) (l := l) (i := I) (r := ⟨N, l[I].rq.time, l[I].rq.kind, l[I].rq.key, l[I].rq.val, l[I].rq.sl⟩) (v := l[I].res) rfl)
      have htl := turned_len hI (⟨⟨N, l[I].rq.time, l[I].rq.kind, l[I].rq.key, l[I].rq.val, l[I].rq.sl⟩, l[I].res⟩ : En)
      have eT := own_ensSeg (cap := c2) h7 0 rfl (by rw [htl]; exact hc1) hc2
      have hlt2 : (turned l I ⟨⟨N, l[I].rq.time, l[I].rq.kind, l[I].rq.key, l[I].rq.val, l[I].rq.sl⟩, l[I].res⟩).length ≤ 90000 := by rw [htl]; omega
      rw [htl] at eT
      clear h6 h7 u0 u1 u2 hc1 hc2 hrI htl HRE HFO HON H4
      generalize turned l I ⟨⟨N, l[I].rq.time, l[I].rq.kind, l[I].rq.key, l[I].rq.val, l[I].rq.sl⟩, l[I].res⟩ = tl at *
      generalize l[I].rq.client = rI at *
      have CF := Lib.hid (follows_any N hNa hNb _ tl _ (by omega) (eT))
      clear eT hlt2
      go_wp2_with fail
      refine CF.out.mono ?_
      rintro e w10 ⟨rfl, hu⟩
      rw [HF.out]
      have H11 := Lib.hid (HX.out.upd0 hu)
      clear hu
      go_wp2_with fail
      refine (wakes26_any _).mono ?_
      rintro e w8 ⟨rfl, hb8⟩
      go_wp2_with fail
      go_ret
      exact ⟨rfl, by rw [hp]; exact H11.out.below.trans (hb8.mono H11.out.size)⟩

end Go.Proofs.YtimdphlolmbhnaaGreat
