/- inst: Adopt. -/
import Derived.Test.YtdeadekeffficaaInJ
namespace Go.Proofs.Ytdeadekeffficaa
open Go.RowKit Go.Heap

section
variable {B : Nat} {w0 W W' : World} {ss rs : List Res} {x : Ins}

theorem adopt_off {c : Cp} {st : In} (h : adoptB st c = false) : adoptI st c = st := by
  unfold adoptI; rw [h]; cases idx c.seq <;> rfl

set_option maxHeartbeats 2000000 in
set_option maxRecDepth 100000 in
theorem ins_adopt (h : Own B w0 W (instR x :: ss)) {i : Nat} (hi : x.i = i) (c : Ct) (hb : Bat W c.vb c.rs) (hbn : c.rs.length ≤ 100000) (hv : Vts W c.vv c.vs) (hvn : c.vs.length ≤ 100000) :
    Calls Try.prog 39 #[.pointer (some ⟨i, 0, none⟩), ctAgg c] W (InsP B w0 W i (adoptI x.st c.cp) ss (.bool (adoptB x.st c.cp))) := by
  subst hi
  obtain ⟨view, inst, seq, vb, vv, l, vs⟩ := c
  simp only at hb hbn hv hvn
  obtain ⟨ao, cap, rfl⟩ := bat_form hb
  obtain ⟨co, cav, rfl⟩ := vts_form hv
  have hu0 : Upd [] W (W.alloc (ctO view inst seq (.slice ao l.length cap) (.slice co vs.length cav))) := (Upd.refl _ _).alloc _
  have HB := Lib.hid (hb.upd hu0 (by simp))
  have HV := Lib.hid (Reads.upd hv hu0 (by simp))
  have hz := own_open (h.box (ctO view inst seq (.slice ao l.length cap) (.slice co vs.length cav))).swap
  obtain ⟨-, c1, -, -, -, c5, l1, l2⟩ := oi_cells hz
  obtain ⟨f0, f1, f2, f3, f4, -, -⟩ := ct_cells (own_shut hz).drop.blk_out
  clear hb hv hu0
  cases hk : idx seq with
  | none =>
    have hs := idx_none hk
    have HE := Lib.hid (show adoptB x.st ⟨view, inst, seq, l, vs⟩ = false by simp [adoptB, plAt_none hk])
    have HA := Lib.hid (at_no x.i x.b x.cap seq _ hs c5)
    have HZ := Lib.hid hz
    clear hz h hk hs c5 HB HV c1
    go_enter Try.func39, Try.ntmps39
    go_wp2_with fail
    refine HA.out.mono ?_
    rintro e w' ⟨rfl, rfl⟩
    go_wp2_with fail
    go_quiet (fail)
    go_wp2_with fail
    go_ret
    rw [show (Ct.cp ⟨view, inst, seq, .slice ao l.length cap, .slice co vs.length cav, l, vs⟩) = ⟨view, inst, seq, l, vs⟩ from rfl, HE.out]
    exact insP_same ((own_shut HZ.out).swap.drop.upd0 ((Upd.refl _ _).drewN _)) (adopt_off HE.out)
  | some k =>
    obtain ⟨hl, hp⟩ := plAt_some (oi_ok hz) hk
    obtain ⟨i1, i2⟩ := idx_lt hk
    have HA := Lib.hid (at_yes x.i x.b x.cap seq _ (by omega) (by omega) c5)
    have hks : seq.toNat - 1 = k := by omega
    rw [hks] at HA
    have cd := oi_done hz k hl
    cases hd : x.l[k].done
    · rw [hd] at cd
      by_cases hin : inst = x.num
      · have hinb : (inst != x.num) = false := by simp [hin]
        have HE := Lib.hid (show adoptB x.st ⟨view, inst, seq, l, vs⟩ = true by simp only [adoptB, hp]; simp [Pm.pl, Ins.st, hd, hin])
        have HI := Lib.hid (show adoptI x.st ⟨view, inst, seq, l, vs⟩ = x.st.upd k fun p => { p with done := true, dw := ⟨view, inst, seq, l, vs⟩ } by simp only [adoptI, hk]; rw [if_pos HE.out])
        have HZ := Lib.hid hz
        clear hz h hk hp i2 hks hd c5 hin
        go_enter Try.func39, Try.ntmps39
        go_wp2_with fail
        refine HA.out.mono ?_
        rintro e w' ⟨rfl, rfl⟩
        go_wp2_with fail
        go_quiet (fail)
        go_wp2_with fail
        refine (fresh_ct ⟨view, inst, seq, .slice ao l.length cap, .slice co vs.length cav, l, vs⟩ _ (HB.out.upd (M := []) ((Upd.refl _ _).drewN _) (by simp)) hbn (Reads.upd (M := []) HV.out ((Upd.refl _ _).drewN _) (by simp)) hvn).mono ?_
        rintro e w3 ⟨⟨view', inst', seq', vb', vv', l', vs'⟩, rfl, hcp, hu3, hb3, hv3, n1, n2⟩
        simp only at hb3 hv3 n1 n2
        simp only [Ct.cp, Cp.mk.injEq] at hcp
        obtain ⟨rfl, rfl, rfl, rfl, rfl⟩ := hcp
        obtain ⟨ao6, cap6, rfl⟩ := bat_form hb3
        obtain ⟨co6, cav6, rfl⟩ := vts_form hv3
        have H3 := Lib.hid (own_red2 (Own.upd0 HZ.out ((Upd.refl _ _).drewN _)) hu3 hb3 hv3 n1 n2)
        clear hu3 hb3 hv3 n1 n2 HA HB HV f0 f1 f2 f3 f4 cd c1
        have ho3 := H3.out.drop.drop
        have c8 := oi_at ho3 k hl 8 (by omega)
        have c9 := oi_at ho3 k hl 9 (by omega)
        have c10 := oi_at ho3 k hl 10 (by omega)
        have c11 := oi_at ho3 k hl 11 (by omega)
        have c12 := oi_at ho3 k hl 12 (by omega)
        have c13 := oi_at ho3 k hl 13 (by omega)
        obtain ⟨fzb, -⟩ := oi_fz ho3
        have z8 := fzb (k * 14 + 8)
        have z9 := fzb (k * 14 + 9)
        have z10 := fzb (k * 14 + 10)
        have z11 := fzb (k * 14 + 11)
        have z12 := fzb (k * 14 + 12)
        have z13 := fzb (k * 14 + 13)
        clear ho3 fzb
        simp only [pmCells, List.getElem?_cons_succ, List.getElem?_cons_zero] at c8 c9 c10 c11 c12 c13
        go_wp2_with fail
        have H4 := Lib.hid (oi_dw H3.out k hl view' inst' seq' hbn hvn)
        go_ret
        rw [show (Ct.cp ⟨view', inst', seq', .slice ao l'.length cap, .slice co vs'.length cav, l', vs'⟩) = ⟨view', inst', seq', l', vs'⟩ from rfl, HE.out, HI.out]
        refine ⟨rfl, x.sl k { x.l[k] with done := true, dw := ⟨view', inst', seq', .slice ao6 l'.length cap6, .slice co6 vs'.length cav6, l', vs'⟩ }, rfl, st_set x k hl _ _ rfl, ?_⟩
        exact (own_shut H4.out).swap.drop
      · have hinb : (inst != x.num) = true := by simp [hin]
        have HE := Lib.hid (show adoptB x.st ⟨view, inst, seq, l, vs⟩ = false by simp only [adoptB, hp]; simp [Pm.pl, Ins.st, hin])
        have HZ := Lib.hid hz
        clear hz h hk hp i2 hks hd c5 hin
        go_enter Try.func39, Try.ntmps39
        go_wp2_with fail
        refine HA.out.mono ?_
        rintro e w' ⟨rfl, rfl⟩
        go_wp2_with fail
        go_quiet (fail)
        go_wp2_with fail
        go_ret
        rw [show (Ct.cp ⟨view, inst, seq, .slice ao l.length cap, .slice co vs.length cav, l, vs⟩) = ⟨view, inst, seq, l, vs⟩ from rfl, HE.out]
        exact insP_same ((own_shut HZ.out).swap.drop.upd0 ((Upd.refl _ _).drewN _)) (adopt_off HE.out)
    · rw [hd] at cd
      have HE := Lib.hid (show adoptB x.st ⟨view, inst, seq, l, vs⟩ = false by simp only [adoptB, hp]; simp [Pm.pl, hd])
      have HZ := Lib.hid hz
      clear hz h hk hp i2 hks hd c5
      go_enter Try.func39, Try.ntmps39
      go_wp2_with fail
      refine HA.out.mono ?_
      rintro e w' ⟨rfl, rfl⟩
      go_wp2_with fail
      go_quiet (fail)
      go_wp2_with fail
      go_ret
      rw [show (Ct.cp ⟨view, inst, seq, .slice ao l.length cap, .slice co vs.length cav, l, vs⟩) = ⟨view, inst, seq, l, vs⟩ from rfl, HE.out]
      exact insP_same ((own_shut HZ.out).swap.drop.upd0 ((Upd.refl _ _).drewN _)) (adopt_off HE.out)

theorem ai_adopt {i : Nat} {st : In} (h : AtI B w0 W i st ss) (c : Ct) (hb : Bat W c.vb c.rs) (hbn : c.rs.length ≤ 100000) (hv : Vts W c.vv c.vs) (hvn : c.vs.length ≤ 100000) :
    Calls Try.prog 39 #[.pointer (some ⟨i, 0, none⟩), ctAgg c] W fun e w' => e = .returned (.bool (adoptB st c.cp)) ∧ AtI B w0 w' i (adoptI st c.cp) ss := by
  obtain ⟨x, h1, rfl, h3⟩ := h
  exact ins_adopt h3 h1 c hb hbn hv hvn

end
end Go.Proofs.Ytdeadekeffficaa
