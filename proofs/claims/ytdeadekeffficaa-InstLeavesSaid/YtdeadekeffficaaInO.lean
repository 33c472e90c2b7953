/- inst: Prepared. -/
import Derived.Test.YtdeadekeffficaaInN
namespace Go.Proofs.Ytdeadekeffficaa
open Go.RowKit Go.Heap

section
variable {B : Nat} {w0 W W' : World} {ss rs : List Res} {x : Ins}

theorem prep_off {seq : Int} {st : In} (h : prepI st seq = none) : preparedI st seq = st := by
  unfold preparedI; rw [h]; cases idx seq <;> rfl

theorem prep_some {f : Nat} {st : Sl} {vs : Vs} (h : preparedS f st = some vs) : st.has = true ∧ chosenS st = st.batch ∧ vs.length ≤ 2 * f + 1 := by
  unfold preparedS at h
  split at h
  · rename_i hh
    exact ⟨hh, by unfold chosenS; rw [if_pos hh], en_votes h⟩
  · cases h

set_option maxHeartbeats 2000000 in
set_option maxRecDepth 100000 in
theorem ins_prepared (h : Own B w0 W (instR x :: ss)) {i : Nat} (hi : x.i = i) (seq : Int) : Calls Try.prog 45 #[.pointer (some ⟨i, 0, none⟩), .int .i64 seq] W (CertP B w0 W i (prepI x.st seq) (preparedI x.st seq) ss) := by
  subst hi
  have hz := own_open (h.box zct).swap
  obtain ⟨-, -, -, -, c4, c5, l1, l2⟩ := oi_cells hz
  cases hk : idx seq with
  | none =>
    have hs := idx_none hk
    have HE := Lib.hid (show prepI x.st seq = none by simp [prepI, plAt_none hk])
    have HA := Lib.hid (at_no x.i x.b x.cap seq _ hs c5)
    have H := Lib.hid h
    clear hz h hk hs c5 c4
    go_enter Try.func45, Try.ntmps45
    go_wp2_with fail
    refine HA.out.mono ?_
    rintro e w' ⟨rfl, rfl⟩
    go_wp2_with fail
    exact bodyPost_ret (v := .tuple #[ctAgg noCt, .bool false]) (by simp [results, Try.results45, go_sem, noCt]) rfl (certP_none (H.out.upd0 ((Upd.refl _ _).alloc _)) HE.out (prep_off HE.out))
  | some k =>
    obtain ⟨hl, hp⟩ := plAt_some (oi_ok hz) hk
    obtain ⟨i1, i2⟩ := idx_lt hk
    have HA := Lib.hid (at_yes x.i x.b x.cap seq _ (by omega) (by omega) c5)
    have hks : seq.toNat - 1 = k := by omega
    rw [hks] at HA
    have cp := oi_ptr hz k hl
    have cd := oi_told hz k hl
    have HLF := Lib.hid ((oi_ok hz).lf _ (List.getElem_mem hl))
    have HF4 := Lib.hid (oi_ok hz).f2
    cases hon : x.on
    · rw [hon] at c4
      have HE := Lib.hid (show prepI x.st seq = none by simp only [prepI, hp]; simp [Ins.st, hon])
      have H := Lib.hid h
      clear hz h hk hp i2 hks hon c5 cp cd
      go_enter Try.func45, Try.ntmps45
      go_wp2_with fail
      refine HA.out.mono ?_
      rintro e w' ⟨rfl, rfl⟩
      go_wp2_with fail
      exact bodyPost_ret (v := .tuple #[ctAgg noCt, .bool false]) (by simp [results, Try.results45, go_sem, noCt]) rfl (certP_none (H.out.upd0 ((Upd.refl _ _).alloc _)) HE.out (prep_off HE.out))
    rw [hon] at c4
    cases hd : x.l[k].told
    · rw [hd] at cd
      have HC := Lib.hid (own_prepared (oi_pick hz k hl))
      have HSM := Lib.hid (own_small (oi_pick hz k hl)).1
      have HCI := Lib.hid (show prepI x.st seq = (preparedS x.f x.l[k].sl).map fun vs => ⟨x.view, x.num, seq, x.l[k].sl.batch, vs⟩ by simp only [prepI, hp]; simp [Pm.pl, Ins.st, hd, hon])
      have HZ := Lib.hid hz
      have H := Lib.hid h
      have HK := Lib.hid hk
      clear hz h hk hp i2 hks hd hon
      go_enter Try.func45, Try.ntmps45
      go_wp2_with fail
      refine HA.out.mono ?_
      rintro e w' ⟨rfl, rfl⟩
      go_wp2_with fail
      refine HC.out.mono ?_
      rintro e w2 ⟨u, rfl, hu, hv, n2⟩
      rw [HLF.out] at hv ⊢
      cases hcm : preparedS x.f x.l[k].sl with
      | none =>
        rw [hcm] at HCI hv
        obtain ⟨co, cav, rfl⟩ := vts_form hv
        have H3 := Lib.hid ((own_shut HZ.out).upd0 hu)
        have fz := fun o => block_frozen H3.out.drop.blk_out o
        have hbx := H3.out.drop.blk_out
        have HBX := Lib.hid hbx
        obtain ⟨f0, f1, f2, f3, f4, fl, -⟩ := ct_cells hbx
        have fz0 := fz 0
        have fz1 := fz 1
        have fz2 := fz 2
        have fz3 := fz 3
        have fz4 := fz 4
        clear hbx fz hcm hu hv n2 HA HC cp cd c4 c5
        go_wp2_with fail
        have H4 := Lib.hid (own_st5 H3.out.swap 0 0 0 (.slice none 0 0) (.slice none 0 0))
        generalize ((((w2.setCell ⟨W.heap.size, 0, none⟩ (.int .i64 0)).setCell ⟨W.heap.size, 1, none⟩ (.int .i64 0)).setCell ⟨W.heap.size, 2, none⟩ (.int .i64 0)).setCell ⟨W.heap.size, 3, none⟩ (.slice none 0 0)).setCell ⟨W.heap.size, 4, none⟩ (.slice none 0 0) = w4 at *
        clear f0 f1 f2 f3 f4 fl fz0 fz1 fz2 fz3 fz4 HBX
        obtain ⟨f0, f1, f2, f3, f4, fl, -⟩ := ct_cells H4.out.blk_out
        exact bodyPost_ret (v := .tuple #[ctAgg noCt, .bool false]) (by simp [results, Try.results45, go_sem, noCt, f0, f1, f2, f3, f4]) rfl (certP_none H4.out.drop HCI.out (prep_off HCI.out))
      | some vs =>
        rw [hcm] at HCI hv
        obtain ⟨s1, s2, s3⟩ := prep_some hcm
        have HS2 := Lib.hid s2
        have hnv : vs.length ≤ 100000 := by have := HF4.out; omega
        obtain ⟨co, cav, rfl⟩ := vts_form hv
        have hz2 := Own.upd0 HZ.out hu
        have cp2 := oi_ptr hz2 k hl
        have HC2 := Lib.hid (own_chosen (oi_pick hz2 k hl))
        have HU := Lib.hid hu
        have HV := Lib.hid (show Vts w2 (.slice co vs.length cav) vs from hv)
        have N2 := Lib.hid n2
        clear hcm hu hv n2 HA HC cp cd c4 c5 s1 s2 s3 hz2
        go_wp2_with fail
        refine HC2.out.mono ?_
        rintro e w2b ⟨ub, rfl, hub, hbb, n1⟩
        rw [HS2.out] at hbb
        obtain ⟨ao, cap, rfl⟩ := bat_form hbb
        have hsz2 := HU.out.size
        have H2 := Lib.hid (own_red2 HZ.out (HU.out.trans hub) hbb (Reads.upd HV.out hub (by simp)) (fun k hk => Nat.le_trans hsz2 (n1 k hk)) N2.out)
        have hnb := HSM.out
        have HB2 := Lib.hid (oi_blk H2.out.drop.drop)
        clear hub hbb n1 HC2 cp2 hsz2 HU HV N2
        go_wp2_with fail
        refine (cert_any x.i x.f x.num x.ahead x.view x.on _ seq ao _ cap co _ cav _ HB2.out).mono ?_
        rintro e w3 ⟨rfl, hu3⟩
        have H3 := Lib.hid (H2.out.upd0 hu3)
        clear hu3 H2 HB2
        have ho3 := H3.out.drop.drop
        have c1 := oi_at ho3 k hl 1 (by omega)
        have c2 := oi_at ho3 k hl 2 (by omega)
        have c3 := oi_at ho3 k hl 3 (by omega)
        have c4 := oi_at ho3 k hl 4 (by omega)
        have c5 := oi_at ho3 k hl 5 (by omega)
        have c6 := oi_at ho3 k hl 6 (by omega)
        have c7 := oi_at ho3 k hl 7 (by omega)
        obtain ⟨fzb, -⟩ := oi_fz ho3
        have z1 := fzb (k * 14 + 1)
        have z2 := fzb (k * 14 + 2)
        have z3 := fzb (k * 14 + 3)
        have z4 := fzb (k * 14 + 4)
        have z5 := fzb (k * 14 + 5)
        have z6 := fzb (k * 14 + 6)
        have z7 := fzb (k * 14 + 7)
        clear ho3 fzb
        simp only [pmCells, List.getElem?_cons_succ, List.getElem?_cons_zero] at c1 c2 c3 c4 c5 c6 c7
        go_wp2_with fail
        have H4 := Lib.hid (oi_ct H3.out k hl x.view x.num seq hnb hnv)
        generalize ((((((w3.setCell ⟨x.b, k * 14 + 1, none⟩ (.bool true)).setCell ⟨x.b, k * 14 + 2, none⟩ (.bool true)).setCell ⟨x.b, k * 14 + 3, none⟩ (.int .i64 x.view)).setCell ⟨x.b, k * 14 + 3 + 1, none⟩ (.int .i64 x.num)).setCell ⟨x.b, k * 14 + 3 + 2, none⟩ (.int .i64 seq)).setCell ⟨x.b, k * 14 + 3 + 3, none⟩ (.slice ao x.l[k].sl.batch.length cap)).setCell ⟨x.b, k * 14 + 3 + 4, none⟩ (.slice co vs.length cav) = w4 at *
        clear c1 c2 c3 c4 c5 c6 c7 z1 z2 z3 z4 z5 z6 z7 H3
        have hq := (oi_cert H4.out k (by simpa using hl)).1
        simp only [List.getElem_set_self] at hq
        obtain ⟨q1, q2, q3, q4⟩ := hq
        have HF := Lib.hid (fresh_ct ⟨x.view, x.num, seq, .slice ao x.l[k].sl.batch.length cap, .slice co vs.length cav, x.l[k].sl.batch, vs⟩ w4 q1 q3 q2 q4)
        clear q1 q2 q3 q4
        have H4L := Lib.hid (show W.heap.size < w4.heap.size from block_lt (own_shut H4.out).drop.blk_out)
        refine HF.out.mono ?_
        rintro e w5 ⟨⟨view', inst', seq', vb', vv', rs', vs'⟩, rfl, hcp, hu5, hb5, hv5, nb, nv⟩
        simp only at hb5 hv5 nb nv
        obtain ⟨ao6, cap6, rfl⟩ := bat_form hb5
        obtain ⟨co6, cav6, rfl⟩ := vts_form hv5
        have H5 := Lib.hid ((own_red2 (own_shut H4.out).swap hu5 hb5 hv5 nb nv).rot)
        have HCP := Lib.hid hcp
        have HB5 := Lib.hid hb5
        have HV5 := Lib.hid hv5
        have NB := Lib.hid nb
        have NV := Lib.hid nv
        clear hcp hu5 hb5 hv5 nb nv H4 HF
        obtain ⟨f0, f1, f2, f3, f4, fl, fz⟩ := ct_cells H5.out.blk_out
        have fz0 := fz 0
        have fz1 := fz 1
        have fz2 := fz 2
        have fz3 := fz 3
        have fz4 := fz 4
        clear fz
        go_wp2_with fail
        have H6 := Lib.hid (own_st5 H5.out view' inst' seq' (.slice ao6 rs'.length cap6) (.slice co6 vs'.length cav6))
        have HU6 := Lib.hid (upd_st5 w5 W.heap.size view' inst' seq' (.slice ao6 rs'.length cap6) (.slice co6 vs'.length cav6))
        generalize ((((w5.setCell ⟨W.heap.size, 0, none⟩ (.int .i64 view')).setCell ⟨W.heap.size, 1, none⟩ (.int .i64 inst')).setCell ⟨W.heap.size, 2, none⟩ (.int .i64 seq')).setCell ⟨W.heap.size, 3, none⟩ (.slice ao6 rs'.length cap6)).setCell ⟨W.heap.size, 4, none⟩ (.slice co6 vs'.length cav6) = w6 at *
        clear f0 f1 f2 f3 f4 fl fz0 fz1 fz2 fz3 fz4 H5
        obtain ⟨f0, f1, f2, f3, f4, fl, -⟩ := ct_cells H6.out.blk_out
        refine bodyPost_ret (v := .tuple #[ctAgg ⟨view', inst', seq', .slice ao6 rs'.length cap6, .slice co6 vs'.length cav6, rs', vs'⟩, .bool true]) (by simp [results, Try.results45, go_sem, f0, f1, f2, f3, f4]) rfl ?_
        have hcp := HCP.out
        simp only [Ct.cp, Cp.mk.injEq] at hcp
        obtain ⟨e1, e2, e3, e4, e5⟩ := hcp
        have hnew : ∀ (v : Value), (∀ k ∈ blkOf v, w4.heap.size ≤ k) → (∀ k ∈ blkOf v, W.heap.size ≤ k) ∧ ∀ k ∈ blkOf v, k ∉ [W.heap.size] := fun v hv => ⟨fun k hk => by have := hv k hk; have := H4L.out; omega, fun k hk hn => by have := hv k hk; have := H4L.out; simp at hn; omega⟩
        refine ⟨⟨view', inst', seq', .slice ao6 rs'.length cap6, .slice co6 vs'.length cav6, rs', vs'⟩, ?_, ?_, ⟨by simp only [e4]; exact hnb, by simp only [e5]; exact hnv⟩, HB5.out.upd HU6.out (hnew _ NB.out).2, Reads.upd HV5.out HU6.out (hnew _ NV.out).2, (hnew _ NB.out).1, (hnew _ NV.out).1,
          x.sl k { x.l[k] with told := true, has := true, ct := ⟨x.view, x.num, seq, .slice ao x.l[k].sl.batch.length cap, .slice co vs.length cav, x.l[k].sl.batch, vs⟩ }, rfl, ?_, H6.out.drop⟩
        · rw [HCI.out]; rfl
        · rw [HCI.out]
          simp only [Ct.cp, Option.map_some, Option.getD_some, Cp.mk.injEq]
          exact ⟨e1, e2, e3, e4, e5⟩
        · rw [show preparedI x.st seq = x.st.upd k fun p => { p with told := true, has := true, ct := ⟨x.view, x.num, seq, x.l[k].sl.batch, vs⟩ } by simp [preparedI, HK.out, HCI.out]]
          exact st_set x k hl _ _ rfl
    · rw [hd] at cd
      have HE := Lib.hid (show prepI x.st seq = none by simp only [prepI, hp]; simp [Pm.pl, hd])
      have H := Lib.hid h
      clear hz h hk hp i2 hks hd hon c5 cp
      go_enter Try.func45, Try.ntmps45
      go_wp2_with fail
      refine HA.out.mono ?_
      rintro e w' ⟨rfl, rfl⟩
      go_wp2_with fail
      exact bodyPost_ret (v := .tuple #[ctAgg noCt, .bool false]) (by simp [results, Try.results45, go_sem, noCt]) rfl (certP_none (H.out.upd0 ((Upd.refl _ _).alloc _)) HE.out (prep_off HE.out))

theorem ai_prepared {i : Nat} {st : In} (h : AtI B w0 W i st ss) (seq : Int) : Calls Try.prog 45 #[.pointer (some ⟨i, 0, none⟩), .int .i64 seq] W fun e w' => ∃ c : Ct, e = .returned (.tuple #[ctAgg c, .bool (prepI st seq).isSome]) ∧ Told W w' (prepI st seq) c ∧ AtI B w0 w' i (preparedI st seq) ss := by
  obtain ⟨x, h1, rfl, h3⟩ := h
  refine (ins_prepared h3 h1 seq).mono ?_
  rintro e w' ⟨c, he, hc, hn, hb, hv, n1, n2, x', e1, e2, e3⟩
  exact ⟨c, he, ⟨hc, hn, hb, hv, n1, n2⟩, x', e1, e2, e3.drop.drop⟩

theorem ai_prepared2 {i : Nat} {st : In} (h : AtI B w0 W i st ss) (seq : Int) : Calls Try.prog 45 #[.pointer (some ⟨i, 0, none⟩), .int .i64 seq] W fun e w' => ∃ c : Ct, e = .returned (.tuple #[ctAgg c, .bool (prepI st seq).isSome]) ∧ Told W w' (prepI st seq) c ∧
    AtI B w0 w' i (preparedI st seq) (redR c.vv 2 c.vs.length (vsCells c.vs) :: redR c.vb 6 c.rs.length (rqsCells c.rs) :: ss) := by
  obtain ⟨x, h1, rfl, h3⟩ := h
  refine (ins_prepared h3 h1 seq).mono ?_
  rintro e w' ⟨c, he, hc, hn, hb, hv, n1, n2, x', e1, e2, e3⟩
  exact ⟨c, he, ⟨hc, hn, hb, hv, n1, n2⟩, x', e1, e2, e3.rot⟩

theorem ai_commits2 {i : Nat} {st : In} (h : AtI B w0 W i st ss) (seq : Int) : Calls Try.prog 36 #[.pointer (some ⟨i, 0, none⟩), .int .i64 seq] W fun e w' => ∃ c : Ct, e = .returned (.tuple #[ctAgg c, .bool (commI st seq).isSome]) ∧ Told W w' (commI st seq) c ∧
    AtI B w0 w' i (commitsI st seq) (redR c.vv 2 c.vs.length (vsCells c.vs) :: redR c.vb 6 c.rs.length (rqsCells c.rs) :: ss) := by
  obtain ⟨x, h1, rfl, h3⟩ := h
  refine (ins_commits h3 h1 seq).mono ?_
  rintro e w' ⟨c, he, hc, hn, hb, hv, n1, n2, x', e1, e2, e3⟩
  exact ⟨c, he, ⟨hc, hn, hb, hv, n1, n2⟩, x', e1, e2, e3.rot⟩

end
end Go.Proofs.Ytdeadekeffficaa
