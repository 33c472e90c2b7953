/- Parts of the proof, one behind the other. -/
import Derived.Test.YtdeadekeffficaaOnceB3
import Derived.Deep.DeepCutAuto
import Derived.Deep.CutBlock
import Derived.Deep.RegionHeld3

/- inst: Prepared. -/
namespace Go.Proofs.Ytdeadekeffficaa
open Go.RowKit Go.Heap

section
variable {B : Nat} {w0 W W' : World} {ss rs : List Res} {x : Ins}

theorem prep_off {seq : Int} {st : In} (h : prepI st seq = none) : preparedI st seq = st := by
  unfold preparedI; rw [h]; cases idx seq <;> rfl

theorem prep_some {f : Nat} {st : Sl} {vs : Vs} (h : preparedS f st = some vs) : st.has = true ∧ chosenS st = st.batch ∧ vs.length ≤ 2 * f + 1 := by
  unfold preparedS at h
  split at h
  · rename_i hh
    exact ⟨hh, by unfold chosenS; rw [if_pos hh], en_votes h⟩
  · cases h

set_option maxHeartbeats 2000000 in
set_option maxRecDepth 100000 in
theorem ins_prepared (h : Own B w0 W (instR x :: ss)) {i : Nat} (hi : x.i = i) (seq : Int) : Calls Try.prog 45 #[.pointer (some ⟨i, 0, none⟩), .int .i64 seq] W (CertP B w0 W i (prepI x.st seq) (preparedI x.st seq) ss) := by
  subst hi
  have hz := own_open (h.box zct).swap
  obtain ⟨-, -, -, -, c4, c5, l1, l2⟩ := oi_cells hz
  cases hk : idx seq with
  | none =>
    have hs := idx_none hk
    have HE := Lib.hid (show prepI x.st seq = none by simp [prepI, plAt_none hk])
    have HA := Lib.hid (at_no x.i x.b x.cap seq _ hs c5)
    have H := Lib.hid h
    clear hz h hk hs c5 c4
    go_enter Try.func45, Try.ntmps45
    go_wp2_with fail
    refine HA.out.mono ?_
    rintro e w' ⟨rfl, rfl⟩
    go_wp2_with fail
    exact bodyPost_ret (v := .tuple #[ctAgg noCt, .bool false]) (by simp [results, Try.results45, go_sem, noCt]) rfl (certP_none (H.out.upd0 ((Upd.refl _ _).alloc _)) HE.out (prep_off HE.out))
  | some k =>
    obtain ⟨hl, hp⟩ := plAt_some (oi_ok hz) hk
    obtain ⟨i1, i2⟩ := idx_lt hk
    have HA := Lib.hid (at_yes x.i x.b x.cap seq _ (by omega) (by omega) c5)
    have hks : seq.toNat - 1 = k := by omega
    rw [hks] at HA
    have cp := oi_ptr hz k hl
    have cd := oi_told hz k hl
    have HLF := Lib.hid ((oi_ok hz).lf _ (List.getElem_mem hl))
    have HF4 := Lib.hid (oi_ok hz).f2
    cases hon : x.on
    · rw [hon] at c4
      have HE := Lib.hid (show prepI x.st seq = none by simp only [prepI, hp]; simp [Ins.st, hon])
      have H := Lib.hid h
      clear hz h hk hp i2 hks hon c5 cp cd
      go_enter Try.func45, Try.ntmps45
      go_wp2_with fail
      refine HA.out.mono ?_
      rintro e w' ⟨rfl, rfl⟩
      go_wp2_with fail
      exact bodyPost_ret (v := .tuple #[ctAgg noCt, .bool false]) (by simp [results, Try.results45, go_sem, noCt]) rfl (certP_none (H.out.upd0 ((Upd.refl _ _).alloc _)) HE.out (prep_off HE.out))
    rw [hon] at c4
    cases hd : x.l[k].told
    · rw [hd] at cd
      have HC := Lib.hid (own_prepared (oi_pick hz k hl))
      have HSM := Lib.hid (own_small (oi_pick hz k hl)).1
      have HCI := Lib.hid (show prepI x.st seq = (preparedS x.f x.l[k].sl).map fun vs => ⟨x.view, x.num, seq, x.l[k].sl.batch, vs⟩ by simp only [prepI, hp]; simp [Pm.pl, Ins.st, hd, hon])
      have HZ := Lib.hid hz
      have H := Lib.hid h
      have HK := Lib.hid hk
      clear hz h hk hp i2 hks hd hon
      go_enter Try.func45, Try.ntmps45
      go_wp2_with fail
      refine HA.out.mono ?_
      rintro e w' ⟨rfl, rfl⟩
      go_wp2_with fail
      refine HC.out.mono ?_
      rintro e w2 ⟨u, rfl, hu, hv, n2⟩
      rw [HLF.out] at hv ⊢
      cases hcm : preparedS x.f x.l[k].sl with
      | none =>
        rw [hcm] at HCI hv
        obtain ⟨co, cav, rfl⟩ := vts_form hv
        have H3 := Lib.hid ((own_shut HZ.out).upd0 hu)
        have fz := fun o => block_frozen H3.out.drop.blk_out o
        have hbx := H3.out.drop.blk_out
        have HBX := Lib.hid hbx
        obtain ⟨f0, f1, f2, f3, f4, fl, -⟩ := ct_cells hbx
        have fz0 := fz 0
        have fz1 := fz 1
        have fz2 := fz 2
        have fz3 := fz 3
        have fz4 := fz 4
        clear hbx fz hcm hu hv n2 HA HC cp cd c4 c5
        go_wp2_with fail
        have H4 := Lib.hid (own_st5 H3.out.swap 0 0 0 (.slice none 0 0) (.slice none 0 0))
        generalize ((((w2.setCell ⟨W.heap.size, 0, none⟩ (.int .i64 0)).setCell ⟨W.heap.size, 1, none⟩ (.int .i64 0)).setCell ⟨W.heap.size, 2, none⟩ (.int .i64 0)).setCell ⟨W.heap.size, 3, none⟩ (.slice none 0 0)).setCell ⟨W.heap.size, 4, none⟩ (.slice none 0 0) = w4 at *
        clear f0 f1 f2 f3 f4 fl fz0 fz1 fz2 fz3 fz4 HBX
        obtain ⟨f0, f1, f2, f3, f4, fl, -⟩ := ct_cells H4.out.blk_out
        exact bodyPost_ret (v := .tuple #[ctAgg noCt, .bool false]) (by simp [results, Try.results45, go_sem, noCt, f0, f1, f2, f3, f4]) rfl (certP_none H4.out.drop HCI.out (prep_off HCI.out))
      | some vs =>
        rw [hcm] at HCI hv
        obtain ⟨s1, s2, s3⟩ := prep_some hcm
        have HS2 := Lib.hid s2
        have hnv : vs.length ≤ 100000 := by have := HF4.out; omega
        obtain ⟨co, cav, rfl⟩ := vts_form hv
        have hz2 := Own.upd0 HZ.out hu
        have cp2 := oi_ptr hz2 k hl
        have HC2 := Lib.hid (own_chosen (oi_pick hz2 k hl))
        have HU := Lib.hid hu
        have HV := Lib.hid (show Vts w2 (.slice co vs.length cav) vs from hv)
        have N2 := Lib.hid n2
        clear hcm hu hv n2 HA HC cp cd c4 c5 s1 s2 s3 hz2
        go_wp2_with fail
        refine HC2.out.mono ?_
        rintro e w2b ⟨ub, rfl, hub, hbb, n1⟩
        rw [HS2.out] at hbb
        obtain ⟨ao, cap, rfl⟩ := bat_form hbb
        have hsz2 := HU.out.size
        have H2 := Lib.hid (own_red2 HZ.out (HU.out.trans hub) hbb (Reads.upd HV.out hub (by simp)) (fun k hk => Nat.le_trans hsz2 (n1 k hk)) N2.out)
        have hnb := HSM.out
        have HB2 := Lib.hid (oi_blk H2.out.drop.drop)
        clear hub hbb n1 HC2 cp2 hsz2 HU HV N2
        go_wp2_with fail
        refine (cert_any x.i x.f x.num x.ahead x.view x.on _ seq ao _ cap co _ cav _ HB2.out).mono ?_
        rintro e w3 ⟨rfl, hu3⟩
        have H3 := Lib.hid (H2.out.upd0 hu3)
        clear hu3 H2 HB2
        have ho3 := H3.out.drop.drop
        have c1 := oi_at ho3 k hl 1 (by omega)
        have c2 := oi_at ho3 k hl 2 (by omega)
        have c3 := oi_at ho3 k hl 3 (by omega)
        have c4 := oi_at ho3 k hl 4 (by omega)
        have c5 := oi_at ho3 k hl 5 (by omega)
        have c6 := oi_at ho3 k hl 6 (by omega)
        have c7 := oi_at ho3 k hl 7 (by omega)
        obtain ⟨fzb, -⟩ := oi_fz ho3
        have z1 := fzb (k * 14 + 1)
        have z2 := fzb (k * 14 + 2)
        have z3 := fzb (k * 14 + 3)
        have z4 := fzb (k * 14 + 4)
        have z5 := fzb (k * 14 + 5)
        have z6 := fzb (k * 14 + 6)
        have z7 := fzb (k * 14 + 7)
        clear ho3 fzb
        simp only [pmCells, List.getElem?_cons_succ, List.getElem?_cons_zero] at c1 c2 c3 c4 c5 c6 c7
        go_wp2_with fail
        have H4 := Lib.hid (oi_ct H3.out k hl x.view x.num seq hnb hnv)
        generalize ((((((w3.setCell ⟨x.b, k * 14 + 1, none⟩ (.bool true)).setCell ⟨x.b, k * 14 + 2, none⟩ (.bool true)).setCell ⟨x.b, k * 14 + 3, none⟩ (.int .i64 x.view)).setCell ⟨x.b, k * 14 + 3 + 1, none⟩ (.int .i64 x.num)).setCell ⟨x.b, k * 14 + 3 + 2, none⟩ (.int .i64 seq)).setCell ⟨x.b, k * 14 + 3 + 3, none⟩ (.slice ao x.l[k].sl.batch.length cap)).setCell ⟨x.b, k * 14 + 3 + 4, none⟩ (.slice co vs.length cav) = w4 at *
        clear c1 c2 c3 c4 c5 c6 c7 z1 z2 z3 z4 z5 z6 z7 H3
        have hq := (oi_cert H4.out k (by simpa using hl)).1
        simp only [List.getElem_set_self] at hq
        obtain ⟨q1, q2, q3, q4⟩ := hq
        have HF := Lib.hid (fresh_ct ⟨x.view, x.num, seq, .slice ao x.l[k].sl.batch.length cap, .slice co vs.length cav, x.l[k].sl.batch, vs⟩ w4 q1 q3 q2 q4)
        clear q1 q2 q3 q4
        have H4L := Lib.hid (show W.heap.size < w4.heap.size from block_lt (own_shut H4.out).drop.blk_out)
        refine HF.out.mono ?_
        rintro e w5 ⟨⟨view', inst', seq', vb', vv', rs', vs'⟩, rfl, hcp, hu5, hb5, hv5, nb, nv⟩
        simp only at hb5 hv5 nb nv
        obtain ⟨ao6, cap6, rfl⟩ := bat_form hb5
        obtain ⟨co6, cav6, rfl⟩ := vts_form hv5
        have H5 := Lib.hid ((own_red2 (own_shut H4.out).swap hu5 hb5 hv5 nb nv).rot)
        have HCP := Lib.hid hcp
        have HB5 := Lib.hid hb5
        have HV5 := Lib.hid hv5
        have NB := Lib.hid nb
        have NV := Lib.hid nv
        clear hcp hu5 hb5 hv5 nb nv H4 HF
        obtain ⟨f0, f1, f2, f3, f4, fl, fz⟩ := ct_cells H5.out.blk_out
        have fz0 := fz 0
        have fz1 := fz 1
        have fz2 := fz 2
        have fz3 := fz 3
        have fz4 := fz 4
        clear fz
        go_wp2_with fail
        have H6 := Lib.hid (own_st5 H5.out view' inst' seq' (.slice ao6 rs'.length cap6) (.slice co6 vs'.length cav6))
        have HU6 := Lib.hid (upd_st5 w5 W.heap.size view' inst' seq' (.slice ao6 rs'.length cap6) (.slice co6 vs'.length cav6))
        generalize ((((w5.setCell ⟨W.heap.size, 0, none⟩ (.int .i64 view')).setCell ⟨W.heap.size, 1, none⟩ (.int .i64 inst')).setCell ⟨W.heap.size, 2, none⟩ (.int .i64 seq')).setCell ⟨W.heap.size, 3, none⟩ (.slice ao6 rs'.length cap6)).setCell ⟨W.heap.size, 4, none⟩ (.slice co6 vs'.length cav6) = w6 at *
        clear f0 f1 f2 f3 f4 fl fz0 fz1 fz2 fz3 fz4 H5
        obtain ⟨f0, f1, f2, f3, f4, fl, -⟩ := ct_cells H6.out.blk_out
        refine bodyPost_ret (v := .tuple #[ctAgg ⟨view', inst', seq', .slice ao6 rs'.length cap6, .slice co6 vs'.length cav6, rs', vs'⟩, .bool true]) (by simp [results, Try.results45, go_sem, f0, f1, f2, f3, f4]) rfl ?_
        have hcp := HCP.out
        simp only [Ct.cp, Cp.mk.injEq] at hcp
        obtain ⟨e1, e2, e3, e4, e5⟩ := hcp
        have hnew : ∀ (v : Value), (∀ k ∈ blkOf v, w4.heap.size ≤ k) → (∀ k ∈ blkOf v, W.heap.size ≤ k) ∧ ∀ k ∈ blkOf v, k ∉ [W.heap.size] := fun v hv => ⟨fun k hk => by have := hv k hk; have := H4L.out; omega, fun k hk hn => by have := hv k hk; have := H4L.out; simp at hn; omega⟩
        refine ⟨⟨view', inst', seq', .slice ao6 rs'.length cap6, .slice co6 vs'.length cav6, rs', vs'⟩, ?_, ?_, ⟨by simp only [e4]; exact hnb, by simp only [e5]; exact hnv⟩, HB5.out.upd HU6.out (hnew _ NB.out).2, Reads.upd HV5.out HU6.out (hnew _ NV.out).2, (hnew _ NB.out).1, (hnew _ NV.out).1,
          x.sl k { x.l[k] with told := true, has := true, ct := ⟨x.view, x.num, seq, .slice ao x.l[k].sl.batch.length cap, .slice co vs.length cav, x.l[k].sl.batch, vs⟩ }, rfl, ?_, H6.out.drop⟩
        · rw [HCI.out]; rfl
        · rw [HCI.out]
          simp only [Ct.cp, Option.map_some, Option.getD_some, Cp.mk.injEq]
          exact ⟨e1, e2, e3, e4, e5⟩
        · rw [show preparedI x.st seq = x.st.upd k fun p => { p with told := true, has := true, ct := ⟨x.view, x.num, seq, x.l[k].sl.batch, vs⟩ } by simp [preparedI, HK.out, HCI.out]]
          exact st_set x k hl _ _ rfl
    · rw [hd] at cd
      have HE := Lib.hid (show prepI x.st seq = none by simp only [prepI, hp]; simp [Pm.pl, hd])
      have H := Lib.hid h
      clear hz h hk hp i2 hks hd hon c5 cp
      go_enter Try.func45, Try.ntmps45
      go_wp2_with fail
      refine HA.out.mono ?_
      rintro e w' ⟨rfl, rfl⟩
      go_wp2_with fail
      exact bodyPost_ret (v := .tuple #[ctAgg noCt, .bool false]) (by simp [results, Try.results45, go_sem, noCt]) rfl (certP_none (H.out.upd0 ((Upd.refl _ _).alloc _)) HE.out (prep_off HE.out))

theorem ai_prepared {i : Nat} {st : In} (h : AtI B w0 W i st ss) (seq : Int) : Calls Try.prog 45 #[.pointer (some ⟨i, 0, none⟩), .int .i64 seq] W fun e w' => ∃ c : Ct, e = .returned (.tuple #[ctAgg c, .bool (prepI st seq).isSome]) ∧ Told W w' (prepI st seq) c ∧ AtI B w0 w' i (preparedI st seq) ss := by
  obtain ⟨x, h1, rfl, h3⟩ := h
  refine (ins_prepared h3 h1 seq).mono ?_
  rintro e w' ⟨c, he, hc, hn, hb, hv, n1, n2, x', e1, e2, e3⟩
  exact ⟨c, he, ⟨hc, hn, hb, hv, n1, n2⟩, x', e1, e2, e3.drop.drop⟩

theorem ai_prepared2 {i : Nat} {st : In} (h : AtI B w0 W i st ss) (seq : Int) : Calls Try.prog 45 #[.pointer (some ⟨i, 0, none⟩), .int .i64 seq] W fun e w' => ∃ c : Ct, e = .returned (.tuple #[ctAgg c, .bool (prepI st seq).isSome]) ∧ Told W w' (prepI st seq) c ∧
    AtI B w0 w' i (preparedI st seq) (redR c.vv 2 c.vs.length (vsCells c.vs) :: redR c.vb 6 c.rs.length (rqsCells c.rs) :: ss) := by
  obtain ⟨x, h1, rfl, h3⟩ := h
  refine (ins_prepared h3 h1 seq).mono ?_
  rintro e w' ⟨c, he, hc, hn, hb, hv, n1, n2, x', e1, e2, e3⟩
  exact ⟨c, he, ⟨hc, hn, hb, hv, n1, n2⟩, x', e1, e2, e3.rot⟩

theorem ai_commits2 {i : Nat} {st : In} (h : AtI B w0 W i st ss) (seq : Int) : Calls Try.prog 36 #[.pointer (some ⟨i, 0, none⟩), .int .i64 seq] W fun e w' => ∃ c : Ct, e = .returned (.tuple #[ctAgg c, .bool (commI st seq).isSome]) ∧ Told W w' (commI st seq) c ∧
    AtI B w0 w' i (commitsI st seq) (redR c.vv 2 c.vs.length (vsCells c.vs) :: redR c.vb 6 c.rs.length (rqsCells c.rs) :: ss) := by
  obtain ⟨x, h1, rfl, h3⟩ := h
  refine (ins_commits h3 h1 seq).mono ?_
  rintro e w' ⟨c, he, hc, hn, hb, hv, n1, n2, x', e1, e2, e3⟩
  exact ⟨c, he, ⟨hc, hn, hb, hv, n1, n2⟩, x', e1, e2, e3.rot⟩

end
end Go.Proofs.Ytdeadekeffficaa

/- inst: Install (of nothing); Certs. -/
namespace Go.Proofs.Ytdeadekeffficaa
open Go.RowKit Go.Heap

theorem Try.infoCert : (Try.prog.info? 70).map (fun i => (i.zero, i.size, i.bytes)) = some (some (.agg #[.int .i64 0, .int .i64 0, .int .i64 0, .slice none 0 0, .slice none 0 0]), 5, 72) := by kernel_rfl

section
variable {B : Nat} {w0 W W' : World} {ss rs : List Res} {x : Ins}

set_option maxHeartbeats 1000000 in
theorem ai_install0 {i : Nat} {st : In} (h : AtI B w0 W i st ss) : Calls Try.prog 44 #[.pointer (some ⟨i, 0, none⟩), .slice none 0 0] W fun e w' => e = .returned (.bool (!st.on)) ∧ AtI B w0 w' i { st with on := true } ss := by
  obtain ⟨x, rfl, rfl, h3⟩ := h
  have ho := own_open h3
  obtain ⟨-, -, -, -, c4, c5, l1, l2⟩ := oi_cells ho
  obtain ⟨-, fz⟩ := oi_fz ho
  have z4 := fz 4
  cases hon : x.on
  · rw [hon] at c4
    have H1 : Hid (AtI B w0 (W.setCell ⟨x.i, 4, none⟩ (.bool true)) x.i { x.st with on := true } ss) := Lib.hid ⟨{ x with on := true }, rfl, rfl, own_shut (by
      have h4 : Own B w0 (W.setCell ⟨x.i, 4, none⟩ (.bool true)) (blk x.i (insO x.f x.num x.ahead x.view true (.slice (some ⟨x.b, 0, none⟩) 16 x.cap)) :: segR x.b 122 (x.l.flatMap pmCells) :: certsR x :: (x.l.map pmR ++ ss)) := Own.store ho 4 (.bool true)
      exact oi_hd h4 (oi_ok ho).vw)⟩
    have HON := Lib.hid (show x.st.on = false from hon)
    clear ho h3 fz hon
    go_enter Try.func44, Try.ntmps44
    go_wp2_with fail
    generalize W.setCell ⟨x.i, 4, none⟩ (.bool true) = w1 at *
    go_loop [26] (fun n => n = .int .i64 0) (fun n => 0)
    case atStart => rfl
    case round =>
      subst hrel
      go_wp2_with fail
      go_ret
      rw [HON.out]
      exact ⟨rfl, H1.out⟩
  · rw [hon] at c4
    have H1 : Hid (AtI B w0 W x.i { x.st with on := true } ss) := Lib.hid ⟨x, rfl, by simp [Ins.st, hon], h3⟩
    have HON := Lib.hid (show x.st.on = true from hon)
    clear ho h3 fz hon z4
    go_enter Try.func44, Try.ntmps44
    go_wp2_with fail
    go_ret
    rw [HON.out]
    exact ⟨rfl, H1.out⟩

/-- Certificates that are only read. -/
def ctsR (cts : List Ct) : Res := imm (fun w D => ∀ c ∈ cts, CtIn w c D) (fun h hk hs c hc => (h c hc).dep hk hs)

theorem cts_add {cts : List Ct} {c : Ct} (h : Own B w0 W (redR c.vv 2 c.vs.length (vsCells c.vs) :: redR c.vb 6 c.rs.length (rqsCells c.rs) :: ctsR cts :: rs)) (hn : c.rs.length ≤ 100000) (hm : c.vs.length ≤ 100000) : Own B w0 W (ctsR (cts ++ [c]) :: rs) := by
  have h1 := h.rot
  refine (h1.alter (r' := ctsR (cts ++ [c])) ?_ (by simp [ctsR, imm])).rot'.drop.drop
  obtain ⟨D, ⟨q1, q2⟩, q3, q4⟩ := h1.head
  obtain ⟨D1, ⟨v1, v2⟩, v3, _⟩ := (h1.all (redR c.vv 2 c.vs.length (vsCells c.vs)) (List.mem_cons_of_mem _ List.mem_cons_self)).1
  obtain ⟨D2, ⟨b1, b2⟩, b3, _⟩ := (h1.all (redR c.vb 6 c.rs.length (rqsCells c.rs)) (List.mem_cons_of_mem _ (List.mem_cons_of_mem _ List.mem_cons_self))).1
  refine ⟨D ++ (D1 ++ D2), ⟨fun c' hc' => ?_, fun k hk => ?_⟩, fun k hk => ?_, q4⟩
  · rcases List.mem_append.1 hc' with hc' | hc'
    · exact (q1 c' hc').mono (by simp +contextual)
    · simp at hc'; subst hc'
      exact ⟨b1.mono (by simp +contextual), hn, v1.mono (by simp +contextual), hm⟩
  · rcases List.mem_append.1 hk with hk | hk
    · exact q2 k hk
    · rcases List.mem_append.1 hk with hk | hk
      · exact v2 k hk
      · exact b2 k hk
  · rcases List.mem_append.1 hk with hk | hk
    · exact q3 k hk
    · rcases List.mem_append.1 hk with hk | hk
      · exact v3 k hk
      · exact b3 k hk

theorem ctCells_one {c : Ct} {a1 : Option Addr} {n1 c1 : Nat} {a2 : Option Addr} {n2 c2 : Nat} (h1 : c.vb = .slice a1 n1 c1) (h2 : c.vv = .slice a2 n2 c2) : ∀ u ∈ ctCells c, u.oneCell' = true := by
  intro u hu
  simp only [ctCells, h1, h2, List.mem_cons, List.not_mem_nil, or_false] at hu
  rcases hu with rfl | rfl | rfl | rfl | rfl <;> rfl

/-- What Certs leaves: certificates in new memory. -/
def CertsP (B : Nat) (w0 : World) (i : Nat) (st : In) (ss : List Res) (e : Ending) (w' : World) : Prop :=
  ∃ (u : Value) (cts : List Ct), e = .returned u ∧ cts.map Ct.cp = certsI st ∧ AtI B w0 w' i st (ownR 70 5 u cts.length (cts.flatMap ctCells) :: ctsR cts :: ss)

theorem certs_take (l : List Pm) (k : Nat) (hk : k < l.length) : ((l.take (k + 1)).filter (·.has)).map (fun p => p.ct.cp) = ((l.take k).filter (·.has)).map (fun p => p.ct.cp) ++ if l[k].has then [l[k].ct.cp] else [] := by
  rw [List.take_succ_eq_append_getElem hk, List.filter_append, List.map_append]
  congr 1
  cases h : l[k].has <;> simp [h]

theorem certs_all (x : Ins) (h : x.l.length = 16) : ((x.l.take 16).filter (·.has)).map (fun p => p.ct.cp) = certsI x.st := by
  rw [List.take_of_length_le (by omega)]
  simp only [certsI, Ins.st, List.filter_map, List.map_map]
  rfl

set_option maxHeartbeats 2000000 in
set_option maxRecDepth 100000 in
theorem ai_certs {i : Nat} {st : In} (h : AtI B w0 W i st ss) : Calls Try.prog 46 #[.pointer (some ⟨i, 0, none⟩)] W (CertsP B w0 i st ss) := by
  obtain ⟨x, rfl, rfl, h3⟩ := h
  obtain ⟨i0, hi, hz0, hz1, hz2⟩ := info_parts Try.infoCert
  have ho := own_open h3
  obtain ⟨-, -, -, -, -, c5, l1, l2⟩ := oi_cells ho
  have HN := Lib.hid (oi_ok ho).n
  have H0 : Hid (Own B w0 W (ownR 70 5 (.slice none 0 0) 0 [] :: ctsR [] :: instR x :: ss)) := Lib.hid ((h3.new (r := ctsR []) (Upd.refl [] _) ⟨[], ⟨by simp, by simp⟩, by simp, fun k hk => h3.lt k hk⟩ (by simp [ctsR, imm])).row0)
  clear ho h3
  go_enter Try.func46, Try.ntmps46
  go_wp2_with fail
  go_loopw [3, 11] (fun out n wr => ∃ (k : Nat) (cts : List Ct) (ao : Option Addr) (cp : Nat), k ≤ 16 ∧ n = .int .i64 k ∧ out = .slice ao cts.length cp ∧ Hid (cts.map Ct.cp = ((x.l.take k).filter (·.has)).map (fun p => p.ct.cp)) ∧ Hid (cts.length ≤ k) ∧
    Hid (Own B w0 wr (ownR 70 5 (.slice ao cts.length cp) cts.length (cts.flatMap ctCells) :: ctsR cts :: instR x :: ss))) (fun _ n _ => 16 - (intOf n).toNat)
  case atStart => exact ⟨0, [], none, 0, by omega, rfl, rfl, Lib.hid rfl, Lib.hid (by simp), H0⟩
  case round =>
    clear H0 c5
    obtain ⟨k, cts, ao, cp, hk, rfl, rfl, HM, HLE, H1⟩ := hrel
    by_cases hlt : k < 16
    · have hkI : (k : Int) < 16 := by omega
      have hl : k < x.l.length := by rw [HN.out]; exact hlt
      have hle := HLE.out
      have h1 := own_open H1.out.rot
      obtain ⟨a1, e1, a2, e2, a3, e3, a4, e4, s1, s2, s3, s4⟩ := ct_shape h1 k hl
      obtain ⟨g0, g1, g2, g3, g4, g5, g6, g7, g8, g9, g10, g11, g12, g13⟩ := oi_row h1 k hl
      have HT := Lib.hid (certs_take x.l k hl)
      have hct := (oi_cert h1 k hl).1
      rw [s1] at g6; rw [s2] at g7; rw [s3] at g12; rw [s4] at g13
      have HS1 := Lib.hid s1
      have HS2 := Lib.hid s2
      have H2 := Lib.hid (H1.out.alloc (.cells #[x.l[k].lc.ptr, .bool x.l[k].told, .bool x.l[k].has, .int .i64 x.l[k].ct.view, .int .i64 x.l[k].ct.inst, .int .i64 x.l[k].ct.seq, .slice a1 x.l[k].ct.rs.length e1, .slice a2 x.l[k].ct.vs.length e2, .bool x.l[k].done, .int .i64 x.l[k].dw.view, .int .i64 x.l[k].dw.inst, .int .i64 x.l[k].dw.seq, .slice a3 x.l[k].dw.rs.length e3, .slice a4 x.l[k].dw.vs.length e4] 122 (0, 0)))
      have HF := Lib.hid (fresh_ct x.l[k].ct (wr.alloc (.cells #[x.l[k].lc.ptr, .bool x.l[k].told, .bool x.l[k].has, .int .i64 x.l[k].ct.view, .int .i64 x.l[k].ct.inst, .int .i64 x.l[k].ct.seq, .slice a1 x.l[k].ct.rs.length e1, .slice a2 x.l[k].ct.vs.length e2, .bool x.l[k].done, .int .i64 x.l[k].dw.view, .int .i64 x.l[k].dw.inst, .int .i64 x.l[k].dw.seq, .slice a3 x.l[k].dw.rs.length e3, .slice a4 x.l[k].dw.vs.length e4] 122 (0, 0))) (Reads.upd (M := []) hct.1 ((Upd.refl _ _).alloc _) (by simp)) hct.2.2.1 (Reads.upd (M := []) hct.2.1 ((Upd.refl _ _).alloc _) (by simp)) hct.2.2.2)
      unfold ctAgg at HF
      rw [HS1.out, HS2.out] at HF
      obtain ⟨hn1, hn2⟩ := hct.2.2
      clear h1 s1 s2 s3 s4 hct H1
      cases hh : x.l[k].has
      · rw [hh] at g2 HT
        have HHH := Lib.hid hh
        clear hh
        go_wp2_with fail
        go_roundw
        case rel => exact ⟨k + 1, cts, ao, cp, by omega, by go_num, rfl, Lib.hid (by rw [HM.out, HT.out]; simp), Lib.hid (by omega), by rw [← HHH.out]; exact H2⟩
        case measure => simp [intOf]; omega
      · rw [hh] at g2 HT HF H2
        clear hh
        go_wp2_with fail
        refine HF.out.mono ?_
        rintro e w2 ⟨⟨view', inst', seq', vb', vv', rs', vs'⟩, rfl, hcp, hu2, hb2, hv2, n1, n2⟩
        simp only at hb2 hv2 n1 n2
        obtain ⟨ao6, cap6, rfl⟩ := bat_form hb2
        obtain ⟨co6, cav6, rfl⟩ := vts_form hv2
        have HCP := Lib.hid hcp
        have H3 := Lib.hid ((own_red2 H2.out hu2 hb2 hv2 n1 n2).rot.alloc (.cells (ctCells ⟨view', inst', seq', .slice ao6 rs'.length cap6, .slice co6 vs'.length cav6, rs', vs'⟩).toArray 70))
        have HO := Lib.hid (ownR_owns H3.out.head)
        clear hcp hu2 hb2 hv2 n1 n2 HF H2 g0 g1 g2 g3 g4 g5 g6 g7 g8 g9 g10 g11 g12 g13
        go_wp2_with (at_builtin; refine wpList_append_lies _ rfl (.tmp 17) (.tmp 21) 80 rfl 0 70 i0 (.agg #[.int .i64 0, .int .i64 0, .int .i64 0, .slice none 0 0, .slice none 0 0]) 5 72 Try.underlying80 hi hz0 hz1 hz2 rfl (by decide) _ cts.length _ rfl HO.out ⟨w2.heap.size, 0, none⟩ 1 1 (ctCells ⟨view', inst', seq', .slice ao6 rs'.length cap6, .slice co6 vs'.length cav6, rs', vs'⟩) rfl rfl ?c1 ?c2 (by decide) ?c3 ?c4 (Nat.zero_le _) _ rfl ?c6)
        case c1 => exact World.news_of_block (heap_alloc_new w2 _)
        case c2 => exact ctCells_one rfl rfl
        case c3 => unfold maxLen; omega
        case c4 => omega
        case c6 =>
          intro g cap2 w3 hown hgrow hat hlt3
          have h4 := (H3.out.grow hgrow (by rw [hs_alloc]; exact hat) hown).perm3
          have hcp := HCP.out
          have e4 : rs' = x.l[k].ct.rs := congrArg Cp.rs hcp
          have e5 : vs' = x.l[k].ct.vs := congrArg Cp.vs hcp
          have h5 := (cts_add (c := ⟨view', inst', seq', .slice ao6 rs'.length cap6, .slice co6 vs'.length cav6, rs', vs'⟩) h4 (by rw [e4]; exact hn1) (by rw [e5]; exact hn2)).swap
          have H5 := Lib.hid h5
          clear h4 h5 hown hgrow hat hlt3 hcp e4 e5
          go_wp2_with fail
          go_roundw
          case rel =>
            refine ⟨k + 1, cts ++ [⟨view', inst', seq', .slice ao6 rs'.length cap6, .slice co6 vs'.length cav6, rs', vs'⟩], some ⟨g, 0, none⟩, cap2, by omega, by go_num, by simp, Lib.hid ?_, Lib.hid (by simp; omega), Lib.hid ?_⟩
            · rw [List.map_append, HM.out, HT.out]
              simp only [if_true, List.map_cons, List.map_nil]
              rw [HCP.out]
            · rw [List.flatMap_append, List.length_append]
              simpa using H5.out
          case measure => simp [intOf]; omega
    · have hk16 : k = 16 := by omega
      subst hk16
      have HCA := Lib.hid (certs_all x HN.out)
      go_wp2_with fail
      go_ret
      exact ⟨_, cts, rfl, by rw [HM.out, HCA.out], x, rfl, rfl, H1.out.rot⟩

end
end Go.Proofs.Ytdeadekeffficaa

/- A slice of batches, only read; plain: preAll batch by batch. -/
namespace Go.Proofs.Ytdeadekeffficaa
open Go.RowKit Go.Heap

/-- Batches in a slice that is only read. -/
def bsR (v : Value) (bs : List (List Rq)) : Res := imm (fun w D => ∃ vals : List Value, ReadsIn w v 1 bs.length vals D ∧ ∀ k (hk : k < bs.length), ∃ u, vals[k]? = some u ∧ BatIn w u bs[k] D)
  (fun ⟨vals, h1, h2⟩ hk hs => ⟨vals, h1.dep hk hs, fun k hkl => let ⟨u, e, hb⟩ := h2 k hkl; ⟨u, e, hb.dep hk hs⟩⟩)

theorem bs_form {w : World} {A : List Nat} {v : Value} {bs : List (List Rq)} (h : (bsR v bs).At w A) : ∃ ao cap, v = .slice ao bs.length cap := by
  obtain ⟨_, ⟨⟨vals, h1, -⟩, -⟩, -⟩ := h
  obtain ⟨ao, cap, e, -⟩ := h1.1
  exact ⟨ao, cap, e⟩

theorem bs_at {w : World} {A : List Nat} {ao : Option Addr} {n cap : Nat} {bs : List (List Rq)} (h : (bsR (.slice ao n cap) bs).At w A) (k : Nat) (hk : k < bs.length) :
    ∃ b o u, ao = some ⟨b, o, none⟩ ∧ b < w.heap.size ∧ w.cell? ⟨b, o + k, none⟩ = some u ∧ Bat w u bs[k] := by
  obtain ⟨_, ⟨⟨vals, h1, h2⟩, -⟩, -⟩ := h
  obtain ⟨ao', cap', e, -, -, -, -, h5⟩ := h1.1
  cases e
  obtain ⟨b, o, rfl, hb, hc⟩ := h5 (by omega)
  obtain ⟨u, e, hu⟩ := h2 k hk
  exact ⟨b, o, u, rfl, hb, by rw [hc k (by omega), e], hu.1⟩

theorem preAll_len : ∀ (bs : List (List Rq)) (ps : List Pl), (preAll bs ps).length = ps.length
  | [], _ => by simp [preAll]
  | _ :: _, [] => by simp [preAll]
  | _ :: bs, p :: ps => by simp [preAll, preAll_len bs ps]

theorem preAll_take : ∀ (bs : List (List Rq)) (ps : List Pl) (k : Nat) (hk : k < bs.length), preAll (bs.take (k + 1)) ps = (preAll (bs.take k) ps).modify k fun p => { p with sl := slPre bs[k] p.sl }
  | [], _, _, hk => by simp at hk
  | b :: bs, [], k, _ => by simp [preAll]
  | b :: bs, p :: ps, 0, _ => by simp [preAll]
  | b :: bs, p :: ps, k + 1, hk => by
    rw [List.take_succ_cons, List.take_succ_cons, preAll, preAll, List.modify_succ_cons, preAll_take bs ps k (by simpa using hk)]
    rfl

section
variable {B : Nat} {w0 W W' : World} {ss rs : List Res} {x : Ins}

set_option maxHeartbeats 1000000 in
theorem ai_install {i : Nat} {st : In} {v : Value} {bs : List (List Rq)} (h : AtI B w0 W i st (bsR v bs :: ss)) (hbn : ∀ b ∈ bs, b.length ≤ 100000) (hon : st.on = false) (hlen : bs.length ≤ 16) :
    Calls Try.prog 44 #[.pointer (some ⟨i, 0, none⟩), v] W fun e w' => e = .returned (.bool true) ∧ AtI B w0 w' i { st with on := true, l := preAll bs st.l } (bsR v bs :: ss) := by
  obtain ⟨ao, cap, rfl⟩ := bs_form h.ss_own.head
  obtain ⟨x, rfl, rfl, h3⟩ := h
  have ho := own_open h3
  obtain ⟨-, -, -, -, c4, c5, l1, l2⟩ := oi_cells ho
  obtain ⟨-, fz⟩ := oi_fz ho
  have z4 := fz 4
  have hon' : x.on = false := hon
  rw [hon'] at c4
  have H1 : Hid (AtI B w0 (W.setCell ⟨x.i, 4, none⟩ (.bool true)) x.i { x.st with on := true } (bsR (.slice ao bs.length cap) bs :: ss)) := Lib.hid ⟨{ x with on := true }, rfl, rfl, own_shut (by
    have h4 : Own B w0 (W.setCell ⟨x.i, 4, none⟩ (.bool true)) (blk x.i (insO x.f x.num x.ahead x.view true (.slice (some ⟨x.b, 0, none⟩) 16 x.cap)) :: segR x.b 122 (x.l.flatMap pmCells) :: certsR x :: (x.l.map pmR ++ (bsR (.slice ao bs.length cap) bs :: ss))) := Own.store ho 4 (.bool true)
    exact oi_hd h4 (oi_ok ho).vw)⟩
  have hlb : decide ((16 : Int) < (bs.length : Int)) = false := by simp; omega
  clear ho h3 fz hon hon'
  generalize hl0 : x.st = st0 at *
  clear hl0
  generalize x.i = i at *
  have HBN := Lib.hid hbn
  clear hbn
  go_enter Try.func44, Try.ntmps44
  go_wp2_with fail
  generalize W.setCell ⟨i, 4, none⟩ (.bool true) = w1 at *
  clear c4 c5 l1 l2 z4 hlb
  go_loopw [26] (fun n wr => ∃ k : Nat, k ≤ bs.length ∧ n = .int .i64 k ∧ Hid (AtI B w0 wr i { st0 with on := true, l := preAll (bs.take k) st0.l } (bsR (.slice ao bs.length cap) bs :: ss))) (fun n _ => bs.length - (intOf n).toNat)
  case atStart => exact ⟨0, by omega, rfl, Lib.hid (by simpa [preAll] using H1.out)⟩
  case round =>
    clear H1
    obtain ⟨k, hk, rfl, H1⟩ := hrel
    by_cases hlt : k < bs.length
    · have hkI : (k : Int) < (bs.length : Int) := by omega
      have hk16 : (k : Int) < 16 := by omega
      obtain ⟨b, o, u, rfl, hb, cu, hbat⟩ := bs_at H1.out.ss_own.head k hlt
      obtain ⟨y, rfl, hy, h3⟩ := H1.out
      have ho := own_open h3
      obtain ⟨-, -, -, -, -, c5, l1, l2⟩ := oi_cells ho
      have hyl : k < y.l.length := by rw [(oi_ok ho).n]; omega
      have cp := oi_ptr ho k hyl
      have HC := Lib.hid (own_pre (oi_pick ho k hyl) u bs[k] hbat (HBN.out _ (List.getElem_mem hlt)))
      have HS := Lib.hid (show ({ y.st with l := y.st.l.modify k fun p => { p with sl := slPre bs[k] p.sl } } : In) = { st0 with on := true, l := preAll (bs.take (k + 1)) st0.l } by rw [hy, preAll_take bs st0.l k hlt])
      have HY := Lib.hid hyl
      obtain ⟨uo, ucap, rfl⟩ := bat_form hbat
      clear ho h3 H1 hy hbat
      go_wp2_with fail
      refine HC.out.mono ?_
      rintro e w2 ⟨rfl, -, h2⟩
      have H2 : Hid (AtI B w0 w2 y.i { st0 with on := true, l := preAll (bs.take (k + 1)) st0.l } (bsR (.slice (some ⟨b, o, none⟩) bs.length cap) bs :: ss)) := Lib.hid
        ⟨y.sl k { y.l[k] with sl := slPre bs[k] y.l[k].sl }, rfl, by rw [← HS.out]; exact st_set y k HY.out _ (fun p => { p with sl := slPre bs[k] p.sl }) rfl, own_shut (oi_unpick k HY.out _ h2 rfl ⟨rfl, rfl⟩ rfl)⟩
      clear h2
      go_wp2_with fail
      go_roundw
      case rel => exact ⟨k + 1, by omega, by go_num, H2⟩
      case measure => simp [intOf]; omega
    · have hkb : decide ((k : Int) < (bs.length : Int)) = false := by simp; omega
      have hke : k = bs.length := by omega
      have H2 : Hid (AtI B w0 wr i { st0 with on := true, l := preAll bs st0.l } (bsR (.slice ao bs.length cap) bs :: ss)) := Lib.hid (by have h := H1.out; rw [hke, List.take_length] at h; exact h)
      clear hke H1
      go_wp2_with fail
      go_ret
      exact ⟨rfl, H2.out⟩

end

end Go.Proofs.Ytdeadekeffficaa

/- ref01.Same, keep.Copy over batches (as keep.Same, slot.fresh). -/
namespace Go.Proofs.Ytdeadekeffficaa
open Go.RowKit Go.Heap

set_option maxHeartbeats 400000 in
theorem sameQ_any (v u : Value) (rs ss : List Rq) (w : World) (hn : rs.length ≤ 100000) (hm : ss.length ≤ 100000) (h : Bat w v rs) (h' : Bat w u ss) :
    Calls Try.prog 86 #[v, u] w fun e w' => e = .returned (.bool (decide (rs = ss))) ∧ Upd [] w w' := by
  obtain ⟨ao, cap, rfl, h1, h2, h3, h4, h5⟩ := h
  obtain ⟨bo, cap', rfl, k1, k2, k3, k4, k5⟩ := h'
  clear h1 h2 h3 h4 k1 k2 k3 k4
  have H5 := Lib.hid h5
  have K5 := Lib.hid k5
  clear h5 k5
  by_cases hlen : rs.length = ss.length
  · have HL := Lib.hid hlen
    have hlb : ((rs.length : Int) != (ss.length : Int)) = false := by simp [hlen]
    have hle1 : rs.length ≤ ss.length := by omega
    have hle2 : ss.length ≤ rs.length := by omega
    clear hlen
    go_enter Try.func86, Try.ntmps86
    go_wp2_with fail
    go_loopw [5] (fun i wr => ∃ k : Nat, k ≤ rs.length ∧ i = .int .i64 k ∧ rs.take k = ss.take k ∧ Below w.heap.size w wr) (fun i _ => rs.length - (intOf i).toNat)
    case atStart => exact ⟨0, by omega, rfl, by simp, Below.refl _ _⟩
    case round =>
      obtain ⟨k, hk, rfl, he, hb⟩ := hrel
      have HE := Lib.hid he
      clear he
      by_cases hlt : k < rs.length
      · obtain ⟨b, o, rfl, hbs, hc⟩ := H5.out (by omega)
        obtain ⟨b', o', rfl, hbs', hc'⟩ := K5.out (by omega)
        have hlt' : k < ss.length := by omega
        obtain ⟨q0, q1, q2, q3, q4, q5⟩ := bat_cells (cells_below hb hbs hc) k rs[k] (by simp)
        obtain ⟨p0, p1, p2, p3, p4, p5⟩ := bat_cells (cells_below hb hbs' hc') k ss[k] (by simp)
        clear hc hc'
        have hkI : (k : Int) < (ss.length : Int) := by omega
        have hkJ : (k : Int) < (rs.length : Int) := by omega
        by_cases he : rs[k] = ss[k]
        · have heq : ∀ wx, (Op.equalIn 10000 32 (rqAgg rs[k]) (rqAgg ss[k])).run Try.prog wx = .ok true wx := fun wx => by rw [run_equal_req]; simp [he]
          have HEK := Lib.hid he
          clear he
          unfold rqAgg at heq
          have hgd := Try.guardReq
          go_wp2_with fail
          go_quiet (fail)
          go_wp2_with fail
          go_roundw
          case rel => exact ⟨k + 1, by omega, by go_num, take_same HE.out hlt hlt' HEK.out, below_drewN hb _⟩
          case measure => simp [intOf]; omega
        · have heq : ∀ wx, (Op.equalIn 10000 32 (rqAgg rs[k]) (rqAgg ss[k])).run Try.prog wx = .ok false wx := fun wx => by rw [run_equal_req]; simp [he]
          have HEK := Lib.hid he
          clear he
          unfold rqAgg at heq
          have hgd := Try.guardReq
          go_wp2_with fail
          go_quiet (fail)
          go_wp2_with fail
          go_ret
          refine ⟨ret_bool ?_, Upd.of_below (below_drewN hb _)⟩
          symm
          rw [decide_eq_false_iff_not]
          intro e
          subst e
          exact HEK.out rfl
      · go_wp2_with fail
        go_ret
        refine ⟨ret_bool ?_, Upd.of_below hb⟩
        symm
        rw [decide_eq_true_iff]
        have h1 := HE.out
        rw [List.take_of_length_le (by omega), List.take_of_length_le (by omega)] at h1
        exact h1
  · have hlb : ((rs.length : Int) != (ss.length : Int)) = true := by simp; omega
    have HL := Lib.hid hlen
    clear hlen
    go_enter Try.func86, Try.ntmps86
    go_wp2_with fail
    go_ret
    refine ⟨ret_bool ?_, Upd.refl _ _⟩
    symm
    rw [decide_eq_false_iff_not]
    intro e
    exact HL.out (by rw [e])

set_option maxHeartbeats 400000 in
theorem copyR_any (v : Value) (rs : List Rq) (w : World) (hn : rs.length ≤ 100000) (h : Bat w v rs) :
    Calls Try.prog 59 #[v] w fun e w' => ∃ v', e = .returned v' ∧ Upd [] w w' ∧ Bat w' v' rs ∧ ∀ k ∈ blkOf v', w.heap.size ≤ k ∧ k < w'.heap.size := by
  obtain ⟨i0, hi, hz0, hz1, hz2⟩ := info_parts Try.infoReq
  have h' := h
  obtain ⟨ao, cap, rfl, h1, h2, h3, h4, h5⟩ := h'
  clear h1 h2 h3
  cases ao with
  | none =>
    obtain ⟨hr, rfl⟩ := h4 rfl
    have : rs = [] := List.eq_nil_of_length_eq_zero hr
    subst this
    clear hr h4 h5
    go_enter Try.func59, Try.ntmps59
    go_wp2
    go_ret
    exact ⟨_, rfl, Upd.refl _ _, Reads.nil _ _, by simp [blkOf]⟩
  | some a =>
    clear h4
    by_cases h0 : rs.length = 0
    · have : rs = [] := List.eq_nil_of_length_eq_zero h0
      subst this
      clear h5 h0
      go_enter Try.func59, Try.ntmps59
      go_wp2
      go_ret
      exact ⟨_, rfl, Upd.refl _ _, Reads.nil _ _, by simp [blkOf]⟩
    · obtain ⟨b, o, hab, hb, hc⟩ := h5 (by omega)
      simp only [Option.some.injEq] at hab
      subst hab
      clear h5
      have hpos : 0 < rs.length := by omega
      clear h0
      have hnews : ∀ j u, (rqsCells rs)[j]? = some u → w.cell? ((⟨b, o, none⟩ : Addr).add j) = some u := by
        intro j u hj
        have hl := (List.getElem?_eq_some_iff.1 hj).1
        rw [rqsCells_length] at hl
        have : (⟨b, o, none⟩ : Addr).add j = ⟨b, o + j, none⟩ := by unfold Addr.add; split <;> simp_all
        rw [this, hc j hl]
        exact hj
      have HN := Lib.hid hnews
      clear hc hnews
      go_enter Try.func59, Try.ntmps59
      go_wp2_with (at_builtin; refine wpList_append_lies _ rfl (.const (.slice none 0 0)) (.tmp 3) 33 rfl w.heap.size 32 i0 (.agg #[.int .i64 0, .int .i64 0, .int .i64 0, .int .i64 0, .int .i64 0, .int .i64 0]) 6 48 Try.underlying33 hi hz0 hz1 hz2 rfl (by decide) _ 0 [] rfl (World.ownsRow_nil _ _ _ _) ⟨b, o, none⟩ rs.length cap (rqsCells rs) rfl (rqsCells_length rs) HN.out (rqsCells_one rs) hpos ?c3 ?c4 (Nat.le_refl _) w.heap.size rfl ?c6)
      case c3 => unfold maxLen; omega
      case c4 => omega
      case c6 =>
        intro g cap2 w2 hown hgrow hat hlt
        have hg : g = w.heap.size := by
          rcases hat with h | h
          · cases h
          · exact h
        subst hg
        try simp only [Nat.zero_add, List.nil_append] at hown
        have HO := Lib.hid hown
        clear hown hat
        go_wp2
        go_ret
        refine ⟨_, rfl, (Upd.refl _ _).grown hgrow (by intro k hk; cases hk), Reads.of_own HO.out, by simp [blkOf]; exact hlt⟩

end Go.Proofs.Ytdeadekeffficaa

/- psephosref12.For: the lowest votes for a batch. -/
namespace Go.Proofs.Ytdeadekeffficaa
open Go.RowKit Go.Heap

/-- A vote of the document's own list. -/
structure Rv where
  node : Int
  sl : Int
  b : Value
  rs : List Rq

def rvCells (r : Rv) : List Value := [.int .i64 r.node, .int .i64 r.sl, r.b]
def RVs (w : World) (v : Value) (l : List Rv) : Prop := Reads w v 3 l.length (l.flatMap rvCells) ∧ ∀ r ∈ l, Bat w r.b r.rs ∧ r.rs.length ≤ 100000

theorem RVs.upd0 {w w' : World} {v : Value} {l : List Rv} (h : RVs w v l) (hu : Upd [] w w') : RVs w' v l :=
  ⟨h.1.upd hu (by simp), fun r hr => ⟨(h.2 r hr).1.upd hu (by simp), (h.2 r hr).2⟩⟩

theorem RVs.at {w : World} {ao : Option Addr} {n cap : Nat} {l : List Rv} (h : RVs w (.slice ao n cap) l) (k : Nat) (hk : k < l.length) :
    n = l.length ∧ ∃ b o, ao = some ⟨b, o, none⟩ ∧ b < w.heap.size ∧ w.cell? ⟨b, o + k * 3, none⟩ = some (.int .i64 l[k].node) ∧ w.cell? ⟨b, o + k * 3 + 1, none⟩ = some (.int .i64 l[k].sl) ∧ w.cell? ⟨b, o + k * 3 + 2, none⟩ = some l[k].b ∧ Bat w l[k].b l[k].rs ∧ l[k].rs.length ≤ 100000 := by
  obtain ⟨⟨ao', cap', hv, h1, h2, h3, h4, h5⟩, hb⟩ := h
  simp only [Value.slice.injEq] at hv
  obtain ⟨rfl, rfl, rfl⟩ := hv
  obtain ⟨b, o, rfl, hbs, hc⟩ := h5 (by omega)
  have hg : ∀ r, r < 3 → w.cell? ⟨b, o + k * 3 + r, none⟩ = (rvCells l[k])[r]? := by
    intro r hr
    have := hc (k * 3 + r) (by omega)
    rw [flat_get (cells := rvCells) (sz := 3) (fun _ => rfl) l k r l[k] (by simp) hr] at this
    rw [← this]
    congr 2
    omega
  obtain ⟨b1, b2⟩ := hb l[k] (by simp)
  exact ⟨rfl, b, o, rfl, hbs, hg 0 (by omega), hg 1 (by omega), hg 2 (by omega), b1, b2⟩

def pickR (batch : List Rq) (l : List Rv) : Vs := (l.filter fun r => decide (r.rs = batch)).map fun r => (r.node, r.sl)
def pickedR (batch : List Rq) (l : List Rv) (q k : Nat) : Vs := (pickR batch (l.take k)).take q
def forS (l : List Rv) (batch : List Rq) (q : Nat) : Option Vs := if (pickR batch l).length < q then none else some ((pickR batch l).take q)

theorem pickedR_zero (batch : List Rq) (l : List Rv) (q : Nat) : pickedR batch l q 0 = [] := by simp [pickedR, pickR]
theorem pickedR_le (batch : List Rq) (l : List Rv) (q k : Nat) : (pickedR batch l q k).length ≤ q := by simp [pickedR]; omega
theorem pickR_app (batch : List Rq) (a b : List Rv) : pickR batch (a ++ b) = pickR batch a ++ pickR batch b := by simp [pickR]

theorem pickedR_succ (batch : List Rq) (l : List Rv) (q k : Nat) (hk : k < l.length) :
    pickedR batch l q (k + 1) = if decide (l[k].rs = batch) && decide ((pickedR batch l q k).length < q) then pickedR batch l q k ++ [(l[k].node, l[k].sl)] else pickedR batch l q k := by
  unfold pickedR
  rw [List.take_succ_eq_append_getElem hk, pickR_app]
  generalize pickR batch (l.take k) = A
  cases hg : decide (l[k].rs = batch)
  · simp [pickR, hg]
  · by_cases hl : A.length < q
    · have e1 : (A.take q).length < q := by rw [List.length_take]; omega
      rw [if_pos (by simp only [Bool.true_and, decide_eq_true_eq]; exact e1), List.take_append, List.take_of_length_le (by omega : A.length ≤ q)]
      congr 1
      have e2 : pickR batch [l[k]] = [(l[k].node, l[k].sl)] := by simp [pickR, hg]
      rw [e2, List.take_of_length_le (by simp; omega)]
    · have e1 : ¬ (A.take q).length < q := by rw [List.length_take]; omega
      rw [if_neg (by simp only [Bool.true_and, decide_eq_true_eq]; exact e1), List.take_append_of_le_length (by omega)]

theorem pickedR_full (batch : List Rq) (l : List Rv) (q k : Nat) (hq : ¬ (pickedR batch l q k).length < q) : pickedR batch l q l.length = pickedR batch l q k := by
  unfold pickedR at hq ⊢
  rw [List.length_take] at hq
  conv => lhs; rw [List.take_of_length_le (Nat.le_refl _), ← List.take_append_drop k l, pickR_app]
  rw [List.take_append_of_le_length (by omega)]

theorem for_none {l : List Rv} {batch : List Rq} {q : Nat} (h : (pickedR batch l q l.length).length < q) : forS l batch q = none := by
  simp only [pickedR, List.take_length, List.length_take] at h
  unfold forS
  rw [if_pos (by omega)]

theorem for_some {l : List Rv} {batch : List Rq} {q : Nat} (h : ¬ (pickedR batch l q l.length).length < q) : forS l batch q = some (pickedR batch l q l.length) := by
  simp only [pickedR, List.take_length, List.length_take] at h ⊢
  unfold forS
  rw [if_neg (by omega)]

set_option maxHeartbeats 1000000 in
set_option maxRecDepth 100000 in
theorem for_any (v bv : Value) (l : List Rv) (batch : List Rq) (q : Nat) (w : World) (hq : q ≤ 100) (hv : RVs w v l) (hb : Bat w bv batch) (hbl : batch.length ≤ 100000) :
    Calls Try.prog 62 #[v, bv, .int .i64 q] w fun e w' =>
      ∃ u, e = .returned (.tuple #[u, .bool (forS l batch q).isSome]) ∧ Below w.heap.size w w' ∧ Vts w' u ((forS l batch q).getD []) ∧ ∀ k ∈ blkOf u, w.heap.size ≤ k := by
  obtain ⟨i0, hi, hz0, hz1, hz2⟩ := info_parts Try.infoVote
  obtain ⟨ao, cap, rfl, hl1, hl2, -⟩ := hv.1
  have hmx : l.length ≤ 9223372036854775807 := by unfold maxLen at hl2; omega
  clear hl1 hl2
  have HV := Lib.hid hv
  have HB := Lib.hid hb
  clear hv hb
  go_enter Try.func62, Try.ntmps62
  go_upto_block 0 with fail
  go_cut [8] (fun out wx => ∃ (ao2 : Option Addr) (cp : Nat), out = .slice ao2 (pickedR batch l q l.length).length cp ∧ Below w.heap.size w wx ∧
      Hid (wx.ownsRow w.heap.size 44 2 (.slice ao2 (pickedR batch l q l.length).length cp) (pickedR batch l q l.length).length (vsCells (pickedR batch l q l.length))))
  case first =>
    go_wp2_with fail
    go_loopw [8, 9] (fun out i wr => ∃ (k : Nat) (ao2 : Option Addr) (cp : Nat), k ≤ l.length ∧ i = .int .i64 k ∧ out = .slice ao2 (pickedR batch l q k).length cp ∧ Below w.heap.size w wr ∧
        Hid (wr.ownsRow w.heap.size 44 2 (.slice ao2 (pickedR batch l q k).length cp) (pickedR batch l q k).length (vsCells (pickedR batch l q k)))) (fun _ i _ => l.length - (intOf i).toNat)
    case atStart =>
      refine ⟨0, none, 0, by omega, rfl, ?_, Below.refl _ _, ?_⟩
      · rw [pickedR_zero]; rfl
      · rw [pickedR_zero]; exact World.ownsRow_nil _ _ _ _
    case round =>
      obtain ⟨k, ao2, cp, hk, rfl, rfl, hbel, hown⟩ := hrel
      have hz := hbel.size
      by_cases hlt : k < l.length
      · have hsucc := Lib.hid (pickedR_succ batch l q k hlt)
        have hfull := Lib.hid (fun h => pickedR_full batch l q k h)
        have hple := pickedR_le batch l q k
        generalize pickedR batch l q k = A at *
        have hkI : (k : Int) < (l.length : Int) := by omega
        by_cases hlen : A.length < q
        · have hqI : (A.length : Int) < (q : Int) := by omega
          have hvr := HV.out.upd0 (Upd.of_below hbel)
          obtain ⟨-, b, o, rfl, hbs, c0, c1, c2, hbat, hlk⟩ := hvr.at k hlt
          have HBAT := Lib.hid hbat
          have HBR := Lib.hid (HB.out.upd (M := []) (Upd.of_below hbel) (by simp))
          clear hvr hbat
          go_wp2_with fail
          refine (sameQ_any _ bv l[k].rs batch _ hlk hbl HBAT.out HBR.out).mono ?_
          rintro e w2 ⟨rfl, hu2⟩
          have hbB := hu2.below
          have x0 : w2.cell? ⟨b, o + k * 3, none⟩ = some (.int .i64 l[k].node) := (hbB.cell (p := ⟨b, o + k * 3, none⟩) hbs).trans c0
          have x1 : w2.cell? ⟨b, o + k * 3 + 1, none⟩ = some (.int .i64 l[k].sl) := (hbB.cell (p := ⟨b, o + k * 3 + 1, none⟩) hbs).trans c1
          have hbelw : Below w.heap.size w w2 := hbel.trans (hbB.mono hz)
          have hzz := hbelw.size
          clear c0 c1 c2
          by_cases hsm : l[k].rs = batch
          · have HSM := Lib.hid hsm
            rw [decide_eq_true hsm]
            clear hsm
            rw [HSM.out] at hsucc
            have ho3 := ((owns_upd (M := []) hown.out hu2.drew (by simp))).alloc (.cells #[.int .i64 l[k].node, .int .i64 l[k].sl] 44)
            have HO := Lib.hid ho3
            clear ho3
            go_wp2_with fail
            refine Mix.wp_text2 (by kernel_rfl) (by kernel_rfl) ?_
            have hle : A.length ≤ 100 := by omega
            go_wp2_with (at_builtin; refine wpList_append_lies _ rfl (.tmp 29) (.tmp 41) 37 rfl w.heap.size 44 i0 (.agg #[.int .i64 0, .int .i64 0]) 2 16 Try.underlying37 hi hz0 hz1 hz2 rfl (by decide) _ A.length (vsCells A) rfl HO.out ⟨w2.heap.size, 0, none⟩ 1 1 [.int .i64 l[k].node, .int .i64 l[k].sl] rfl rfl ?c1 ?c2 (by decide) ?c3 ?c4 ?c5 (w2.heap.size + 1) (by simp) ?c6)
            case c1 => intro j u hj; match j, hj with | 0, hj => simp at hj; subst hj; simp [Addr.add] | 1, hj => simp at hj; subst hj; simp [Addr.add]
            case c2 => intro u hu; simp at hu; rcases hu with rfl | rfl <;> rfl
            case c3 => unfold maxLen; omega
            case c4 => omega
            case c5 => simp; omega
            case c6 =>
              intro g cap2 w3 hown3 hgrow hat hlt3
              have hsucc' : pickedR batch l q (k + 1) = A ++ [(l[k].node, l[k].sl)] := by rw [hsucc.out, decide_eq_true hlen]; simp
              have HSU := Lib.hid hsucc'
              clear hsucc'
              have H3 := Lib.hid hown3
              clear hown3
              have hbel3 : Below w.heap.size w w3 := (((Upd.of_below hbelw).drew).below.alloc (Nat.le_trans hbelw.size (Nat.le_refl _)) _).grown hgrow (by simp; omega) (by intro j hj; exact (hown.out.lt j hj).1)
              go_wp2_with fail
              refine ⟨by rfl, ?_⟩
              go_wp2_with fail
              go_roundw
              case rel =>
                refine ⟨k + 1, some ⟨g, 0, none⟩, cap2, by omega, by go_num, ?_, hbel3, ?_⟩
                · rw [HSU.out]; simp
                · rw [HSU.out, vsCells_app, List.length_append]; exact H3
              case measure => simp [intOf]; omega
          · have HSM := Lib.hid hsm
            rw [decide_eq_false hsm]
            clear hsm
            go_wp2_with fail
            go_roundw
            have hsucc' : pickedR batch l q (k + 1) = A := by rw [hsucc.out, decide_eq_false HSM.out]; rfl
            case rel =>
              refine ⟨k + 1, ao2, cp, by omega, by go_num, by rw [hsucc'], hbelw, ?_⟩
              rw [hsucc']
              exact owns_upd (M := []) hown.out hu2 (by simp)
            case measure => simp [intOf]; omega
        · have hqI : ¬ (A.length : Int) < (q : Int) := by omega
          have hqb : decide ((A.length : Int) < (q : Int)) = false := by simp; omega
          go_wp2_with fail
          go_meet
          refine ⟨ao2, cp, ?_, hbel, ?_⟩
          · rw [hfull.out hlen]
          · rw [hfull.out hlen]; exact hown
      · have hkl : k = l.length := by omega
        subst hkl
        have hkI : ¬ (l.length : Int) < (l.length : Int) := by omega
        go_wp2_with fail
        go_meet
        exact ⟨ao2, cp, rfl, hbel, hown⟩
  case rest =>
    obtain ⟨ao2, cp, rfl, hbel, hown⟩ := hcut
    have HN := Lib.hid (fun h => for_none (l := l) (batch := batch) (q := q) h)
    have HY := Lib.hid (fun h => for_some (l := l) (batch := batch) (q := q) h)
    have hple := pickedR_le batch l q l.length
    generalize pickedR batch l q l.length = A at *
    by_cases hlen : A.length < q
    · have hqI : (A.length : Int) < (q : Int) := by omega
      go_wp2_with fail
      go_ret2
      refine ⟨.slice none 0 0, ?_, hbel, ?_, ?_⟩
      · rw [HN.out hlen]; rfl
      · rw [HN.out hlen]; exact Reads.nil _ _
      · simp [blkOf]
    · have hqI : ¬ (A.length : Int) < (q : Int) := by omega
      have hqb : decide ((A.length : Int) < (q : Int)) = false := by simp; omega
      go_wp2_with fail
      go_ret2
      obtain ⟨r1, r2⟩ := vts_of_own rfl hown.out
      refine ⟨.slice ao2 A.length cp, ?_, hbel, ?_, r2⟩
      · rw [HY.out hlen]; rfl
      · rw [HY.out hlen]; exact r1

end Go.Proofs.Ytdeadekeffficaa

/- (*psephosref12.Slot).Committed: the batch that enough have committed. -/
namespace Go.Proofs.Ytdeadekeffficaa
open Go.RowKit Go.Heap

def rcommL (all : List Rv) (q : Nat) : List Rv → Option (List Rq × Vs)
  | [] => none
  | r :: t => match forS all r.rs q with | some vs => some (r.rs, vs) | none => rcommL all q t

def RcommPost (w : World) (r : Option (List Rq × Vs)) (e : Ending) (w' : World) : Prop :=
  ∃ v u, e = .returned (.tuple #[v, u, .bool r.isSome]) ∧ Below w.heap.size w w' ∧ Bat w' v (batchOf r) ∧ Vts w' u (votesOf r)

set_option maxHeartbeats 1000000 in
set_option maxRecDepth 100000 in
theorem rcomm_any (s : Nat) (v : Value) (l : List Rv) (q : Nat) (w : World) (hq : q ≤ 100) (hs : s < w.heap.size) (hc : w.cell? ⟨s, 3, none⟩ = some v) (hv : RVs w v l) :
    Calls Try.prog 63 #[.pointer (some ⟨s, 0, none⟩), .int .i64 q] w (RcommPost w (rcommL l q l)) := by
  obtain ⟨ao, cap, rfl, hl1, hl2, -⟩ := hv.1
  have hmx : l.length ≤ 9223372036854775807 := by unfold maxLen at hl2; omega
  clear hl1 hl2
  have HV := Lib.hid hv
  clear hv
  go_enter Try.func63, Try.ntmps63
  go_wp2_with fail
  go_loopw [7] (fun i wr => ∃ k : Nat, k ≤ l.length ∧ i = .int .i64 k ∧ Below w.heap.size w wr ∧ Hid (rcommL l q l = rcommL l q (l.drop k))) (fun i _ => l.length - (intOf i).toNat)
  case atStart => exact ⟨0, by omega, rfl, Below.refl _ _, by rfl⟩
  case round =>
    obtain ⟨k, hk, rfl, hbel, hcom⟩ := hrel
    have hz := hbel.size
    have k3 := (hbel.cell (p := ⟨s, 3, none⟩) hs).trans hc
    by_cases hlt : k < l.length
    · have hkI : (k : Int) < (l.length : Int) := by omega
      have hvr := HV.out.upd0 (Upd.of_below hbel)
      obtain ⟨-, b, o, rfl, hbs, c0, c1, c2, hbat, hlk⟩ := hvr.at k hlt
      have hdrop := Lib.hid (List.drop_eq_getElem_cons hlt)
      have hsr : s < wr.heap.size := Nat.lt_of_lt_of_le hs hz
      have HBAT := Lib.hid hbat
      have hen := for_any (.slice (some ⟨b, o, none⟩) l.length cap) l[k].b l l[k].rs q wr.drew hq (hvr.upd0 (Upd.refl _ _).drew) (hbat.upd (M := []) (Upd.refl _ _).drew (by simp)) hlk
      simp only [hs_drew] at hen
      clear hvr c0 c1 hbat
      go_wp2_with fail
      refine Mix.wp_text2 (by kernel_rfl) (by kernel_rfl) ?_
      go_wp2_with fail
      cases hr : forS l l[k].rs q with
      | none =>
        rw [hr] at hen
        have HR := Lib.hid hr
        clear hr
        refine hen.mono ?_
        clear hen
        rintro e w2 ⟨u, rfl, hb1, -, -⟩
        go_wp2_with fail
        refine ⟨by rfl, ?_⟩
        go_wp2_with fail
        go_roundw
        case rel =>
          refine ⟨k + 1, by omega, by go_num, hbel.drew.trans (hb1.mono hz), ?_⟩
          have h1 := hcom.out
          rw [hdrop.out] at h1
          show rcommL l q l = _
          rw [h1, rcommL, HR.out]
        case measure => simp [intOf]; omega
      | some vs =>
        rw [hr] at hen
        have HR := Lib.hid hr
        clear hr
        refine hen.mono ?_
        clear hen
        rintro e w2 ⟨u, rfl, hb1, hvv, -⟩
        have HV2 := Lib.hid hvv
        clear hvv
        have x3 : w2.cell? ⟨s, 3, none⟩ = some (.slice (some ⟨b, o, none⟩) l.length cap) := (hb1.cell (p := ⟨s, 3, none⟩) hsr).trans k3
        have x2 : w2.cell? ⟨b, o + k * 3 + 2, none⟩ = some l[k].b := (hb1.cell (p := ⟨b, o + k * 3 + 2, none⟩) hbs).trans c2
        go_wp2_with fail
        refine ⟨by rfl, ?_⟩
        go_wp2_with fail
        go_ret3
        have hcs : rcommL l q l = some (l[k].rs, vs) := by rw [hcom.out, hdrop.out, rcommL, HR.out]
        refine ⟨l[k].b, u, by rw [hcs]; rfl, hbel.drew.trans (hb1.mono hz), ?_, ?_⟩
        · rw [hcs]; exact (HBAT.out.upd (M := []) (Upd.refl _ _).drew (by simp)).upd (M := []) (Upd.of_below (w := wr.drew) hb1) (by simp)
        · rw [hcs]; exact HV2.out
    · have hkl : k = l.length := by omega
      subst hkl
      have hkI : ¬ (l.length : Int) < (l.length : Int) := by omega
      go_wp2_with fail
      go_ret3
      have hcs : rcommL l q l = none := by rw [hcom.out, List.drop_length]; rfl
      refine ⟨.slice none 0 0, .slice none 0 0, by rw [hcs]; rfl, hbel, ?_, ?_⟩
      · rw [hcs]; exact Reads.nil _ _
      · rw [hcs]; exact Reads.nil _ _

end Go.Proofs.Ytdeadekeffficaa

/- A law's state: slots, blocks that stay, batches that stay. -/
namespace Go.Proofs.Ytdeadekeffficaa
open Go.RowKit Go.Heap

def avoid (ss : List (Loc × Sl)) : List Nat := ss.flatMap fun p => p.1.M
/-- What no slot's batch lies in. -/
def outs (ss : List (Loc × Sl)) (ks : List (Nat × Obj)) : List Nat := avoid ss ++ ks.map (·.1)

theorem On.more {w w' : World} {L : Loc} {st : Sl} {A : List Nat} {k : Nat} (h : On w L st A) (hu : Upd [] w w') (h1 : w.heap.size ≤ k) (h2 : k < w'.heap.size) : On w' L st (k :: A) := by
  obtain ⟨D, q1, q2, q3⟩ := h.upd0 hu
  obtain ⟨D', r1, r2, r3⟩ := h
  refine ⟨D', r1.upd hu (by simp) (by simp) (by simp) (by simp), fun j hj hn => ?_, fun j hj => ?_⟩
  · rcases List.mem_cons.1 hn with rfl | hn
    · have := r1.Dw j hj; omega
    · exact r2 j hj hn
  · rcases List.mem_cons.1 hj with rfl | hj
    · exact h2
    · exact q3 j hj

structure Ws (B : Nat) (w0 W : World) (ss : List (Loc × Sl)) (ks : List (Nat × Obj)) (bs : List (Value × List Rq)) : Prop where
  below : Below B w0 W
  size : B ≤ W.heap.size
  on : ∀ p ∈ ss, (∀ k ∈ p.1.M, B ≤ k) ∧ On W p.1 p.2 (outs ss ks)
  apart : ss.Pairwise fun p q => ∀ k ∈ p.1.M, k ∉ q.1.M
  keep : ∀ p ∈ ks, W.heap[p.1]? = some p.2 ∧ p.1 ∉ avoid ss
  bat : ∀ p ∈ bs, Bat W p.1 p.2 ∧ ∀ b ∈ blkOf p.1, b ∉ avoid ss ∧ b < W.heap.size

section
variable {B : Nat} {w0 W W' : World} {ss : List (Loc × Sl)} {ks : List (Nat × Obj)} {bs : List (Value × List Rq)}

theorem avoid_cons (p : Loc × Sl) (ss : List (Loc × Sl)) (k : Nat) : k ∈ avoid (p :: ss) ↔ k ∈ p.1.M ∨ k ∈ avoid ss := by simp [avoid]
theorem outs_iff (ss : List (Loc × Sl)) (ks : List (Nat × Obj)) (k : Nat) : k ∈ outs ss ks ↔ k ∈ avoid ss ∨ ∃ p ∈ ks, p.1 = k := by simp [outs]
theorem mem_outs {k : Nat} (h : k ∈ avoid ss) : k ∈ outs ss ks := (outs_iff ss ks k).2 (.inl h)
theorem mem_avoid {p : Loc × Sl} (h : p ∈ ss) {k : Nat} (hk : k ∈ p.1.M) : k ∈ avoid ss := by
  simp only [avoid, List.mem_flatMap]; exact ⟨p, h, hk⟩

theorem Ws.lt (h : Ws B w0 W ss ks bs) : ∀ k ∈ avoid ss, k < W.heap.size := by
  intro k hk
  simp only [avoid, List.mem_flatMap] at hk
  obtain ⟨p, hp, hk⟩ := hk
  exact (h.on p hp).2.lt k hk

theorem Ws.upd0 (h : Ws B w0 W ss ks bs) (hu : Upd [] W W') : Ws B w0 W' ss ks bs where
  below := h.below.trans (hu.below.mono h.size)
  size := Nat.le_trans h.size hu.size
  on := fun p hp => ⟨(h.on p hp).1, (h.on p hp).2.upd0 hu⟩
  apart := h.apart
  keep := fun p hp => ⟨(hu.block _ (block_lt (h.keep p hp).1) (by simp)).trans (h.keep p hp).1, (h.keep p hp).2⟩
  bat := fun p hp => ⟨(h.bat p hp).1.upd hu (by simp), fun b hb => ⟨((h.bat p hp).2 b hb).1, Nat.lt_of_lt_of_le ((h.bat p hp).2 b hb).2 hu.size⟩⟩

theorem Ws.alloc (h : Ws B w0 W ss ks bs) (o : Obj) : Ws B w0 (W.alloc o) ss ks bs := h.upd0 ((Upd.refl _ _).alloc o)
theorem Ws.drew (h : Ws B w0 W ss ks bs) : Ws B w0 W.drew ss ks bs := h.upd0 (Upd.refl _ _).drew

/-- A new block is kept. -/
theorem Ws.box (h : Ws B w0 W ss ks bs) (o : Obj) : Ws B w0 (W.alloc o) ss ((W.heap.size, o) :: ks) bs := by
  have h' := h.alloc o
  refine ⟨h'.below, h'.size, fun p hp => ⟨(h.on p hp).1, ((h.on p hp).2.more ((Upd.refl _ _).alloc o) (Nat.le_refl _) (by simp)).avoid (A' := outs ss ((W.heap.size, o) :: ks)) fun k hk => ?_⟩, h'.apart, fun p hp => ?_, h'.bat⟩
  · rcases (outs_iff _ _ k).1 hk with hk | ⟨q, hq, rfl⟩
    · exact List.mem_cons_of_mem _ (mem_outs hk)
    · rcases List.mem_cons.1 hq with rfl | hq
      · exact List.mem_cons_self
      · exact List.mem_cons_of_mem _ ((outs_iff _ _ _).2 (.inr ⟨q, hq, rfl⟩))
  rcases List.mem_cons.1 hp with rfl | hp
  · exact ⟨heap_alloc_new W _, fun hn => by have := h.lt _ hn; simp at this⟩
  · exact h'.keep p hp

theorem Ws.batch (h : Ws B w0 W ss ks bs) (c t : Int) : Ws B w0 (W.alloc (rqObj c t)) ss ks ((sl1 W.heap.size, [rq c t]) :: bs) := by
  have h' := h.alloc (rqObj c t)
  refine ⟨h'.below, h'.size, h'.on, h'.apart, h'.keep, fun p hp => ?_⟩
  rcases List.mem_cons.1 hp with rfl | hp
  · refine ⟨bat_one (heap_alloc_new W _), fun b hb => ?_⟩
    simp [blkOf] at hb
    subst hb
    exact ⟨fun hn => by have := h.lt _ hn; omega, by simp⟩
  · exact h'.bat p hp

/-- A cell of a kept block is stored. -/
theorem Ws.store {b : Nat} {o : Obj} (h : Ws B w0 W ss ((b, o) :: ks) bs) (hB : B ≤ b) (hk : ∀ p ∈ ks, p.1 ≠ b) (hb : ∀ p ∈ bs, b ∉ blkOf p.1) (i : Nat) (v : Value) : Ws B w0 (W.setCell ⟨b, i, none⟩ v) ss ((b, setIn i v o) :: ks) bs := by
  have hu : Upd [b] W (W.setCell ⟨b, i, none⟩ v) := (Upd.refl _ _).setCell (.inl (by simp)) v
  have hbb := h.keep (b, o) (by simp)
  refine ⟨h.below.trans (hu.belowB h.size (by simpa using hB)), by rw [hs_set]; exact h.size, fun p hp => ⟨(h.on p hp).1, ?_⟩, h.apart, fun p hp => ?_, fun p hp => ?_⟩
  · refine ((h.on p hp).2.upd hu (fun k hk => ?_)).avoid (A' := outs ss ((b, setIn i v o) :: ks)) (fun k hk => hk)
    have hk := List.mem_singleton.1 hk
    subst hk
    exact ⟨fun hn => hbb.2 (mem_avoid hp hn), (outs_iff _ _ _).2 (.inr ⟨(k, o), by simp, rfl⟩)⟩
  · rcases List.mem_cons.1 hp with rfl | hp
    · exact ⟨by show (W.setCell ⟨b, i, none⟩ v).heap[b]? = _; rw [hp_same rfl, hbb.1]; rfl, hbb.2⟩
    · exact ⟨by rw [hp_other (hk p hp)]; exact (h.keep p (List.mem_cons_of_mem _ hp)).1, (h.keep p (List.mem_cons_of_mem _ hp)).2⟩
  · obtain ⟨q1, q2⟩ := h.bat p hp
    exact ⟨q1.upd hu (by intro k hkk e; have e := List.mem_singleton.1 e; rw [e] at hkk; exact hb p hp hkk), fun k hk => ⟨(q2 k hk).1, by rw [hs_set]; exact (q2 k hk).2⟩⟩

/-- The kept blocks turn: those that are written are named; new ones are kept from now on. -/
theorem Ws.turn {N : List Nat} (h : Ws B w0 W ss ks bs) (hu : Upd N W W') (ks' : List (Nat × Obj)) (hN : ∀ k ∈ N, (∃ p ∈ ks, p.1 = k) ∧ B ≤ k ∧ ∀ p ∈ bs, k ∉ blkOf p.1)
    (hk : ∀ p ∈ ks', W'.heap[p.1]? = some p.2 ∧ ((∃ q ∈ ks, q.1 = p.1) ∨ W.heap.size ≤ p.1)) : Ws B w0 W' ss ks' bs := by
  have hNa : ∀ k ∈ N, k ∉ avoid ss := by
    intro k hkN
    obtain ⟨⟨q, hq, rfl⟩, _, _⟩ := hN k hkN
    exact (h.keep q hq).2
  have hNo : ∀ k ∈ N, k ∈ outs ss ks := fun k hkN => (outs_iff _ _ k).2 (.inr (hN k hkN).1)
  refine ⟨h.below.trans (hu.belowB h.size fun k hkN => (hN k hkN).2.1), Nat.le_trans h.size hu.size, fun p hp => ⟨(h.on p hp).1, ?_⟩, h.apart, fun p hp => ⟨(hk p hp).1, ?_⟩, fun p hp => ⟨(h.bat p hp).1.upd hu (fun b hb hn => (hN b hn).2.2 p hp hb), fun b hb => ⟨((h.bat p hp).2 b hb).1, Nat.lt_of_lt_of_le ((h.bat p hp).2 b hb).2 hu.size⟩⟩⟩
  · have hon' := (h.on p hp).2.upd hu fun k hkN => ⟨fun hn => hNa k hkN (mem_avoid hp hn), hNo k hkN⟩
    obtain ⟨D, q1, q2, q3⟩ := (h.on p hp).2
    have hm : ∀ k, k ∈ p.1.M → k ∉ N := fun k hk hn => hNa k hn (mem_avoid hp hk)
    refine ⟨D, q1.upd hu (hm _ (by simp [Loc.M])) (hm _ (by simp [Loc.M])) (hm _ (by simp [Loc.M])) (fun k hkD hn => q2 k hkD (hNo k hn)), fun k hkD hn => ?_, fun k hkO => ?_⟩
    · rcases (outs_iff _ _ k).1 hn with hn | ⟨q, hq, rfl⟩
      · exact q2 k hkD (mem_outs hn)
      · rcases (hk q hq).2 with hin | hge
        · exact q2 _ hkD ((outs_iff _ _ _).2 (.inr hin))
        · have := q1.Dw _ hkD; omega
    · rcases (outs_iff _ _ k).1 hkO with hn | ⟨q, hq, rfl⟩
      · exact Nat.lt_of_lt_of_le (h.lt k hn) hu.size
      · exact block_lt (hk q hq).1
  · rcases (hk p hp).2 with ⟨q, hq, he⟩ | hge
    · rw [← he]; exact (h.keep q hq).2
    · intro hn; have := h.lt _ hn; omega

theorem Ws.drop {k : Nat × Obj} (h : Ws B w0 W ss (k :: ks) bs) : Ws B w0 W ss ks bs :=
  h.turn (Upd.refl [] _) ks (by simp) fun p hp => ⟨(h.keep p (by simp [hp])).1, .inl ⟨p, by simp [hp], rfl⟩⟩

/-- A block that is this call's to write (a slice that it appends to). -/
def Scr (B : Nat) (w0 W : World) (ss : List (Loc × Sl)) (ks : List (Nat × Obj)) (bs : List (Value × List Rq)) : Option Nat → Prop
  | none => Ws B w0 W ss ks bs
  | some b => ∃ o, Ws B w0 W ss ((b, o) :: ks) bs ∧ B ≤ b ∧ (∀ p ∈ ks, p.1 ≠ b) ∧ ∀ p ∈ bs, b ∉ blkOf p.1

theorem Scr.ws {r : Option Nat} (h : Scr B w0 W ss ks bs r) : Ws B w0 W ss ks bs := by
  cases r with
  | none => exact h
  | some b => obtain ⟨o, h1, _⟩ := h; exact h1.drop

theorem Scr.upd0 {r : Option Nat} (h : Scr B w0 W ss ks bs r) (hu : Upd [] W W') : Scr B w0 W' ss ks bs r := by
  cases r with
  | none => exact Ws.upd0 h hu
  | some b => obtain ⟨o, h1, h2⟩ := h; exact ⟨o, h1.upd0 hu, h2⟩

theorem Scr.alloc {r : Option Nat} (h : Scr B w0 W ss ks bs r) (o : Obj) : Scr B w0 (W.alloc o) ss ks bs r := h.upd0 ((Upd.refl _ _).alloc o)

theorem Scr.grown {r : Option Nat} {g : Nat} (h : Scr B w0 W ss ks bs r) (hg : W.grownBy W' r) (hat : r = some g ∨ g = W.heap.size) (hlt : g < W'.heap.size) : Scr B w0 W' ss ks bs (some g) := by
  have hw := h.ws
  obtain ⟨o', ho'⟩ : ∃ o', W'.heap[g]? = some o' := ⟨_, Array.getElem?_eq_getElem hlt⟩
  cases r with
  | none =>
    have hat : g = W.heap.size := by rcases hat with h | h; (cases h); exact h
    have hu : Upd [] W W' := (Upd.refl _ _).grown hg (by intro k hk; cases hk)
    refine ⟨o', hw.turn hu _ (by simp) (fun p hp => ?_), by have := hw.size; omega, fun p hp => by have := block_lt (hw.keep p hp).1; omega, fun p hp hb => by have := ((hw.bat p hp).2 g hb).2; omega⟩
    rcases List.mem_cons.1 hp with rfl | hp
    · exact ⟨ho', .inr (by simp [hat])⟩
    · exact ⟨(hu.block _ (block_lt (hw.keep p hp).1) (by simp)).trans (hw.keep p hp).1, .inl ⟨p, hp, rfl⟩⟩
  | some b =>
    obtain ⟨o, h1, hB, hk, hbs⟩ := h
    have hu : Upd [b] W W' := (Upd.refl _ _).grown hg (by intro k hk; cases hk; simp)
    have hg' : g = b ∨ g = W.heap.size := by rcases hat with h | h; (injection h with h; exact .inl h.symm); exact .inr h
    refine ⟨o', h1.turn hu _ (fun k hkN => ?_) (fun p hp => ?_), by have := hw.size; omega, fun p hp => ?_, fun p hp hb => ?_⟩
    · have := List.mem_singleton.1 hkN; subst this; exact ⟨⟨(k, o), by simp, rfl⟩, hB, hbs⟩
    · rcases List.mem_cons.1 hp with rfl | hp
      · exact ⟨ho', hg'.elim (fun e => .inl ⟨(b, o), by simp, e.symm⟩) (fun e => .inr (by simp [e]))⟩
      · exact ⟨(hu.block _ (block_lt (hw.keep p hp).1) (by simpa using hk p hp)).trans (hw.keep p hp).1, .inl ⟨p, by simp [hp], rfl⟩⟩
    · rcases hg' with rfl | rfl
      · exact hk p hp
      · have := block_lt (hw.keep p hp).1; omega
    · rcases hg' with rfl | rfl
      · exact hbs p hp hb
      · have := ((hw.bat p hp).2 _ hb).2; omega

theorem Ws.swap {p q : Loc × Sl} (h : Ws B w0 W (p :: q :: ss) ks bs) : Ws B w0 W (q :: p :: ss) ks bs := by
  have hav : ∀ k, k ∈ avoid (q :: p :: ss) ↔ k ∈ avoid (p :: q :: ss) := by
    intro k; simp only [avoid_cons]; constructor <;> (rintro (h | h | h) <;> simp [h])
  refine ⟨h.below, h.size, fun r hr => ?_, ?_, fun r hr => ⟨(h.keep r hr).1, fun hn => (h.keep r hr).2 ((hav _).1 hn)⟩, fun r hr => ⟨(h.bat r hr).1, fun b hb => ⟨fun hn => ((h.bat r hr).2 b hb).1 ((hav _).1 hn), ((h.bat r hr).2 b hb).2⟩⟩⟩
  · have := h.on r (by simp only [List.mem_cons] at hr ⊢; rcases hr with h | h | h <;> simp [h])
    exact ⟨this.1, this.2.avoid (fun k hk => (outs_iff _ _ k).2 (((outs_iff _ _ k).1 hk).imp (hav k).1 id))⟩
  · have hp := h.apart
    simp only [List.pairwise_cons, List.mem_cons] at hp ⊢
    obtain ⟨h1, h2, h3⟩ := hp
    refine ⟨fun r hr => ?_, fun r hr => h1 r (.inr hr), h3⟩
    rcases hr with rfl | hr
    · intro k hk hn; exact h1 _ (.inl rfl) k hn hk
    · exact h2 r hr

/-- A step of the first slot. -/
theorem ws_step {L : Loc} {st st' : Sl} (h : Ws B w0 W ((L, st) :: ss) ks bs) (hu : Upd L.M W W') (hon : On W' L st' (outs ((L, st) :: ss) ks)) : Ws B w0 W' ((L, st') :: ss) ks bs where
  below := h.below.trans (hu.belowB h.size (h.on (L, st) (by simp)).1)
  size := Nat.le_trans h.size hu.size
  on := by
    intro p hp
    rcases List.mem_cons.1 hp with rfl | hp
    · exact ⟨(h.on (L, st) (by simp)).1, hon⟩
    · obtain ⟨h1, h2⟩ := h.on p (List.mem_cons_of_mem _ hp)
      refine ⟨h1, h2.upd hu (fun k hk => ⟨fun hn => ?_, mem_outs (mem_avoid (p := (L, st)) (by simp) hk)⟩)⟩
      exact (List.pairwise_cons.1 h.apart).1 p hp k hk hn
  apart := by
    have := h.apart
    rw [List.pairwise_cons] at this ⊢
    exact this
  keep := fun p hp => ⟨(hu.block _ (block_lt (h.keep p hp).1) (fun hn => (h.keep p hp).2 (mem_avoid (p := (L, st)) (by simp) hn))).trans (h.keep p hp).1, (h.keep p hp).2⟩
  bat := fun p hp => ⟨(h.bat p hp).1.upd hu (fun b hb hn => ((h.bat p hp).2 b hb).1 (mem_avoid (p := (L, st)) (by simp) hn)), fun b hb => ⟨((h.bat p hp).2 b hb).1, Nat.lt_of_lt_of_le ((h.bat p hp).2 b hb).2 hu.size⟩⟩

theorem Ws.start (hb : Below B w0 W) (hB : B ≤ W.heap.size) : Ws B w0 W [] [] [] := ⟨hb, hB, by simp, .nil, by simp, by simp⟩

theorem ws_new (f : Nat) (h1 : 1 ≤ f) (h2 : f ≤ 4) (h : Ws B w0 W ss ks bs) :
    Calls Try.prog 18 #[.int .i64 f] W fun e w' => ∃ L : Loc, e = .returned (.tuple #[L.ptr, .int .i64 0]) ∧ L.f = f ∧ Ws B w0 w' ((L, emptySl f) :: ss) ks bs := by
  refine (on_new f h1 h2 W).mono ?_
  rintro e w' ⟨L, he, hf, hu, hM, hon⟩
  have h' := h.upd0 hu
  have hlt := (hon [] (by simp)).lt
  have hav : ∀ k ∈ outs ((L, emptySl f) :: ss) ks, k < w'.heap.size := by
    intro k hk
    rcases (outs_iff _ _ k).1 hk with hk | ⟨q, hq, rfl⟩
    · rcases (avoid_cons _ _ _).1 hk with hk | hk
      · exact hlt k hk
      · exact h'.lt k hk
    · exact block_lt (h'.keep q hq).1
  have hold : ∀ k, k < W.heap.size → k ∉ L.M := fun k hk hn => by have := hM k hn; omega
  refine ⟨L, he, hf, h'.below, h'.size, fun p hp => ?_, ?_, fun p hp => ⟨(h'.keep p hp).1, fun hn => ?_⟩, fun p hp => ⟨(h'.bat p hp).1, fun b hb => ⟨fun hn => ?_, ((h'.bat p hp).2 b hb).2⟩⟩⟩
  · rcases List.mem_cons.1 hp with rfl | hp
    · exact ⟨fun k hk => Nat.le_trans h.size (hM k hk), hon _ hav⟩
    · obtain ⟨q1, D, q2, q3, q4⟩ := h.on p hp
      refine ⟨q1, D, ?_, fun k hk hn => ?_, hav⟩
      · have hm : ∀ k ∈ D, k < W.heap.size := q2.Dw
        exact q2.upd hu (by simp) (by simp) (by simp) (by simp)
      · rcases (outs_iff _ _ k).1 hn with hn | hn
        · rcases (avoid_cons _ _ _).1 hn with hn | hn
          · exact hold k (q2.Dw k hk) hn
          · exact q3 k hk (mem_outs hn)
        · exact q3 k hk ((outs_iff _ _ k).2 (.inr hn))
  · rw [List.pairwise_cons]
    exact ⟨fun q hq k hk hn => by have := hM k hk; have := (h.on q hq).2.lt k hn; omega, h.apart⟩
  · rcases (avoid_cons _ _ _).1 hn with hn | hn
    · exact hold _ (block_lt (h.keep p hp).1) hn
    · exact (h.keep p hp).2 hn
  · rcases (avoid_cons _ _ _).1 hn with hn | hn
    · exact hold _ ((h.bat p hp).2 b hb).2 hn
    · exact ((h.bat p hp).2 b hb).1 hn

theorem ws_pre {L : Loc} {st : Sl} (h : Ws B w0 W ((L, st) :: ss) ks bs) (v : Value) (rs : List Rq) (hb : (v, rs) ∈ bs) (hn : rs.length ≤ 100000) :
    Calls Try.prog 20 #[L.ptr, v] W fun e w' => e = .returned (.bool (!st.has)) ∧ Ws B w0 w' ((L, if st.has then st else { st with has := true, batch := rs }) :: ss) ks bs := by
  refine (on_pre (h.on (L, st) (by simp)).2 v rs (h.bat _ hb).1 hn).mono ?_
  rintro e w' ⟨he, hu, hon⟩
  exact ⟨he, ws_step h hu hon⟩

theorem ws_vote {L : Loc} {st : Sl} (h : Ws B w0 W ((L, st) :: ss) ks bs) (kind node sl : Int) (v : Value) (rs : List Rq) (hb : (v, rs) ∈ bs) (hn : rs.length ≤ 100000) :
    Calls Try.prog 22 #[L.ptr, .int .i64 kind, .int .i64 node, .int .i64 sl, v] W fun e w' => e = .returned (.bool (canVote st kind node)) ∧ Ws B w0 w' ((L, voteS st kind node sl rs) :: ss) ks bs := by
  refine (on_vote (h.on (L, st) (by simp)).2 kind node sl v rs (h.bat _ hb).1 hn).mono ?_
  rintro e w' ⟨he, hu, hon⟩
  exact ⟨he, ws_step h hu hon⟩

theorem ws_voted {L : Loc} {st : Sl} (h : Ws B w0 W ((L, st) :: ss) ks bs) (kind node : Int) :
    Calls Try.prog 28 #[L.ptr, .int .i64 kind, .int .i64 node] W fun e w' => e = .returned (.bool (votedB (listOf st kind) node)) ∧ W = w' := on_voted (h.on (L, st) (by simp)).2 kind node

theorem ws_chosen {L : Loc} {st : Sl} (h : Ws B w0 W ((L, st) :: ss) ks bs) :
    Calls Try.prog 29 #[L.ptr] W fun e w' => ∃ u, e = .returned (.tuple #[u, .bool st.has]) ∧ Upd [] W w' ∧ Ws B w0 w' ((L, st) :: ss) ks bs ∧ Bat w' u (chosenS st) := by
  refine (on_chosen (h.on (L, st) (by simp)).2).mono ?_
  rintro e w' ⟨u, he, hu, hon, hb, hn⟩
  exact ⟨u, he, hu, h.upd0 hu, hb⟩

theorem ws_prepared {L : Loc} {st : Sl} (h : Ws B w0 W ((L, st) :: ss) ks bs) :
    Calls Try.prog 23 #[L.ptr] W fun e w' => ∃ u, e = .returned (.tuple #[u, .bool (preparedS L.f st).isSome]) ∧ Upd [] W w' ∧ Ws B w0 w' ((L, st) :: ss) ks bs ∧ Vts w' u ((preparedS L.f st).getD []) := by
  refine (on_prepared (h.on (L, st) (by simp)).2).mono ?_
  rintro e w' ⟨u, he, hu, hon, hb, hn⟩
  exact ⟨u, he, hu, h.upd0 hu, hb⟩

theorem ws_committed {L : Loc} {st : Sl} (h : Ws B w0 W ((L, st) :: ss) ks bs) :
    Calls Try.prog 24 #[L.ptr] W fun e w' => ∃ v u, e = .returned (.tuple #[v, u, .bool (committedS L.f st).isSome]) ∧ Upd [] W w' ∧ Ws B w0 w' ((L, st) :: ss) ks bs ∧ Bat w' v (batchOf (committedS L.f st)) ∧ Vts w' u (votesOf (committedS L.f st)) := by
  refine (on_committed (h.on (L, st) (by simp)).2).mono ?_
  rintro e w' ⟨v, u, he, hu, hon, q1, q2, _, _⟩
  exact ⟨v, u, he, hu, h.upd0 hu, q1, q2⟩

end
end Go.Proofs.Ytdeadekeffficaa

/- The document's example of a slot (psephoslaw14.wakes). -/
namespace Go.Proofs.Ytdeadekeffficaa
open Go.RowKit Go.Heap

def wst : Nat → Sl
  | 0 => { emptySl 1 with has := true, batch := [rq 0 1] }
  | k + 1 => voteS (wst k) 4 k (10 + k) [rq 0 1]

theorem wst_has : ∀ k, k ≤ 3 → (wst k).has = true := by decide +kernel
theorem wst_facts : ∀ k, k < 3 → canVote (wst k) 4 k = true ∧ (preparedS 1 (wst k)).isSome = false := by decide +kernel
theorem wst_end : preparedS 1 (wst 3) = some [(0, 10), (1, 11), (2, 12)] := by decide +kernel

abbrev L1 (f : Nat) (L : Loc) : Prop := L.f = f

set_option maxHeartbeats 1000000 in
set_option maxRecDepth 100000 in
theorem wakes_any (w : World) : Calls Try.prog 19 #[] w fun e w' => e = .returned (.bool true) ∧ Below w.heap.size w w' := by
  go_enter Try.func19, Try.ntmps19
  go_wp2_with fail
  refine (st_new 1 (by omega) (by omega) w w w.heap.size (Below.refl _ _) (Nat.le_refl _)).mono ?_
  rintro e w1 ⟨L, rfl, hf, h1⟩
  have HF := Lib.hid hf
  have H2 := Lib.hid (h1.batch 0 1)
  clear hf h1
  go_wp2_with fail
  generalize w1.alloc (rqObj 0 1) = w2 at *
  generalize w1.heap.size = g at *
  refine (st_pre H2.out (sl1 g) [rq 0 1] (by simp) (by simp)).mono ?_
  rintro e w3 ⟨rfl, h3⟩
  have H3 := Lib.hid (show St _ _ _ L (wst 0) _ from h3)
  clear h3 H2
  have t1 : (!(emptySl 1).has) = true := rfl
  rw [t1]
  go_wp2_with fail
  refine (st_pre H3.out (sl1 g) [rq 0 1] (by simp) (by simp)).mono ?_
  rintro e w4 ⟨rfl, h4⟩
  have H4 := Lib.hid (show St _ _ _ L (wst 0) _ from h4)
  clear h4 H3
  have t2 : (!(wst 0).has) = false := rfl
  rw [t2]
  go_wp2_with fail
  go_loopw [4] (fun i wr => ∃ k : Nat, k ≤ 3 ∧ i = .int .i64 k ∧ Hid (St w.heap.size w wr L (wst k) [(sl1 g, [rq 0 1])])) (fun i _ => 3 - (intOf i).toNat)
  case atStart => exact ⟨0, by omega, rfl, H4⟩
  case round =>
    clear H4
    obtain ⟨k, hk, rfl, H5⟩ := hrel
    by_cases hlt : k < 3
    · obtain ⟨f1, f2⟩ := wst_facts k hlt
      have F1 := Lib.hid f1
      have F2 := Lib.hid f2
      clear f1 f2
      go_wp2_with fail
      refine (st_prepared H5.out).mono ?_
      rintro e w5 ⟨u, rfl, h6, -⟩
      have H6 := Lib.hid h6
      clear h6
      rw [HF.out, F2.out]
      go_wp2_with fail
      refine (st_vote H6.out 4 k (10 + k) (sl1 g) [rq 0 1] (by simp) (by simp)).mono ?_
      rintro e w6 ⟨rfl, h7⟩
      have H7 := Lib.hid h7
      clear h7
      rw [F1.out]
      go_wp2_with fail
      go_roundw
      case rel => exact ⟨k + 1, by omega, by go_num, H7⟩
      case measure => simp [intOf]; omega
    · have hk3 : k = 3 := by omega
      subst hk3
      go_wp2_with fail
      refine (st_prepared H5.out).mono ?_
      rintro e w5 ⟨u, rfl, h6, hv⟩
      have H6 := Lib.hid h6
      have HV := Lib.hid hv
      clear h6 hv
      rw [HF.out, wst_end]
      rw [HF.out, wst_end] at HV
      go_wp2_with fail
      have hn := vts_three (heap_alloc_new w5 (.cells #[.int .i64 0, .int .i64 10, .int .i64 1, .int .i64 11, .int .i64 2, .int .i64 12] 44))
      refine (sameV_any _ _ _ _ _ (by simp) (by simp) (HV.out.upd (M := []) ((Upd.refl _ _).alloc _) (by simp)) hn).mono ?_
      rintro e w6 ⟨rfl, hu⟩
      have hs : decide ((some [((0 : Int), (10 : Int)), (1, 11), (2, 12)]).getD [] = [(0, 10), (1, 11), (2, 12)]) = true := by decide
      rw [hs]
      have H8 := Lib.hid ((H6.out.alloc (.cells #[.int .i64 0, .int .i64 10, .int .i64 1, .int .i64 11, .int .i64 2, .int .i64 12] 44)).upd0 hu)
      go_wp2_with fail
      go_ret
      exact ⟨rfl, H8.out.below⟩

end Go.Proofs.Ytdeadekeffficaa

/- Votes that all go for one batch, sealed alike: plain laws. -/
namespace Go.Proofs.Ytdeadekeffficaa
open Go.RowKit Go.Heap

/-- The votes of the nodes of h: seals c + node, for b. -/
def lv (f : Nat) (c : Int) (b : List Rq) (h : Nat → Bool) : List Vt := (List.range (3 * f + 1)).map fun k => if h k then ⟨true, c + (k : Int), b⟩ else noVt
def addB (h : Nat → Bool) (m : Nat) : Nat → Bool := fun j => h j || decide (j = m)

section
variable (f : Nat) (c : Int) (b : List Rq) (h : Nat → Bool)
theorem lv_length : (lv f c b h).length = 3 * f + 1 := by simp [lv]
theorem lv_get (k : Nat) (hk : k < 3 * f + 1) : (lv f c b h)[k]? = some (if h k then ⟨true, c + (k : Int), b⟩ else noVt) := by
  simp [lv, hk]
theorem lv_none : lv f c b (fun _ => false) = List.replicate (3 * f + 1) noVt := by
  apply List.ext_getElem?
  intro k
  by_cases hk : k < 3 * f + 1
  · rw [lv_get f c b _ k hk]; simp [hk]
  · simp [lv, hk]
theorem lv_open (m : Nat) (hm : m < 3 * f + 1) : openB (lv f c b h) m = !h m := by
  simp only [openB, Int.toNat_natCast, lv_get f c b h m hm]
  cases h m <;> simp [noVt]
theorem lv_set (m : Nat) (hm : m < 3 * f + 1) : (lv f c b h).set m ⟨true, c + (m : Int), b⟩ = lv f c b (addB h m) := by
  apply List.ext_getElem?
  intro k
  by_cases hk : k < 3 * f + 1
  · rw [lv_get f c b _ k hk]
    by_cases hkm : k = m
    · subst hkm
      rw [List.getElem?_set_self (by rw [lv_length]; exact hk)]
      simp [addB]
    · rw [List.getElem?_set_ne (fun e => hkm e.symm), lv_get f c b h k hk]
      simp [addB, hkm]
  · simp [lv, hk]
theorem add_same (m : Nat) (hm : h m = true) : addB h m = h := by
  funext j
  unfold addB
  by_cases hj : j = m
  · subst hj; simp [hm]
  · simp [hj]
theorem lv_batch : ∀ t ∈ lv f c b h, t.has = true → t.batch = b := by
  intro t ht hh
  simp only [lv, List.mem_map] at ht
  obtain ⟨k, _, rfl⟩ := ht
  by_cases hk : h k = true
  · rw [if_pos hk]
  · rw [if_neg hk] at hh; simp [noVt] at hh
end

/-- A vote for b, sealed c + node, by a node of a slot whose votes of that kind are lv's. -/
theorem vote4 (f : Nat) (c : Int) (b : List Rq) (h : Nat → Bool) (hs : Bool) (bt : List Rq) (cs : List Vt) (m : Nat) (hm : m < 3 * f + 1) (sl : Int) (hsl : sl = c + m) :
    canVote ⟨hs, bt, lv f c b h, cs⟩ 4 m = !h m ∧ voteS ⟨hs, bt, lv f c b h, cs⟩ 4 m sl b = ⟨hs, bt, lv f c b (addB h m), cs⟩ := by
  have hc : canVote ⟨hs, bt, lv f c b h, cs⟩ 4 m = !h m := lv_open f c b h m hm
  refine ⟨hc, ?_⟩
  unfold voteS
  rw [hc]
  subst hsl
  cases hh : h m
  · rw [if_pos (by rfl), if_pos rfl]; simp only [Int.toNat_natCast, lv_set f c b h m hm]
  · rw [if_neg (by simp), add_same h m hh]

theorem vote5 (f : Nat) (c : Int) (b : List Rq) (h : Nat → Bool) (hs : Bool) (bt : List Rq) (ps : List Vt) (m : Nat) (hm : m < 3 * f + 1) (sl : Int) (hsl : sl = c + m) :
    canVote ⟨hs, bt, ps, lv f c b h⟩ 5 m = !h m ∧ voteS ⟨hs, bt, ps, lv f c b h⟩ 5 m sl b = ⟨hs, bt, ps, lv f c b (addB h m)⟩ := by
  have hc : canVote ⟨hs, bt, ps, lv f c b h⟩ 5 m = !h m := lv_open f c b h m hm
  refine ⟨hc, ?_⟩
  unfold voteS
  rw [hc]
  subst hsl
  cases hh : h m
  · rw [if_pos (by rfl), if_neg (by omega)]; simp only [Int.toNat_natCast, lv_set f c b h m hm]
  · rw [if_neg (by simp), add_same h m hh]

theorem committedL_one {all : List Vt} {q : Nat} {b : List Rq} : ∀ l : List Vt, (∀ t ∈ l, t.has = true → t.batch = b) → committedL all q l = if l.any (·.has) then (enoughS all b q).map (Prod.mk b) else none
  | [], _ => rfl
  | t :: r, hl => by
    unfold committedL
    rw [committedL_one r (fun t ht => hl t (List.mem_cons_of_mem _ ht))]
    cases hh : t.has
    · simp [hh]
    · rw [hl t (by simp) hh]
      cases he : enoughS all b q <;> simp [hh]

theorem picks_none {b : List Rq} : ∀ (l : List Vt) (k : Nat), l.any (·.has) = false → picks b l k = []
  | [], _, _ => rfl
  | t :: r, k, h => by
    simp only [List.any_cons, Bool.or_eq_false_iff] at h
    unfold picks
    rw [if_neg (by simp [goodB, h.1]), picks_none r _ h.2]

theorem committedS_one {f : Nat} {st : Sl} {b : List Rq} (h : ∀ t ∈ st.cs, t.has = true → t.batch = b) : committedS f st = (enoughS st.cs b (2 * f + 1)).map (Prod.mk b) := by
  unfold committedS
  rw [committedL_one _ h]
  split
  · rfl
  · rename_i hn
    have hn : st.cs.any (·.has) = false := by simpa using hn
    unfold enoughS
    rw [picks_none _ _ hn, if_pos (by simp)]
    rfl

theorem one_comm (f : Nat) (c : Int) (b : List Rq) (h : Nat → Bool) (hs : Bool) (bt : List Rq) (ps : List Vt) : committedS f ⟨hs, bt, ps, lv f c b h⟩ = (enoughS (lv f c b h) b (2 * f + 1)).map (Prod.mk b) := committedS_one (lv_batch f c b h)

theorem lv_picked (f : Nat) (c : Int) (b : List Rq) (h : Nat → Bool) (q k : Nat) (hk : k < 3 * f + 1) :
    picked b (lv f c b h) q (k + 1) = if h k && decide ((picked b (lv f c b h) q k).length < q) then picked b (lv f c b h) q k ++ [((k : Int), c + (k : Int))] else picked b (lv f c b h) q k := by
  have hl : k < (lv f c b h).length := by rw [lv_length]; exact hk
  have hg : (lv f c b h)[k] = if h k then ⟨true, c + (k : Int), b⟩ else noVt := by
    have := lv_get f c b h k hk
    rw [List.getElem?_eq_getElem hl] at this
    exact Option.some.inj this
  rw [picked_succ b _ q k hl, hg]
  cases hh : h k <;> simp [goodB, noVt]

/-- Where there are enough, the later ones do not count. -/
theorem lv_full (f : Nat) (c : Int) (b : List Rq) (h : Nat → Bool) (q k : Nat) (hq : ¬ (picked b (lv f c b h) q k).length < q) : ∀ d, k + d ≤ 3 * f + 1 → picked b (lv f c b h) q (k + d) = picked b (lv f c b h) q k
  | 0, _ => rfl
  | d + 1, hd => by
    rw [show k + (d + 1) = (k + d) + 1 by omega, lv_picked f c b h q (k + d) (by omega), lv_full f c b h q k hq d (by omega)]
    simp [hq]

theorem lv_all (f : Nat) (c : Int) (b : List Rq) (h : Nat → Bool) (q k : Nat) (hk : k ≤ 3 * f + 1) (hq : ¬ (picked b (lv f c b h) q k).length < q) : picked b (lv f c b h) q (3 * f + 1) = picked b (lv f c b h) q k := by
  have := lv_full f c b h q k hq (3 * f + 1 - k) (by omega)
  rwa [show k + (3 * f + 1 - k) = 3 * f + 1 by omega] at this

theorem lv_enough (f : Nat) (c : Int) (b : List Rq) (h : Nat → Bool) (q : Nat) : enoughS (lv f c b h) b q = if (picked b (lv f c b h) q (3 * f + 1)).length < q then none else some (picked b (lv f c b h) q (3 * f + 1)) := by
  have hl := lv_length f c b h
  split
  · rename_i hn
    exact enough_none (by rw [hl]; exact hn)
  · rename_i hn
    have := enough_some (l := lv f c b h) (batch := b) (q := q) (by rw [hl]; exact hn)
    rw [this, hl]

end Go.Proofs.Ytdeadekeffficaa

/- The document's votes and the slot's: plain laws. -/
namespace Go.Proofs.Ytdeadekeffficaa

/-- The votes that are there, by rising node. -/
def refs : List Vt → Nat → List (Int × Int × List Rq)
  | [], _ => []
  | t :: l, k => if t.has then ((k : Int), t.sl, t.batch) :: refs l (k + 1) else refs l (k + 1)

def rvOf (r : Rv) : Int × Int × List Rq := (r.node, r.sl, r.rs)

theorem pickR_refs (b : List Rq) : ∀ (ps : List Vt) (k : Nat) (l : List Rv), l.map rvOf = refs ps k → pickR b l = picks b ps k
  | [], k, l, h => by
    have : l = [] := by simpa [refs] using h
    subst this; rfl
  | t :: ps, k, l, h => by
    unfold refs at h
    cases ht : t.has
    · rw [ht, if_neg (by simp)] at h
      rw [pickR_refs b ps (k + 1) l h]
      simp [picks, goodB, ht]
    · rw [ht, if_pos rfl] at h
      match l, h with
      | r :: l', h =>
        simp only [List.map_cons, List.cons.injEq, rvOf, Prod.mk.injEq] at h
        obtain ⟨⟨h1, h2, h3⟩, h4⟩ := h
        have ih := pickR_refs b ps (k + 1) l' h4
        unfold picks
        simp only [goodB, ht, Bool.true_and, ← h3]
        have hc : pickR b (r :: l') = (if r.rs = b then [(r.node, r.sl)] else []) ++ pickR b l' := by
          unfold pickR
          by_cases hb : r.rs = b <;> simp [hb]
        rw [hc, ih, h1, h2]
        by_cases hb : r.rs = b <;> simp [hb]

theorem for_refs {ps : List Vt} {l : List Rv} (h : l.map rvOf = refs ps 0) (b : List Rq) (q : Nat) : forS l b q = enoughS ps b q := by
  unfold forS enoughS
  rw [pickR_refs b ps 0 l h]

theorem rcommL_refs {all : List Vt} {al : List Rv} (ha : al.map rvOf = refs all 0) (q : Nat) : ∀ (ps : List Vt) (k : Nat) (l : List Rv), l.map rvOf = refs ps k → rcommL al q l = committedL all q ps
  | [], k, l, h => by
    have : l = [] := by simpa [refs] using h
    subst this; rfl
  | t :: ps, k, l, h => by
    unfold refs at h
    unfold committedL
    cases ht : t.has
    · rw [ht, if_neg (by simp)] at h
      exact rcommL_refs ha q ps (k + 1) l h
    · rw [ht, if_pos rfl] at h
      match l, h with
      | r :: l', h =>
        simp only [List.map_cons, List.cons.injEq, rvOf, Prod.mk.injEq] at h
        obtain ⟨⟨_, _, h3⟩, h4⟩ := h
        rw [if_pos rfl, rcommL, rcommL_refs ha q ps (k + 1) l' h4, for_refs ha, h3]
        cases enoughS all t.batch q <;> rfl

theorem refs_append : ∀ (a b : List Vt) (k : Nat), refs (a ++ b) k = refs a k ++ refs b (k + a.length)
  | [], b, k => rfl
  | t :: a, b, k => by
    simp only [List.cons_append, refs, refs_append a b (k + 1), List.length_cons]
    rw [show k + 1 + a.length = k + (a.length + 1) by omega]
    split <;> rfl

theorem refs_range : ∀ (l : List Vt) (k : Nat), ∀ x ∈ refs l k, (k : Int) ≤ x.1 ∧ x.1 < ((k + l.length : Nat) : Int)
  | [], k, x, h => by simp [refs] at h
  | t :: l, k, x, h => by
    have ih := refs_range l (k + 1) x
    unfold refs at h
    have : x = ((k : Int), t.sl, t.batch) ∨ x ∈ refs l (k + 1) := by
      split at h
      · exact List.mem_cons.1 h
      · exact .inr h
    rcases this with rfl | h
    · simp only [List.length_cons]; omega
    · have := ih h; simp only [List.length_cons]; omega

/-- What is there, parted at a node. -/
theorem refs_at (ps : List Vt) (m : Nat) (hm : m < ps.length) : refs ps 0 = refs (ps.take m) 0 ++ ((if ps[m].has then [((m : Int), ps[m].sl, ps[m].batch)] else []) ++ refs (ps.drop (m + 1)) (m + 1)) := by
  have h : ps = ps.take m ++ ps[m] :: ps.drop (m + 1) := by rw [List.getElem_cons_drop, List.take_append_drop]
  conv => lhs; rw [h]
  rw [refs_append, List.length_take, Nat.min_eq_left (by omega), Nat.zero_add]
  simp only [refs]
  split <;> rfl

theorem refs_set (ps : List Vt) (m : Nat) (hm : m < ps.length) (sl : Int) (rs : List Rq) : refs (ps.set m ⟨true, sl, rs⟩) 0 = refs (ps.take m) 0 ++ ((m : Int), sl, rs) :: refs (ps.drop (m + 1)) (m + 1) := by
  rw [refs_at (ps.set m ⟨true, sl, rs⟩) m (by simpa using hm)]
  simp [List.take_set, List.drop_set]
  rw [List.set_eq_of_length_le (by simp; omega)]

end Go.Proofs.Ytdeadekeffficaa

/- The document's slot: how a vote turns it. Plain laws. -/
namespace Go.Proofs.Ytdeadekeffficaa
open Go.RowKit Go.Heap

theorem refs_length : ∀ (l : List Vt) (k : Nat), (refs l k).length ≤ l.length
  | [], _ => by simp [refs]
  | t :: l, k => by
    have := refs_length l (k + 1)
    unfold refs
    split <;> simp <;> omega

theorem map_parts {pl : List Rv} {a b : List (Int × Int × List Rq)} (h : pl.map rvOf = a ++ b) : (pl.take a.length).map rvOf = a ∧ (pl.drop a.length).map rvOf = b ∧ a.length ≤ pl.length := by
  have hl : pl.length = a.length + b.length := by have := congrArg List.length h; simpa using this
  refine ⟨?_, ?_, by omega⟩
  · rw [List.map_take, h, List.take_left]
  · rw [List.map_drop, h, List.drop_left]

theorem node_take {pl : List Rv} {a i : Nat} {n : Int} (h : ∀ x ∈ (pl.take a).map rvOf, x.1 < n) (hi : i < pl.length) (ha : i < a) : pl[i].node < n := by
  refine h (rvOf pl[i]) (List.mem_map.2 ⟨pl[i], ?_, rfl⟩)
  rw [List.mem_take_iff_getElem]
  exact ⟨i, by omega, rfl⟩

theorem node_drop {pl : List Rv} {a i : Nat} {n : Int} (h : ∀ x ∈ (pl.drop a).map rvOf, n < x.1) (hi : i < pl.length) (ha : a ≤ i) : n < pl[i].node := by
  refine h (rvOf pl[i]) (List.mem_map.2 ⟨pl[i], ?_, rfl⟩)
  rw [List.mem_drop_iff_getElem]
  exact ⟨i - a, by omega, by simp only [show a + (i - a) = i by omega]⟩

theorem ref_no {ps : List Vt} {pl : List Rv} (h : pl.map rvOf = refs ps 0) {m : Nat} (hm : m < ps.length) (hh : ps[m].has = true) :
    ∃ a, ∃ ha : a < pl.length, pl[a].node = m ∧ ∀ i (hi : i < pl.length), a < i → (m : Int) < pl[i].node := by
  rw [refs_at ps m hm, hh, if_pos rfl, List.singleton_append] at h
  have hl := congrArg List.length h
  simp only [List.length_map, List.length_append, List.length_cons] at hl
  have ha : (refs (ps.take m) 0).length < pl.length := by omega
  have hg := congrArg (fun l => l[(refs (ps.take m) 0).length]?) h
  simp only [List.getElem?_map, List.getElem?_eq_getElem ha, Option.map_some, List.getElem?_append_right (Nat.le_refl _), Nat.sub_self, List.getElem?_cons_zero, Option.some.injEq] at hg
  refine ⟨(refs (ps.take m) 0).length, ha, congrArg Prod.fst hg, fun i hi hai => ?_⟩
  have h2 : pl.map rvOf = (refs (ps.take m) 0 ++ [((m : Int), ps[m].sl, ps[m].batch)]) ++ refs (ps.drop (m + 1)) (m + 1) := by rw [h]; simp
  obtain ⟨-, q2, -⟩ := map_parts h2
  refine node_drop (a := (refs (ps.take m) 0 ++ [((m : Int), ps[m].sl, ps[m].batch)]).length) (fun x hx => ?_) hi (by simp; omega)
  rw [q2] at hx
  have := (refs_range _ _ x hx).1
  omega

theorem ref_yes {ps : List Vt} {pl : List Rv} (h : pl.map rvOf = refs ps 0) {m : Nat} (hm : m < ps.length) (hh : ps[m].has = false) (sl : Int) (rs : List Rq) :
    ∃ a, a ≤ pl.length ∧ (∀ i (hi : i < pl.length), i < a → pl[i].node < (m : Int)) ∧ (∀ i (hi : i < pl.length), a ≤ i → (m : Int) < pl[i].node) ∧
      ∀ b : Value, (pl.take a ++ ⟨m, sl, b, rs⟩ :: pl.drop a).map rvOf = refs (ps.set m ⟨true, sl, rs⟩) 0 := by
  rw [refs_at ps m hm, hh, if_neg (by simp), List.nil_append] at h
  obtain ⟨q1, q2, q3⟩ := map_parts h
  refine ⟨(refs (ps.take m) 0).length, q3, fun i hi hia => ?_, fun i hi hia => ?_, fun b => ?_⟩
  · refine node_take (fun x hx => ?_) hi hia
    rw [q1] at hx
    have := (refs_range _ _ x hx).2
    rw [List.length_take, Nat.min_eq_left (by omega)] at this
    omega
  · refine node_drop (fun x hx => ?_) hi hia
    rw [q2] at hx
    have := (refs_range _ _ x hx).1
    omega
  · rw [refs_set ps m hm, List.map_append, List.map_cons, q1, q2]
    rfl

end Go.Proofs.Ytdeadekeffficaa

/- psephoslaw14.right: a slot is what the document says. -/
namespace Go.Proofs.Ytdeadekeffficaa
open Go.RowKit Go.Heap

/-- The document's slot in block q: as st says. -/
structure RefAt (w : World) (q : Nat) (st : Sl) : Prop where
  own : ∃ vb vp vc, w.heap[q]? = some (.cells #[.bool st.has, vb, vp, vc] 59 (0, 0)) ∧ Bat w vb (chosenS st) ∧
    (∃ pl, RVs w vp pl ∧ pl.map rvOf = refs st.ps 0) ∧ ∃ cl, RVs w vc cl ∧ cl.map rvOf = refs st.cs 0

theorem RefAt.upd0 {w w' : World} {q : Nat} {st : Sl} (h : RefAt w q st) (hu : Upd [] w w') : RefAt w' q st := by
  obtain ⟨vb, vp, vc, h1, h2, ⟨pl, h3, h4⟩, cl, h5, h6⟩ := h.own
  exact ⟨vb, vp, vc, by rw [hu.block q (block_lt h1) (by simp)]; exact h1, h2.upd hu (by simp), ⟨pl, h3.upd0 hu, h4⟩, cl, h5.upd0 hu, h6⟩

theorem small_batch {all : List Vt} {q n : Nat} : ∀ l : List Vt, (∀ t ∈ l, t.batch.length ≤ n) → (batchOf (committedL all q l)).length ≤ n
  | [], _ => by simp [committedL, batchOf]
  | t :: r, h => by
    have ih := small_batch (all := all) (q := q) r (fun t ht => h t (List.mem_cons_of_mem _ ht))
    unfold committedL
    cases t.has
    · exact ih
    · cases enoughS all t.batch q with
      | none => exact ih
      | some vs => exact h t (by simp)

theorem small_votes {all : List Vt} {q : Nat} : ∀ l : List Vt, (votesOf (committedL all q l)).length ≤ q
  | [] => by simp [committedL, votesOf]
  | t :: r => by
    have ih := small_votes (all := all) (q := q) r
    unfold committedL
    cases t.has
    · exact ih
    · cases he : enoughS all t.batch q with
      | none => exact ih
      | some vs =>
        unfold enoughS at he
        split at he
        · cases he
        · simp only [Option.some.injEq] at he
          subst he
          show (List.take _ _).length ≤ q
          rw [List.length_take]; omega

set_option maxHeartbeats 1000000 in
set_option maxRecDepth 100000 in
theorem right_any {B : Nat} {w0 W : World} {L : Loc} {st : Sl} {ss : List (Loc × Sl)} {ks : List (Nat × Obj)} {bs : List (Value × List Rq)} (H : Ws B w0 W ((L, st) :: ss) ks bs) (q f : Nat) (hf : L.f = f) (hf1 : 1 ≤ f) (hf2 : f ≤ 4) (hr : RefAt W q st) (hn : (chosenS st).length ≤ 100000) :
    Calls Try.prog 32 #[L.ptr, .pointer (some ⟨q, 0, none⟩), .int .i64 f] W fun e w' => e = .returned (.bool true) ∧ Ws B w0 w' ((L, st) :: ss) ks bs ∧ Upd [] W w' := by
  have HH := Lib.hid H
  have HR := Lib.hid hr
  have HF := Lib.hid hf
  clear H hr hf
  go_enter Try.func32, Try.ntmps32
  go_wp2_with fail
  refine (ws_chosen HH.out).mono ?_
  rintro e w1 ⟨u1, rfl, hu1, h1, hb1⟩
  have H1 := Lib.hid h1
  have B1 := Lib.hid hb1
  have U1 := Lib.hid hu1
  have R1 := Lib.hid (HR.out.upd0 hu1)
  clear h1 hb1 hu1
  obtain ⟨vb, vp, vc, o1, o2, ⟨pl, o3, o4⟩, cl, o5, o6⟩ := R1.out.own
  have c0 : w1.cell? ⟨q, 0, none⟩ = some (.bool st.has) := by rw [block_cell o1]; rfl
  have c1 : w1.cell? ⟨q, 1, none⟩ = some vb := by rw [block_cell o1]; rfl
  have O1 := Lib.hid o1
  have O2 := Lib.hid o2
  have O3 := Lib.hid o3
  have O4 := Lib.hid o4
  have O5 := Lib.hid o5
  have O6 := Lib.hid o6
  clear o1 o2 o3 o4 o5 o6
  have hnb : (st.has != st.has) = false := by simp
  go_wp2_with fail
  refine (sameR_any u1 vb (chosenS st) (chosenS st) _ hn hn B1.out O2.out).mono ?_
  rintro e w2 ⟨rfl, hu2⟩
  rw [decide_eq_true (rfl : chosenS st = chosenS st)]
  have k0 : w2.cell? ⟨q, 0, none⟩ = some (.bool st.has) := (hu2.cell (block_lt O1.out) (by simp)).trans c0
  have k1 : w2.cell? ⟨q, 1, none⟩ = some vb := (hu2.cell (block_lt O1.out) (by simp)).trans c1
  have k2 : w2.cell? ⟨q, 2, none⟩ = some vp := (hu2.cell (block_lt O1.out) (by simp)).trans (by rw [block_cell O1.out]; rfl)
  clear c0 c1
  go_upto_if 42 with fail
  go_cut [9, 10] (fun v b wx => b = .bool (preparedS f st).isSome ∧ Hid (Vts wx v ((preparedS f st).getD [])) ∧ Hid (Upd [] w2 wx))
  case first =>
    go_wp2_with fail
    · rename_i hh
      have hp : preparedS f st = enoughS st.ps st.batch (2 * f + 1) := by simp [preparedS, hh]
      have hcs : chosenS st = st.batch := by simp [chosenS, hh]
      have HP := Lib.hid hp
      have HCS := Lib.hid hcs
      clear hp hcs hh
      have hen := for_any vp vb pl (chosenS st) (2 * f + 1) w2.drew (by omega) ((O3.out.upd0 hu2).upd0 (Upd.refl _ _).drew) ((O2.out.upd hu2 (by simp)).upd (M := []) (Upd.refl _ _).drew (by simp)) hn
      have e2 : ((2 * f + 1 : Nat) : Int) = 2 * (f : Int) + 1 := by omega
      rw [e2] at hen
      have HEN := Lib.hid hen
      clear hen e2
      have lq : q < w2.drew.heap.size := Nat.lt_of_lt_of_le (block_lt O1.out) hu2.size
      have k1d : w2.drew.cell? ⟨q, 1, none⟩ = some vb := k1
      have k2d : w2.drew.cell? ⟨q, 2, none⟩ = some vp := k2
      go_region_held3 (fun w' => w'.cell? ⟨q, 1, none⟩ = some vb ∧ w'.cell? ⟨q, 2, none⟩ = some vp)
        (first
          | (with_reducible exact ⟨k1d, k2d⟩)
          | (with_reducible exact ⟨k1e, k2e⟩))
        (first
          | (go_at_call 27; refine (rquorum_any f _ (by omega) (by omega)).mono ?_; rintro e w' ⟨rfl, rfl⟩)
          | (go_at_call 62; refine HEN.out.mono ?_; rintro e w3 ⟨u3, rfl, hb3, hv3, -⟩
             have k1e := (hb3.cell (p := ⟨q, 1, none⟩) lq).trans k1d
             have k2e := (hb3.cell (p := ⟨q, 2, none⟩) lq).trans k2d))
      go_wp2_with fail
      go_meet
      have hfs : forS pl (chosenS st) (2 * f + 1) = preparedS f st := by rw [HP.out, HCS.out, for_refs O4.out]
      rw [hfs] at hv3 ⊢
      exact ⟨rfl, hv3, (Upd.of_below (M := []) hb3).mono (by simp) |> fun h => ((Upd.refl _ _).drew).trans h⟩
    · rename_i hh
      have hh' : st.has = false := by simpa using hh
      have HP := Lib.hid (show preparedS f st = none by simp [preparedS, hh'])
      go_meet
      refine ⟨by rw [HP.out]; rfl, ?_, Upd.refl _ _⟩
      rw [HP.out]; exact Reads.nil _ _
  case rest =>
    obtain ⟨rfl, HV, HU⟩ := hcut
    clear k0 k1 k2 hnb
    have HC := Lib.hid (H1.out.upd0 (hu2.trans HU.out))
    have RC := Lib.hid (R1.out.upd0 (hu2.trans HU.out))
    have UC := Lib.hid ((U1.out.trans hu2).trans HU.out)
    clear hu2 HU O1 O2 O3 O4 O5 O6 B1
    have hpl : ((preparedS f st).getD []).length ≤ 100000 := by
      unfold preparedS enoughS
      split
      · split
        · simp
        · simp only [Option.getD_some, List.length_take]; omega
      · simp
    have HPL := Lib.hid hpl
    clear hpl
    go_wp2_with fail
    refine (ws_prepared HC.out).mono ?_
    rintro e w4 ⟨u4, rfl, hu4, h4, hb4⟩
    rw [HF.out] at hb4 ⊢
    have H4 := Lib.hid h4
    have R4 := Lib.hid (RC.out.upd0 hu4)
    have U4 := Lib.hid (UC.out.trans hu4)
    have V4 := Lib.hid (HV.out.upd hu4 (by simp))
    have W4 := Lib.hid hb4
    clear h4 hb4 hu4 HC RC UC HV
    generalize (preparedS f st).isSome = pb at *
    have hpp : (pb != pb) = false := by simp
    go_wp2_with fail
    refine (sameV_any _ u4 _ _ _ HPL.out HPL.out V4.out W4.out).mono ?_
    rintro e w5 ⟨rfl, hu5⟩
    rw [show decide ((preparedS f st).getD [] = (preparedS f st).getD []) = true from decide_eq_true rfl]
    have H5 := Lib.hid (H4.out.upd0 hu5)
    have R5 := Lib.hid (R4.out.upd0 hu5)
    have U5 := Lib.hid (U4.out.trans hu5)
    clear hu5 H4 R4 U4 V4 W4
    go_wp2_with fail
    refine (rquorum_any f _ (by omega) (by omega)).mono ?_
    rintro e w' ⟨rfl, rfl⟩
    obtain ⟨vb', vp', vc', o1, -, -, cl', o5, o6⟩ := R5.out.own
    have hcm := rcomm_any q vc' cl' (2 * f + 1) w5 (by omega) (block_lt o1) (by rw [block_cell o1]; rfl) o5
    have e2 : ((2 * f + 1 : Nat) : Int) = 2 * (f : Int) + 1 := by omega
    rw [e2, rcommL_refs o6 (2 * f + 1) st.cs 0 cl' o6] at hcm
    have HCM := Lib.hid hcm
    clear hcm o1 o5 o6 e2
    have hsm : ∀ t ∈ st.cs, t.batch.length ≤ 100000 := by
      obtain ⟨D, q1, _, _⟩ := (H5.out.on (L, st) (by simp)).2
      exact q1.small.2.2
    have LB := Lib.hid (small_batch (all := st.cs) (q := 2 * f + 1) st.cs hsm)
    have LV := Lib.hid (small_votes (all := st.cs) (q := 2 * f + 1) st.cs)
    clear hsm
    go_wp2_with fail
    refine HCM.out.mono ?_
    rintro e w6 ⟨v6, u6, rfl, hb6, hv6, hw6⟩
    have H6 := Lib.hid (H5.out.upd0 (Upd.of_below hb6))
    have U6 := Lib.hid (U5.out.trans (Upd.of_below hb6))
    have B6 := Lib.hid hv6
    have V6 := Lib.hid hw6
    clear hb6 hv6 hw6 H5 U5 HCM R5
    go_wp2_with fail
    refine (ws_committed H6.out).mono ?_
    rintro e w7 ⟨v7, u7, rfl, hu7, h7, hb7, hv7⟩
    rw [HF.out, show committedS f st = committedL st.cs (2 * f + 1) st.cs from rfl] at hb7 hv7 ⊢
    have H7 := Lib.hid h7
    have U7 := Lib.hid (U6.out.trans hu7)
    have B6a := Lib.hid (B6.out.upd hu7 (by simp))
    have V6a := Lib.hid (V6.out.upd hu7 (by simp))
    have B7 := Lib.hid hb7
    have V7 := Lib.hid hv7
    clear h7 hb7 hv7 hu7 H6 U6 B6 V6
    generalize committedL st.cs (2 * f + 1) st.cs = R at *
    have hbb : (R.isSome == R.isSome) = true := by simp
    generalize R.isSome = bb at *
    go_wp2_with fail
    refine (sameR_any v6 v7 (batchOf R) (batchOf R) _ LB.out LB.out B6a.out B7.out).mono ?_
    rintro e w8 ⟨rfl, hu8⟩
    rw [decide_eq_true (rfl : batchOf R = batchOf R)]
    have hlv : (votesOf R).length ≤ 100000 := by have := LV.out; omega
    have hsv := sameV_any u6 u7 (votesOf R) (votesOf R) w8 hlv hlv (V6a.out.upd hu8 (by simp)) (V7.out.upd hu8 (by simp))
    have H8 := Lib.hid (H7.out.upd0 hu8)
    have U8 := Lib.hid (U7.out.trans hu8)
    have HSV := Lib.hid hsv
    clear hsv hlv hu8 H7 U7
    go_wp2_with fail
    refine HSV.out.mono ?_
    rintro e w9 ⟨rfl, hu9⟩
    rw [decide_eq_true trivial]
    have H9 := Lib.hid (H8.out.upd0 hu9)
    have U9 := Lib.hid (U8.out.trans hu9)
    clear hu9
    go_wp2_with fail
    go_ret
    exact ⟨rfl, H9.out, U9.out⟩

end Go.Proofs.Ytdeadekeffficaa

/- Acts that came in: psephoslaw14.Act. -/
namespace Go.Proofs.Ytdeadekeffficaa
open Go.ChangeShapes Go.WideShapes Go.ChangeAt Go.RowKit Go.Deep Go.Heap

theorem Try.cellsInt : Try.prog.cellsOf 3 = 1 := by kernel_rfl
theorem Try.cellsOp : Try.prog.cellsOf 30 = 3 := by kernel_rfl
theorem Try.cellsBatch : Try.prog.cellsOf 33 = 1 := by kernel_rfl

structure Ac where
  act : Int
  kind : Int
  node : Int
  sl : Int
  which : Int
  b : Value
  rs : List Rq

def acCells (a : Ac) : List Value := [.int .i64 a.act, .int .i64 a.kind, .int .i64 a.node, .int .i64 a.sl, .int .i64 a.which, a.b]

/-- v is a slice of the acts xs; each one's batch can be read. -/
def Acts (w : World) (v : Value) (xs : List Ac) : Prop := Reads w v 6 xs.length (xs.flatMap acCells) ∧ ∀ a ∈ xs, Bat w a.b a.rs

theorem Acts.below {w w' : World} {v : Value} {xs : List Ac} (h : Acts w v xs) (hu : Upd [] w w') : Acts w' v xs :=
  ⟨h.1.upd hu (by simp), fun a ha => (h.2 a ha).upd hu (by simp)⟩

theorem Acts.at {w : World} {ao : Option Addr} {n cap : Nat} {xs : List Ac} (h : Acts w (.slice ao n cap) xs) (k : Nat) (hk : k < xs.length) :
    n = xs.length ∧ ∃ b o, ao = some ⟨b, o, none⟩ ∧ b < w.heap.size ∧ w.cell? ⟨b, o + k * 6, none⟩ = some (.int .i64 xs[k].act) ∧ w.cell? ⟨b, o + k * 6 + 1, none⟩ = some (.int .i64 xs[k].kind) ∧ w.cell? ⟨b, o + k * 6 + 2, none⟩ = some (.int .i64 xs[k].node) ∧
      w.cell? ⟨b, o + k * 6 + 3, none⟩ = some (.int .i64 xs[k].sl) ∧ w.cell? ⟨b, o + k * 6 + 4, none⟩ = some (.int .i64 xs[k].which) ∧ w.cell? ⟨b, o + k * 6 + 5, none⟩ = some xs[k].b ∧ Bat w xs[k].b xs[k].rs := by
  obtain ⟨⟨ao', cap', hv, h1, h2, h3, h4, h5⟩, hb⟩ := h
  simp only [Value.slice.injEq] at hv
  obtain ⟨rfl, rfl, rfl⟩ := hv
  obtain ⟨b, o, rfl, hbs, hc⟩ := h5 (by omega)
  have hg : ∀ r, r < 6 → w.cell? ⟨b, o + k * 6 + r, none⟩ = (acCells xs[k])[r]? := by
    intro r hr
    have := hc (k * 6 + r) (by omega)
    rw [flat_get (cells := acCells) (sz := 6) (fun _ => rfl) xs k r xs[k] (by simp) hr] at this
    rw [← this]
    congr 2
    omega
  exact ⟨rfl, b, o, rfl, hbs, hg 0 (by omega), hg 1 (by omega), hg 2 (by omega), hg 3 (by omega), hg 4 (by omega), hg 5 (by omega), hb _ (by simp)⟩

section
variable {H : Type} {enc : TypeId × Value → H} {W : World} {base : Nat} {spare : Nat → Bool} {held : Bool}

theorem int_cell {n : Nat} {t : TypeId} {cs : List Value} {o : Option (DataW H × List MemPlace)} (ht : Try.prog.underlying t = some (.int .i64)) (ho : o.isSome = true) (h : DataW.trod enc Try.prog W base spare held n t cs = o) : ∃ a, cs = [.int .i64 a] := by
  obtain ⟨y, rfl⟩ := Option.isSome_iff_exists.1 ho
  obtain ⟨a, e, _, _⟩ := DataW.trod_int ht h
  exact ⟨a, e⟩

theorem six {cs : List Value} (h : cs.length = 6) : ∃ a b c d e f, cs = [a, b, c, d, e, f] := by
  match cs, h with
  | [a, b, c, d, e, f], _ => exact ⟨a, b, c, d, e, f, rfl⟩

theorem get_some {α : Type} {xs : List α} {n j : Nat} (h : xs.length = n) (hj : j < n) : xs[j]?.isSome = true := by
  rw [List.getElem?_eq_getElem (by omega)]; rfl

theorem req_cells {n : Nat} {cs : List Value} {y : DataW H × List MemPlace} (hl : cs.length = 6) (h : DataW.trod enc Try.prog W base spare held n 32 cs = some y) : ∃ r : Rq, cs = rqCells r ∧ True := by
  obtain ⟨c0, c1, c2, c3, c4, c5, rfl⟩ := six hl
  obtain ⟨ys, n', _, _, _, hyl, hf⟩ := DataW.trod_struct Try.underlying32 h
  obtain ⟨a0, e0⟩ := int_cell Try.underlying3 (get_some hyl (by decide)) (hf 0 _ rfl)
  obtain ⟨a1, e1⟩ := int_cell Try.underlying3 (get_some hyl (by decide)) (hf 1 _ rfl)
  have h2 := hf 2 _ rfl
  obtain ⟨y2, hy2⟩ := Option.isSome_iff_exists.1 (get_some hyl (show 2 < _ by decide))
  rw [hy2] at h2
  obtain ⟨zs, n2, _, _, _, hzl, hz⟩ := DataW.trod_struct Try.underlying30 h2
  obtain ⟨a2, e2⟩ := int_cell Try.underlying3 (get_some hzl (by decide)) (hz 0 _ rfl)
  obtain ⟨a3, e3⟩ := int_cell Try.underlying3 (get_some hzl (by decide)) (hz 1 _ rfl)
  obtain ⟨a4, e4⟩ := int_cell Try.underlying3 (get_some hzl (by decide)) (hz 2 _ rfl)
  obtain ⟨a5, e5⟩ := int_cell Try.underlying3 (get_some hyl (by decide)) (hf 3 _ rfl)
  simp [Try.cellsInt, Try.cellsOp] at e0 e1 e2 e3 e4 e5
  subst e0 e1 e2 e3 e4 e5
  exact ⟨⟨a0, a1, a2, a3, a4, a5⟩, rfl, trivial⟩

theorem bat_of {n : Nat} {v : Value} {y : DataW H × List MemPlace} (h : DataW.trod enc Try.prog W base spare held n 33 [v] = some y) : ∃ rs : List Rq, Bat W v rs := by
  obtain ⟨rs, h1, _⟩ := slice_reads (sz := 6) (cells := rqCells) (Q := fun _ => True) Try.underlying33 (by kernel_rfl) (by omega) (fun _ => rfl) (fun n cs' y hl hy => req_cells hl hy) h
  exact ⟨rs, h1⟩

theorem act_cells {n : Nat} {cs : List Value} {y : DataW H × List MemPlace} (hl : cs.length = 6) (h : DataW.trod enc Try.prog W base spare held n 50 cs = some y) : ∃ a : Ac, cs = acCells a ∧ Bat W a.b a.rs := by
  obtain ⟨c0, c1, c2, c3, c4, c5, rfl⟩ := six hl
  obtain ⟨ys, n', _, _, _, hyl, hf⟩ := DataW.trod_struct Try.underlying50 h
  obtain ⟨a0, e0⟩ := int_cell Try.underlying3 (get_some hyl (by decide)) (hf 0 _ rfl)
  obtain ⟨a1, e1⟩ := int_cell Try.underlying3 (get_some hyl (by decide)) (hf 1 _ rfl)
  obtain ⟨a2, e2⟩ := int_cell Try.underlying3 (get_some hyl (by decide)) (hf 2 _ rfl)
  obtain ⟨a3, e3⟩ := int_cell Try.underlying3 (get_some hyl (by decide)) (hf 3 _ rfl)
  obtain ⟨a4, e4⟩ := int_cell Try.underlying3 (get_some hyl (by decide)) (hf 4 _ rfl)
  have h5 := hf 5 _ rfl
  obtain ⟨y5, hy5⟩ := Option.isSome_iff_exists.1 (get_some hyl (show 5 < _ by decide))
  rw [hy5] at h5
  simp [Try.cellsInt, Try.cellsBatch] at e0 e1 e2 e3 e4 h5
  subst e0 e1 e2 e3 e4
  obtain ⟨rs, hb⟩ := bat_of h5
  exact ⟨⟨a0, a1, a2, a3, a4, c5, rs⟩, rfl, hb⟩

set_option maxRecDepth 100000 in
theorem acts_of {base' : Nat} {v : Value} {d : DataW H} {p : List MemPlace} {r : Reach} (hv : Value.okWide Try.prog W r base' 48 v) (h : DataW.Trod enc Try.prog W base spare held 48 v d p) : ∃ xs : List Ac, Acts W v xs := by
  obtain ⟨ao, len, cap, rfl⟩ := okWide_slice Try.underlying48 hv
  obtain ⟨fuel, hf⟩ := h
  obtain ⟨xs, h1, h2⟩ := slice_reads (sz := 6) (cells := acCells) (Q := fun a => Bat W a.b a.rs) Try.underlying48 (by kernel_rfl) (by omega) (fun _ => rfl) (fun n cs' y hl hy => act_cells hl hy) hf
  exact ⟨xs, h1, h2⟩

end
end Go.Proofs.Ytdeadekeffficaa

/- psephoslaw14.batch: an act's batch. -/
namespace Go.Proofs.Ytdeadekeffficaa
open Go.RowKit Go.Heap

def batchS (a : Ac) : List Rq := if a.which % 5 ≤ 2 then [rq 0 1] else if a.which % 5 = 3 then [] else a.rs.take 3

/-- What batch gives: a new block, nothing, or the beginning of what came in. -/
def BatchPost (w : World) (a : Ac) (e : Ending) (w' : World) : Prop :=
  ∃ v, e = .returned v ∧ Below w.heap.size w w' ∧ Bat w' v (batchS a) ∧ ∀ k ∈ blkIf (batchS a).length v, (w.heap.size ≤ k ∧ k < w'.heap.size) ∨ k ∈ blkIf a.rs.length a.b

theorem bat_take {w : World} {ao : Option Addr} {n cap : Nat} {rs : List Rq} (h : Bat w (.slice ao n cap) rs) (m : Nat) (hm : m ≤ rs.length) : Bat w (.slice ao m cap) (rs.take m) := by
  obtain ⟨ao', cap', hv, h1, h2, h3, h4, h5⟩ := h
  simp only [Value.slice.injEq] at hv
  obtain ⟨rfl, rfl, rfl⟩ := hv
  have hl : (rs.take m).length = m := by simp; omega
  refine ⟨ao, cap, by rw [hl], by rw [hl]; omega, h2, by rw [rqsCells_length], fun e => ⟨by rw [hl]; have := (h4 e).1; omega, (h4 e).2⟩, fun h0 => ?_⟩
  rw [hl] at h0 ⊢
  obtain ⟨b, o, rfl, hb, hc⟩ := h5 (by omega)
  refine ⟨b, o, rfl, hb, fun j hj => ?_⟩
  rw [hc j (by omega)]
  have : rqsCells rs = rqsCells (rs.take m) ++ rqsCells (rs.drop m) := by rw [rqsCells, rqsCells, rqsCells, ← List.flatMap_append, List.take_append_drop]
  rw [this, List.getElem?_append_left (by rw [rqsCells_length, hl]; exact hj)]

set_option maxHeartbeats 1000000 in
set_option maxRecDepth 100000 in
theorem batch_any (a : Ac) (w : World) (hb : Bat w a.b a.rs) : Calls Try.prog 60 #[.agg #[.int .i64 a.act, .int .i64 a.kind, .int .i64 a.node, .int .i64 a.sl, .int .i64 a.which, a.b]] w (BatchPost w a) := by
  obtain ⟨ao, cap, hv, hl1, hl2, -⟩ := id hb
  have hB := hb
  rw [hv] at hB ⊢
  have HB := Lib.hid hB
  have HV := Lib.hid hv
  have hmx : a.rs.length ≤ 9223372036854775807 := by unfold maxLen at hl2; omega
  clear hb hB hl2 hv
  obtain ⟨hb1, hb2⟩ := emod_in a.which 5 (by omega)
  go_enter Try.func60, Try.ntmps60
  go_wp2_with fail
  refine (Within_any a.which 5 _ (by omega) (by omega)).mono ?_
  rintro e w' ⟨rfl, rfl⟩
  have HS := Lib.hid (show batchS a = if a.which % 5 ≤ 2 then [rq 0 1] else if a.which % 5 = 3 then [] else a.rs.take 3 from rfl)
  generalize a.which % 5 = m at *
  have hm : m = 0 ∨ m = 1 ∨ m = 2 ∨ m = 3 ∨ m = 4 := by omega
  rcases hm with rfl | rfl | rfl | rfl | rfl
  · go_wp2_with fail
    go_ret
    refine ⟨_, rfl, ((Below.refl _ _).alloc (Nat.le_refl _) _).alloc (by simp) _, ?_, ?_⟩
    · rw [HS.out, if_pos (by omega)]
      refine bat_one ?_
      rw [← hs_alloc]
      exact heap_alloc_new _ _
    · intro k hk; have hk := blkIf_sub hk; simp [blkOf] at hk; subst hk; simp
  · go_wp2_with fail
    go_ret
    refine ⟨_, rfl, ((Below.refl _ _).alloc (Nat.le_refl _) _).alloc (by simp) _, ?_, ?_⟩
    · rw [HS.out, if_pos (by omega)]
      refine bat_one ?_
      rw [← hs_alloc]
      exact heap_alloc_new _ _
    · intro k hk; have hk := blkIf_sub hk; simp [blkOf] at hk; subst hk; simp
  · go_wp2_with fail
    go_ret
    refine ⟨_, rfl, ((Below.refl _ _).alloc (Nat.le_refl _) _).alloc (by simp) _, ?_, ?_⟩
    · rw [HS.out, if_pos (by omega)]
      refine bat_one ?_
      rw [← hs_alloc]
      exact heap_alloc_new _ _
    · intro k hk; have hk := blkIf_sub hk; simp [blkOf] at hk; subst hk; simp
  · go_wp2_with fail
    go_ret
    refine ⟨.slice none 0 0, rfl, (Below.refl _ _).alloc (Nat.le_refl _) _, ?_, fun k hk => by have hk := blkIf_sub hk; simp [blkOf] at hk⟩
    have hs : batchS a = [] := by rw [HS.out]; simp
    rw [hs]
    exact Reads.nil _ _
  · have hs : batchS a = a.rs.take 3 := by rw [HS.out]; simp
    clear HS
    have HS := Lib.hid hs
    clear hs
    by_cases h3 : 3 < a.rs.length
    · have h3I : (3 : Int) < (a.rs.length : Int) := by omega
      go_wp2_with fail
      go_ret
      refine ⟨.slice ao 3 cap, rfl, (Below.refl _ _).alloc (Nat.le_refl _) _, ?_, fun k hk => .inr ?_⟩
      · rw [HS.out]
        exact (bat_take HB.out 3 (by omega)).upd (M := []) ((Upd.refl _ _).alloc _) (by simp)
      · rw [HV.out, blkIf, if_pos (by omega)]
        have hk2 := blkIf_sub hk
        cases ao with
        | none => simp [blkOf] at hk2
        | some ad => exact hk2
    · have h3I : ¬ (3 : Int) < (a.rs.length : Int) := by omega
      have h3J : (a.rs.length : Int) ≤ 3 := by omega
      go_wp2_with fail
      go_ret
      refine ⟨.slice ao a.rs.length cap, rfl, (Below.refl _ _).alloc (Nat.le_refl _) _, ?_, fun k hk => .inr ?_⟩
      · rw [HS.out, List.take_of_length_le (by omega)]
        exact HB.out.upd (M := []) ((Upd.refl _ _).alloc _) (by simp)
      · have hk2 := blkIf_sub hk
        unfold blkIf at hk
        split at hk
        · rename_i hp
          rw [HS.out, List.length_take] at hp
          rw [HV.out, blkIf, if_pos (by omega)]; exact hk2
        · simp at hk

end Go.Proofs.Ytdeadekeffficaa

/- psephosref12.Add: a vote more, by rising nodes. -/
namespace Go.Proofs.Ytdeadekeffficaa
open Go.RowKit Go.Heap

theorem Try.infoRv : (Try.prog.info? 113).map (fun i => (i.zero, i.size, i.bytes)) = some (some (.agg #[.int .i64 0, .int .i64 0, .slice none 0 0]), 3, 40) := by kernel_rfl

theorem rvs_cell {w : World} {b o : Nat} {n cap : Nat} {l : List Rv} (h : RVs w (.slice (some ⟨b, o, none⟩) n cap) l) (j : Nat) (hj : j < l.length * 3) : w.cell? ⟨b, o + j, none⟩ = (l.flatMap rvCells)[j]? := by
  obtain ⟨⟨ao', cap', hv, h1, h2, h3, h4, h5⟩, hb⟩ := h
  simp only [Value.slice.injEq] at hv
  obtain ⟨rfl, rfl, rfl⟩ := hv
  obtain ⟨b', o', he, hbs, hc⟩ := h5 (by omega)
  simp only [Option.some.injEq, Addr.mk.injEq, and_true] at he
  obtain ⟨rfl, rfl⟩ := he
  exact hc j hj

theorem rv_len (l : List Rv) : (l.flatMap rvCells).length = l.length * 3 := flat_length (cells := rvCells) (sz := 3) (fun _ => rfl) l

theorem rv_one {w : World} {v : Value} {l : List Rv} (h : RVs w v l) : ∀ u ∈ l.flatMap rvCells, u.oneCell' = true := by
  intro u hu
  simp only [List.mem_flatMap] at hu
  obtain ⟨r, hr, hu⟩ := hu
  obtain ⟨ao, cap, hb⟩ := bat_form (h.2 r hr).1
  simp only [rvCells, hb, List.mem_cons, List.not_mem_nil, or_false] at hu
  rcases hu with rfl | rfl | rfl <;> rfl

def AddNo (w : World) (v : Value) (e : Ending) (w' : World) : Prop := e = .returned (.tuple #[v, .bool false]) ∧ Below w.heap.size w w'

set_option maxHeartbeats 1000000 in
set_option maxRecDepth 100000 in
theorem add_no (v bv : Value) (l : List Rv) (node sl : Int) (rs : List Rq) (w : World) (hn : l.length ≤ 1000) (hv : RVs w v l) (hb : Bat w bv rs) (a : Nat) (ha : a < l.length) (hat : l[a].node = node) (hup : ∀ i (hi : i < l.length), a < i → node < l[i].node) :
    Calls Try.prog 61 #[v, .agg #[.int .i64 node, .int .i64 sl, bv]] w (AddNo w v) := by
  obtain ⟨ao, cap, rfl, hl1, hl2, -⟩ := hv.1
  obtain ⟨bo, bcap, rfl⟩ := bat_form hb
  have hmx : l.length ≤ cap := hl1
  clear hl1 hl2
  have HV := Lib.hid hv
  have HUP := Lib.hid hup
  have HAT := Lib.hid hat
  clear hv hup hat hb
  go_enter Try.func61, Try.ntmps61
  have HB := Lib.hid (show (w.alloc (.cells #[.int .i64 node, .int .i64 sl, .slice bo rs.length bcap] 113)).heap[w.heap.size]? = _ from heap_alloc_new w _)
  go_wp2_with fail
  go_loopw [6] (fun i wr => ∃ k : Nat, a < k ∧ k ≤ l.length ∧ i = .int .i64 k ∧ Below w.heap.size w wr ∧ Hid (wr.heap[w.heap.size]? = some (.cells #[.int .i64 node, .int .i64 sl, .slice bo rs.length bcap] 113 (0, 0)))) (fun i _ => (intOf i).toNat)
  case atStart => exact ⟨l.length, by omega, by omega, rfl, (Below.refl _ _).alloc (Nat.le_refl _) _, HB⟩
  case round =>
    clear HB
    obtain ⟨k, hk, hkl, rfl, hbel, hbox⟩ := hrel
    have hz := hbel.size
    have hvr := HV.out.upd0 (Upd.of_below hbel)
    obtain ⟨-, b, o, rfl, hbs, c0, -⟩ := hvr.at (k - 1) (by omega)
    have x0 : wr.cell? ⟨w.heap.size, 0, none⟩ = some (.int .i64 node) := by rw [block_cell hbox.out]; rfl
    have hk1 : (k : Int) - 1 = ((k - 1 : Nat) : Int) := by omega
    have hsub : IntKind.i64.wrap ((k : Int) - 1) = ((k - 1 : Nat) : Int) := by rw [hk1]; exact IntWalk.i64_in _ (by omega)
    have hk0 : (0 : Int) < (k : Int) := by omega
    clear hvr
    by_cases hka : k = a + 1
    · subst hka
      simp only [Nat.add_sub_cancel] at c0 hsub
      rw [HAT.out] at c0
      have heqb : (node == node) = true := by simp
      go_wp2_with fail
      refine Mix.wp_text2 (by kernel_rfl) (by kernel_rfl) ?_
      go_wp2_with fail
      refine ⟨by rfl, ?_⟩
      go_wp2_with fail
      refine Mix.wp_text2 (by kernel_rfl) (by kernel_rfl) ?_
      go_wp2_with fail
      refine ⟨by rfl, ?_⟩
      go_wp2_with fail
      go_ret2
      exact ⟨rfl, hbel.drew.drew⟩
    · have hlt := HUP.out (k - 1) (by omega) (by omega)
      generalize l[k - 1].node = nd at *
      have hne : (nd == node) = false := by simp; omega
      have hge : node ≤ nd := by omega
      go_wp2_with fail
      refine Mix.wp_text2 (by kernel_rfl) (by kernel_rfl) ?_
      go_wp2_with fail
      refine ⟨by rfl, ?_⟩
      go_wp2_with fail
      refine Mix.wp_text2 (by kernel_rfl) (by kernel_rfl) ?_
      go_wp2_with fail
      refine ⟨by rfl, ?_⟩
      go_wp2_with fail
      go_roundw
      case rel => exact ⟨k - 1, by omega, by omega, by go_num, hbel.drew.drew, hbox⟩
      case measure => simp [intOf]; omega

end Go.Proofs.Ytdeadekeffficaa
