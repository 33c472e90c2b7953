/- inst: Commits. -/
import Derived.Test.YtdeadekeffficaaInG
namespace Go.Proofs.Ytdeadekeffficaa
open Go.RowKit Go.Heap

section
variable {B : Nat} {w0 W W' : World} {ss rs : List Res} {x : Ins}

abbrev zct : Obj := ctO 0 0 0 (.slice none 0 0) (.slice none 0 0)

/-- The first ones turned about, so that the instance's places stand at the head. -/
theorem seg_first {r1 r2 r3 sg : Res} (h : Own B w0 W (r1 :: r2 :: r3 :: sg :: rs)) : Own B w0 W (sg :: r1 :: r2 :: r3 :: rs) := h.perm (List.perm_middle (l₁ := [_, _, _]))
theorem seg_back {r1 r2 r3 sg : Res} (h : Own B w0 W (sg :: r1 :: r2 :: r3 :: rs)) : Own B w0 W (r1 :: r2 :: r3 :: sg :: rs) := h.perm (List.perm_middle (l₁ := [_, _, _])).symm

theorem own_red2 {v u : Value} {l : List Rq} {vs : Vs} (h : Own B w0 W rs) (hu : Upd [] W W') (hb : Bat W' v l) (hv : Vts W' u vs) (n1 : ∀ k ∈ blkOf v, W.heap.size ≤ k) (n2 : ∀ k ∈ blkOf u, W.heap.size ≤ k) :
    Own B w0 W' (redR u 2 vs.length (vsCells vs) :: redR v 6 l.length (rqsCells l) :: rs) := by
  have h1 := (h.upd0 hu).red hb (fun k hk => h.fresh (n1 k (blkIf_sub hk)))
  refine h1.red hv (fun k hk hn => ?_)
  rcases (Ms_cons _ _ _).1 hn with hn | hn
  · simp [redR, imm] at hn
  · exact h.fresh (n2 k (blkIf_sub hk)) hn

theorem imm_read {c : Ct} {D : List Nat} (h : CtIn W c D) : Bat W c.vb c.rs ∧ Vts W c.vv c.vs := ⟨h.b.1, h.v.1⟩
theorem oi_cert (h : OwnI B w0 W x ss) (k : Nat) (hk : k < x.l.length) : (Bat W x.l[k].ct.vb x.l[k].ct.rs ∧ Vts W x.l[k].ct.vv x.l[k].ct.vs ∧ x.l[k].ct.rs.length ≤ 100000 ∧ x.l[k].ct.vs.length ≤ 100000) ∧
    Bat W x.l[k].dw.vb x.l[k].dw.rs ∧ Vts W x.l[k].dw.vv x.l[k].dw.vs ∧ x.l[k].dw.rs.length ≤ 100000 ∧ x.l[k].dw.vs.length ≤ 100000 := by
  obtain ⟨D, ⟨⟨_, h2⟩, _⟩, _, _⟩ := (h.all (certsR x) (by simp [insHd])).1
  obtain ⟨q1, q2⟩ := h2 x.l[k] (by simp)
  exact ⟨⟨q1.b.1, q1.v.1, q1.bn, q1.vn⟩, q2.b.1, q2.v.1, q2.bn, q2.vn⟩

/-- The block at the head of what is beside an instance. -/
theorem oi_box {b : Nat} {o : Obj} (h : OwnI B w0 W x (blk b o :: ss)) : W.heap[b]? = some o := (own_shut h).drop.blk_out

theorem cm_batch {all : List Vt} {q n : Nat} : ∀ l : List Vt, (∀ t ∈ l, t.batch.length ≤ n) → (batchOf (committedL all q l)).length ≤ n
  | [], _ => by simp [committedL, batchOf]
  | t :: r, h => by
    have ih := cm_batch (all := all) (q := q) r (fun t ht => h t (List.mem_cons_of_mem _ ht))
    unfold committedL
    cases t.has
    · exact ih
    · cases enoughS all t.batch q with
      | none => exact ih
      | some vs => exact h t (by simp)

theorem en_votes {all : List Vt} {b : List Rq} {q : Nat} {vs : Vs} (h : enoughS all b q = some vs) : vs.length ≤ q := by
  unfold enoughS at h
  split at h
  · cases h
  · simp only [Option.some.injEq] at h
    subst h
    rw [List.length_take]; omega

theorem cm_votes {all : List Vt} {q : Nat} : ∀ l : List Vt, (votesOf (committedL all q l)).length ≤ q
  | [] => by simp [committedL, votesOf]
  | t :: r => by
    have ih := cm_votes (all := all) (q := q) r
    unfold committedL
    cases t.has
    · exact ih
    · cases he : enoughS all t.batch q with
      | none => exact ih
      | some vs => exact en_votes he

theorem cm_small {st : Sl} {f : Nat} (h : ∀ t ∈ st.cs, t.batch.length ≤ 100000) (hf : f ≤ 4) : (batchOf (committedS f st)).length ≤ 100000 ∧ (votesOf (committedS f st)).length ≤ 100000 :=
  ⟨cm_batch _ h, by have := cm_votes (all := st.cs) (q := 2 * f + 1) st.cs; unfold committedS; omega⟩

theorem own_st5 {b : Nat} {a1 a2 a3 : Int} {a4 a5 : Value} (h : Own B w0 W (blk b (ctO a1 a2 a3 a4 a5) :: rs)) (view inst seq : Int) (vb vv : Value) :
    Own B w0 (((((W.setCell ⟨b, 0, none⟩ (.int .i64 view)).setCell ⟨b, 1, none⟩ (.int .i64 inst)).setCell ⟨b, 2, none⟩ (.int .i64 seq)).setCell ⟨b, 3, none⟩ vb).setCell ⟨b, 4, none⟩ vv) (blk b (ctO view inst seq vb vv) :: rs) :=
  ((((h.store 0 (.int .i64 view)).store 1 (.int .i64 inst)).store 2 (.int .i64 seq)).store 3 vb).store 4 vv

theorem upd_st5 (w : World) (b : Nat) (view inst seq : Int) (vb vv : Value) : Upd [b] w (((((w.setCell ⟨b, 0, none⟩ (.int .i64 view)).setCell ⟨b, 1, none⟩ (.int .i64 inst)).setCell ⟨b, 2, none⟩ (.int .i64 seq)).setCell ⟨b, 3, none⟩ vb).setCell ⟨b, 4, none⟩ vv) :=
  (((((Upd.refl _ _).setCell (.inl (by simp)) _).setCell (.inl (by simp)) _).setCell (.inl (by simp)) _).setCell (.inl (by simp)) _).setCell (.inl (by simp)) _

theorem comm_off {seq : Int} {st : In} (h : commI st seq = none) : commitsI st seq = st := by
  unfold commitsI; rw [h]; cases idx seq <;> rfl

set_option maxHeartbeats 2000000 in
set_option maxRecDepth 100000 in
theorem ins_commits (h : Own B w0 W (instR x :: ss)) {i : Nat} (hi : x.i = i) (seq : Int) : Calls Try.prog 36 #[.pointer (some ⟨i, 0, none⟩), .int .i64 seq] W (CertP B w0 W i (commI x.st seq) (commitsI x.st seq) ss) := by
  subst hi
  have hz := own_open (h.box zct).swap
  obtain ⟨-, -, -, -, -, c5, l1, l2⟩ := oi_cells hz
  cases hk : idx seq with
  | none =>
    have hs := idx_none hk
    have HE := Lib.hid (show commI x.st seq = none by simp [commI, plAt_none hk])
    have HA := Lib.hid (at_no x.i x.b x.cap seq _ hs c5)
    have H := Lib.hid h
    clear hz h hk hs c5
    go_enter Try.func36, Try.ntmps36
    go_wp2_with fail
    refine HA.out.mono ?_
    rintro e w' ⟨rfl, rfl⟩
    go_wp2_with fail
    exact bodyPost_ret (v := .tuple #[ctAgg noCt, .bool false]) (by simp [results, Try.results36, go_sem, noCt]) rfl (certP_none (H.out.upd0 ((Upd.refl _ _).alloc _)) HE.out (comm_off HE.out))
  | some k =>
    obtain ⟨hl, hp⟩ := plAt_some (oi_ok hz) hk
    obtain ⟨i1, i2⟩ := idx_lt hk
    have HA := Lib.hid (at_yes x.i x.b x.cap seq _ (by omega) (by omega) c5)
    have hks : seq.toNat - 1 = k := by omega
    rw [hks] at HA
    have cp := oi_ptr hz k hl
    have cd := oi_done hz k hl
    have HLF := Lib.hid ((oi_ok hz).lf _ (List.getElem_mem hl))
    cases hd : x.l[k].done
    · rw [hd] at cd
      have HC := Lib.hid (own_committed (oi_pick hz k hl))
      have HSM := Lib.hid (cm_small (own_small (oi_pick hz k hl)).2.2.1 (oi_ok hz).f2)
      have HCI := Lib.hid (show commI x.st seq = (committedS x.f x.l[k].sl).map fun r => ⟨x.view, x.num, seq, r.1, r.2⟩ by simp only [commI, hp]; simp [Pm.pl, Ins.st, hd])
      have HZ := Lib.hid hz
      have H := Lib.hid h
      have HK := Lib.hid hk
      clear hz h hk hp i2 hks hd
      go_enter Try.func36, Try.ntmps36
      go_wp2_with fail
      refine HA.out.mono ?_
      rintro e w' ⟨rfl, rfl⟩
      go_wp2_with fail
      refine HC.out.mono ?_
      rintro e w2 ⟨v, u, rfl, hu, hb, hv, n1, n2⟩
      rw [HLF.out] at hb hv ⊢
      obtain ⟨ao, cap, rfl⟩ := bat_form hb
      obtain ⟨co, cav, rfl⟩ := vts_form hv
      have H2 := Lib.hid (own_red2 HZ.out hu hb hv n1 n2)
      clear hu hb hv n1 n2 cp cd c5 HC HA
      obtain ⟨hnb, hnv⟩ := HSM.out
      cases hcm : committedS x.f x.l[k].sl with
      | none =>
        rw [hcm] at HCI
        have H3 := Lib.hid (own_shut H2.out.drop.drop)
        have fz := fun o => block_frozen H3.out.drop.blk_out o
        have hbx := H3.out.drop.blk_out
        have HBX := Lib.hid hbx
        obtain ⟨f0, f1, f2, f3, f4, fl, -⟩ := ct_cells hbx
        have fz0 := fz 0
        have fz1 := fz 1
        have fz2 := fz 2
        have fz3 := fz 3
        have fz4 := fz 4
        clear hbx fz hcm
        go_wp2_with fail
        have H4 := Lib.hid (own_st5 H3.out.swap 0 0 0 (.slice none 0 0) (.slice none 0 0))
        generalize ((((w2.setCell ⟨W.heap.size, 0, none⟩ (.int .i64 0)).setCell ⟨W.heap.size, 1, none⟩ (.int .i64 0)).setCell ⟨W.heap.size, 2, none⟩ (.int .i64 0)).setCell ⟨W.heap.size, 3, none⟩ (.slice none 0 0)).setCell ⟨W.heap.size, 4, none⟩ (.slice none 0 0) = w4 at *
        clear f0 f1 f2 f3 f4 fl fz0 fz1 fz2 fz3 fz4 HBX
        obtain ⟨f0, f1, f2, f3, f4, fl, -⟩ := ct_cells H4.out.blk_out
        exact bodyPost_ret (v := .tuple #[ctAgg noCt, .bool false]) (by simp [results, Try.results36, go_sem, noCt, f0, f1, f2, f3, f4]) rfl (certP_none H4.out.drop HCI.out (comm_off HCI.out))
      | some r =>
        rw [hcm] at HCI H2 hnb hnv
        have hb2 := oi_blk H2.out.drop.drop
        have HB2 := Lib.hid hb2
        clear hb2 hcm
        go_wp2_with fail
        refine (cert_any x.i x.f x.num x.ahead x.view x.on _ seq ao _ cap co _ cav _ HB2.out).mono ?_
        rintro e w3 ⟨rfl, hu3⟩
        have H3 := Lib.hid (H2.out.upd0 hu3)
        clear hu3 H2 HB2
        have ho3 := H3.out.drop.drop
        have c8 := oi_at ho3 k hl 8 (by omega)
        have c9 := oi_at ho3 k hl 9 (by omega)
        have c10 := oi_at ho3 k hl 10 (by omega)
        have c11 := oi_at ho3 k hl 11 (by omega)
        have c12 := oi_at ho3 k hl 12 (by omega)
        have c13 := oi_at ho3 k hl 13 (by omega)
        obtain ⟨fzb, -⟩ := oi_fz ho3
        have z8 := fzb (k * 14 + 8)
        have z9 := fzb (k * 14 + 9)
        have z10 := fzb (k * 14 + 10)
        have z11 := fzb (k * 14 + 11)
        have z12 := fzb (k * 14 + 12)
        have z13 := fzb (k * 14 + 13)
        clear ho3 fzb
        simp only [pmCells, List.getElem?_cons_succ, List.getElem?_cons_zero] at c8 c9 c10 c11 c12 c13
        go_wp2_with fail
        have H4 := Lib.hid (oi_dw H3.out k hl x.view x.num seq hnb hnv)
        have r1 := (redR_out (H3.out.drop.head))
        have r2 := (redR_out H3.out.head)
        have H4S := Lib.hid (show W.heap.size < w3.heap.size from block_lt (own_shut H3.out.drop.drop).drop.blk_out)
        generalize (((((w3.setCell ⟨x.b, k * 14 + 8, none⟩ (.bool true)).setCell ⟨x.b, k * 14 + 9, none⟩ (.int .i64 x.view)).setCell ⟨x.b, k * 14 + 9 + 1, none⟩ (.int .i64 x.num)).setCell ⟨x.b, k * 14 + 9 + 2, none⟩ (.int .i64 seq)).setCell ⟨x.b, k * 14 + 9 + 3, none⟩ (.slice ao (batchOf (some r)).length cap)).setCell ⟨x.b, k * 14 + 9 + 4, none⟩ (.slice co (votesOf (some r)).length cav) = w4 at *
        clear c8 c9 c10 c11 c12 c13 z8 z9 z10 z11 z12 z13 H3 r1 r2
        have hq := (oi_cert H4.out k (by simpa using hl)).2
        simp only [List.getElem_set_self] at hq
        obtain ⟨q1, q2, q3, q4⟩ := hq
        have HF := Lib.hid (fresh_ct ⟨x.view, x.num, seq, .slice ao (batchOf (some r)).length cap, .slice co (votesOf (some r)).length cav, batchOf (some r), votesOf (some r)⟩ w4 q1 q3 q2 q4)
        clear q1 q2 q3 q4
        have H4L := Lib.hid (show W.heap.size < w4.heap.size from block_lt (own_shut H4.out).drop.blk_out)
        refine HF.out.mono ?_
        rintro e w5 ⟨⟨view', inst', seq', vb', vv', rs', vs'⟩, rfl, hcp, hu5, hb5, hv5, nb, nv⟩
        simp only at hb5 hv5 nb nv
        obtain ⟨ao6, cap6, rfl⟩ := bat_form hb5
        obtain ⟨co6, cav6, rfl⟩ := vts_form hv5
        have H5 := Lib.hid ((own_red2 (own_shut H4.out).swap hu5 hb5 hv5 nb nv).rot)
        have HCP := Lib.hid hcp
        have HB5 := Lib.hid hb5
        have HV5 := Lib.hid hv5
        have NB := Lib.hid nb
        have NV := Lib.hid nv
        clear hcp hu5 hb5 hv5 nb nv H4 HF
        obtain ⟨f0, f1, f2, f3, f4, fl, fz⟩ := ct_cells H5.out.blk_out
        have fz0 := fz 0
        have fz1 := fz 1
        have fz2 := fz 2
        have fz3 := fz 3
        have fz4 := fz 4
        clear fz
        go_wp2_with fail
        have H6 := Lib.hid (own_st5 H5.out view' inst' seq' (.slice ao6 rs'.length cap6) (.slice co6 vs'.length cav6))
        have HU6 := Lib.hid (upd_st5 w5 W.heap.size view' inst' seq' (.slice ao6 rs'.length cap6) (.slice co6 vs'.length cav6))
        generalize ((((w5.setCell ⟨W.heap.size, 0, none⟩ (.int .i64 view')).setCell ⟨W.heap.size, 1, none⟩ (.int .i64 inst')).setCell ⟨W.heap.size, 2, none⟩ (.int .i64 seq')).setCell ⟨W.heap.size, 3, none⟩ (.slice ao6 rs'.length cap6)).setCell ⟨W.heap.size, 4, none⟩ (.slice co6 vs'.length cav6) = w6 at *
        clear f0 f1 f2 f3 f4 fl fz0 fz1 fz2 fz3 fz4 H5
        obtain ⟨f0, f1, f2, f3, f4, fl, -⟩ := ct_cells H6.out.blk_out
        refine bodyPost_ret (v := .tuple #[ctAgg ⟨view', inst', seq', .slice ao6 rs'.length cap6, .slice co6 vs'.length cav6, rs', vs'⟩, .bool true]) (by simp [results, Try.results36, go_sem, f0, f1, f2, f3, f4]) rfl ?_
        have hcp := HCP.out
        simp only [Ct.cp, Cp.mk.injEq] at hcp
        obtain ⟨e1, e2, e3, e4, e5⟩ := hcp
        have hnew : ∀ (v : Value), (∀ k ∈ blkOf v, w4.heap.size ≤ k) → (∀ k ∈ blkOf v, W.heap.size ≤ k) ∧ ∀ k ∈ blkOf v, k ∉ [W.heap.size] := fun v hv => ⟨fun k hk => by have := hv k hk; have := H4L.out; omega, fun k hk hn => by have := hv k hk; have := H4L.out; simp at hn; omega⟩
        refine ⟨⟨view', inst', seq', .slice ao6 rs'.length cap6, .slice co6 vs'.length cav6, rs', vs'⟩, ?_, ?_, ⟨by simp only [e4]; exact hnb, by simp only [e5]; exact hnv⟩, HB5.out.upd HU6.out (hnew _ NB.out).2, Reads.upd HV5.out HU6.out (hnew _ NV.out).2, (hnew _ NB.out).1, (hnew _ NV.out).1,
          x.sl k { x.l[k] with done := true, dw := ⟨x.view, x.num, seq, .slice ao (batchOf (some r)).length cap, .slice co (votesOf (some r)).length cav, batchOf (some r), votesOf (some r)⟩ }, rfl, ?_, H6.out.drop⟩
        · rw [HCI.out]; rfl
        · rw [HCI.out]
          simp only [Ct.cp, Option.map_some, Option.getD_some, Cp.mk.injEq]
          exact ⟨e1, e2, e3, e4, e5⟩
        · rw [show commitsI x.st seq = x.st.upd k fun p => { p with done := true, dw := ⟨x.view, x.num, seq, r.1, r.2⟩ } by simp [commitsI, HK.out, HCI.out]]
          exact st_set x k hl _ _ rfl
    · rw [hd] at cd
      have HE := Lib.hid (show commI x.st seq = none by simp only [commI, hp]; simp [Pm.pl, hd])
      have H := Lib.hid h
      clear hz h hk hp i2 hks hd c5 cp
      go_enter Try.func36, Try.ntmps36
      go_wp2_with fail
      refine HA.out.mono ?_
      rintro e w' ⟨rfl, rfl⟩
      go_wp2_with fail
      exact bodyPost_ret (v := .tuple #[ctAgg noCt, .bool false]) (by simp [results, Try.results36, go_sem, noCt]) rfl (certP_none (H.out.upd0 ((Upd.refl _ _).alloc _)) HE.out (comm_off HE.out))

end
end Go.Proofs.Ytdeadekeffficaa
