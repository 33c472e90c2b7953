/- inst: Committed, Prepared. -/
import Derived.Test.YtdeadekeffficaaInJ
namespace Go.Proofs.Ytdeadekeffficaa
open Go.RowKit Go.Heap

section
variable {B : Nat} {w0 W W' : World} {ss rs : List Res} {x : Ins}

set_option maxHeartbeats 2000000 in
set_option maxRecDepth 100000 in
theorem ins_committed (h : Own B w0 W (instR x :: ss)) {i : Nat} (hi : x.i = i) (seq : Int) : Calls Try.prog 42 #[.pointer (some ⟨i, 0, none⟩), .int .i64 seq] W (CertP B w0 W i (committedI x.st seq) x.st ss) := by
  subst hi
  have hz := own_open (h.box zct).swap
  obtain ⟨-, -, -, -, -, c5, l1, l2⟩ := oi_cells hz
  cases hk : idx seq with
  | none =>
    have hs := idx_none hk
    have HE := Lib.hid (show committedI x.st seq = none by simp [committedI, plAt_none hk])
    have HA := Lib.hid (at_no x.i x.b x.cap seq _ hs c5)
    have H := Lib.hid h
    clear hz h hk hs c5
    go_enter Try.func42, Try.ntmps42
    go_wp2_with fail
    refine HA.out.mono ?_
    rintro e w' ⟨rfl, rfl⟩
    go_wp2_with fail
    exact bodyPost_ret (v := .tuple #[ctAgg noCt, .bool false]) (by simp [results, Try.results42, go_sem, noCt]) rfl (certP_none (H.out.upd0 ((Upd.refl _ _).alloc _)) HE.out rfl)
  | some k =>
    obtain ⟨hl, hp⟩ := plAt_some (oi_ok hz) hk
    obtain ⟨i1, i2⟩ := idx_lt hk
    have HA := Lib.hid (at_yes x.i x.b x.cap seq _ (by omega) (by omega) c5)
    have hks : seq.toNat - 1 = k := by omega
    rw [hks] at HA
    have cd := oi_done hz k hl
    cases hd : x.l[k].done
    · rw [hd] at cd
      have HE := Lib.hid (show committedI x.st seq = none by simp only [committedI, hp]; simp [Pm.pl, hd])
      have H := Lib.hid h
      clear hz h hk hp i2 hks hd c5
      go_enter Try.func42, Try.ntmps42
      go_wp2_with fail
      refine HA.out.mono ?_
      rintro e w' ⟨rfl, rfl⟩
      go_wp2_with fail
      exact bodyPost_ret (v := .tuple #[ctAgg noCt, .bool false]) (by simp [results, Try.results42, go_sem, noCt]) rfl (certP_none (H.out.upd0 ((Upd.refl _ _).alloc _)) HE.out rfl)
    · rw [hd] at cd
      have HCI := Lib.hid (show committedI x.st seq = some x.l[k].dw.cp by simp only [committedI, hp]; simp [Pm.pl, hd])
      have c9 := oi_at hz k hl 9 (by omega)
      have c10 := oi_at hz k hl 10 (by omega)
      have c11 := oi_at hz k hl 11 (by omega)
      have c12 := oi_at hz k hl 12 (by omega)
      have c13 := oi_at hz k hl 13 (by omega)
      simp only [pmCells, List.getElem?_cons_succ, List.getElem?_cons_zero] at c9 c10 c11 c12 c13
      obtain ⟨-, q1, q2, q3, q4⟩ := oi_cert hz k hl
      have HF := Lib.hid (fresh_ct x.l[k].dw _ q1 q3 q2 q4)
      have HZ := Lib.hid hz
      clear hz h hk hp i2 hks hd c5 q1 q2
      generalize x.l[k].dw = c at *
      go_enter Try.func42, Try.ntmps42
      go_wp2_with fail
      refine HA.out.mono ?_
      rintro e w' ⟨rfl, rfl⟩
      go_wp2_with fail
      refine HF.out.mono ?_
      rintro e w5 ⟨⟨view', inst', seq', vb', vv', rs', vs'⟩, rfl, hcp, hu5, hb5, hv5, nb, nv⟩
      simp only at hb5 hv5 nb nv
      obtain ⟨ao6, cap6, rfl⟩ := bat_form hb5
      obtain ⟨co6, cav6, rfl⟩ := vts_form hv5
      have H5 := Lib.hid ((own_red2 (own_shut HZ.out).swap hu5 hb5 hv5 nb nv).rot)
      have HCP := Lib.hid hcp
      have HB5 := Lib.hid hb5
      have HV5 := Lib.hid hv5
      have NB := Lib.hid nb
      have NV := Lib.hid nv
      clear hcp hu5 hb5 hv5 nb nv HZ HF c9 c10 c11 c12 c13 cd
      obtain ⟨f0, f1, f2, f3, f4, fl, fz⟩ := ct_cells H5.out.blk_out
      have fz0 := fz 0
      have fz1 := fz 1
      have fz2 := fz 2
      have fz3 := fz 3
      have fz4 := fz 4
      clear fz
      go_wp2_with fail
      have H6 := Lib.hid (own_st5 H5.out view' inst' seq' (.slice ao6 rs'.length cap6) (.slice co6 vs'.length cav6))
      have HU6 := Lib.hid (upd_st5 w5 W.heap.size view' inst' seq' (.slice ao6 rs'.length cap6) (.slice co6 vs'.length cav6))
      generalize ((((w5.setCell ⟨W.heap.size, 0, none⟩ (.int .i64 view')).setCell ⟨W.heap.size, 1, none⟩ (.int .i64 inst')).setCell ⟨W.heap.size, 2, none⟩ (.int .i64 seq')).setCell ⟨W.heap.size, 3, none⟩ (.slice ao6 rs'.length cap6)).setCell ⟨W.heap.size, 4, none⟩ (.slice co6 vs'.length cav6) = w6 at *
      clear f0 f1 f2 f3 f4 fl fz0 fz1 fz2 fz3 fz4 H5
      obtain ⟨f0, f1, f2, f3, f4, fl, -⟩ := ct_cells H6.out.blk_out
      refine bodyPost_ret (v := .tuple #[ctAgg ⟨view', inst', seq', .slice ao6 rs'.length cap6, .slice co6 vs'.length cav6, rs', vs'⟩, .bool true]) (by simp [results, Try.results42, go_sem, f0, f1, f2, f3, f4]) rfl ?_
      have hcp := HCP.out
      have e4 : rs' = c.rs := congrArg Cp.rs hcp
      have e5 : vs' = c.vs := congrArg Cp.vs hcp
      have hnew : ∀ (v : Value), (∀ k ∈ blkOf v, (W.alloc zct).heap.size ≤ k) → (∀ k ∈ blkOf v, W.heap.size ≤ k) ∧ ∀ k ∈ blkOf v, k ∉ [W.heap.size] := fun v hv => ⟨fun k hk => by have := hv k hk; simp at this; omega, fun k hk hn => by have := hv k hk; simp at this hn; omega⟩
      refine ⟨⟨view', inst', seq', .slice ao6 rs'.length cap6, .slice co6 vs'.length cav6, rs', vs'⟩, ?_, ?_, ⟨by simp only [e4]; exact q3, by simp only [e5]; exact q4⟩, HB5.out.upd HU6.out (hnew _ NB.out).2, Reads.upd HV5.out HU6.out (hnew _ NV.out).2, (hnew _ NB.out).1, (hnew _ NV.out).1, x, rfl, rfl, H6.out.drop⟩
      · rw [HCI.out]; rfl
      · rw [HCI.out]; exact hcp

theorem ai_committed {i : Nat} {st : In} (h : AtI B w0 W i st ss) (seq : Int) : Calls Try.prog 42 #[.pointer (some ⟨i, 0, none⟩), .int .i64 seq] W fun e w' => ∃ c : Ct, e = .returned (.tuple #[ctAgg c, .bool (committedI st seq).isSome]) ∧ Told W w' (committedI st seq) c ∧ AtI B w0 w' i st ss := by
  obtain ⟨x, h1, rfl, h3⟩ := h
  refine (ins_committed h3 h1 seq).mono ?_
  rintro e w' ⟨c, he, hc, hn, hb, hv, n1, n2, x', e1, e2, e3⟩
  exact ⟨c, he, ⟨hc, hn, hb, hv, n1, n2⟩, x', e1, e2, e3.drop.drop⟩

end
end Go.Proofs.Ytdeadekeffficaa
