/- Parts of the proof, one behind the other. -/
import Derived.Test.YtdeadekeffficaaPlayB2

/- The document's instance: Prepared. -/
namespace Go.Proofs.Ytdeadekeffficaa
open Go.RowKit Go.Heap

def DcertP (B : Nat) (w0 : World) (p : Nat) (r : Option Cp) (st : In) (ss : List Res) (e : Ending) (w' : World) : Prop :=
  ∃ c : Ct, e = .returned (.tuple #[ctAgg c, .bool r.isSome]) ∧ c.cp = r.getD noCp ∧ (c.rs.length ≤ 100000 ∧ c.vs.length ≤ 100000) ∧ Bat w' c.vb c.rs ∧ Vts w' c.vv c.vs ∧ AtD B w0 w' p st ss

section
variable {w : World} {b p o i0 i1 i2 : Nat} {x0 x1 x2 y0 y1 y2 y3 y4 : Value} {ob : Obj}
theorem k3_alloc (h : p < w.heap.size) (k : w.cell? ⟨p, i0, none⟩ = some x0 ∧ w.cell? ⟨p, i1, none⟩ = some x1 ∧ w.cell? ⟨p, i2, none⟩ = some x2) : (w.alloc ob).cell? ⟨p, i0, none⟩ = some x0 ∧ (w.alloc ob).cell? ⟨p, i1, none⟩ = some x1 ∧ (w.alloc ob).cell? ⟨p, i2, none⟩ = some x2 := by
  have e : ∀ i, (w.alloc ob).cell? ⟨p, i, none⟩ = w.cell? ⟨p, i, none⟩ := fun i => World.cell?_of_block (heap_alloc_lt h)
  simp only [e]
  exact k
theorem k3_alloc' (h : p < w.heap.size) (k : w.cell? ⟨p, i0, none⟩ = some x0 ∧ w.cell? ⟨p, i1, none⟩ = some x1 ∧ w.cell? ⟨p, i2, none⟩ = some x2) : (w.alloc ob).drew.cell? ⟨p, i0, none⟩ = some x0 ∧ (w.alloc ob).drew.cell? ⟨p, i1, none⟩ = some x1 ∧ (w.alloc ob).drew.cell? ⟨p, i2, none⟩ = some x2 := k3_alloc (w := w) h k
theorem k3_sets (h : p ≠ b) (k : w.cell? ⟨p, i0, none⟩ = some x0 ∧ w.cell? ⟨p, i1, none⟩ = some x1 ∧ w.cell? ⟨p, i2, none⟩ = some x2) :
    (((((w.setCell ⟨b, 0, none⟩ y0).setCell ⟨b, 1, none⟩ y1).setCell ⟨b, 2, none⟩ y2).setCell ⟨b, 3, none⟩ y3).setCell ⟨b, 4, none⟩ y4).cell? ⟨p, i0, none⟩ = some x0 ∧ (((((w.setCell ⟨b, 0, none⟩ y0).setCell ⟨b, 1, none⟩ y1).setCell ⟨b, 2, none⟩ y2).setCell ⟨b, 3, none⟩ y3).setCell ⟨b, 4, none⟩ y4).cell? ⟨p, i1, none⟩ = some x1 ∧
    (((((w.setCell ⟨b, 0, none⟩ y0).setCell ⟨b, 1, none⟩ y1).setCell ⟨b, 2, none⟩ y2).setCell ⟨b, 3, none⟩ y3).setCell ⟨b, 4, none⟩ y4).cell? ⟨p, i2, none⟩ = some x2 := by
  have e : ∀ i, (((((w.setCell ⟨b, 0, none⟩ y0).setCell ⟨b, 1, none⟩ y1).setCell ⟨b, 2, none⟩ y2).setCell ⟨b, 3, none⟩ y3).setCell ⟨b, 4, none⟩ y4).cell? ⟨p, i, none⟩ = w.cell? ⟨p, i, none⟩ := fun i => World.cell?_of_block (by rw [hp_other h, hp_other h, hp_other h, hp_other h, hp_other h])
  simp only [e]
  exact k
end

section
variable {B : Nat} {w0 w W W' : World} {ss rs : List Res} {p : Nat} {st : In} {h h' : Nat → Value} {m m' : Nat → Nat → Value} {D D' : List Nat} {A : List Nat}

theorem dcertP_none (h : AtD B w0 W p st ss) {r : Option Cp} (hr : r = none) {st' : In} (hs : st' = st) : DcertP B w0 p r st' ss (.returned (.tuple #[ctAgg noCt, .bool false])) W := by
  subst hr hs
  exact ⟨noCt, rfl, rfl, ⟨by simp [noCt], by simp [noCt]⟩, Reads.nil _ _, Reads.nil _ _, h⟩

theorem msz {k : Nat} {r1 r2 r3 : Res} (hn : k ∈ Ms (r1 :: r2 :: r3 :: rs)) : k ∈ Ms (r1 :: r2 :: r3 :: rs) := hn

theorem own_drop3 {r1 r2 r3 r4 r5 : Res} (hw : Own B w0 W (r1 :: r2 :: r3 :: r4 :: r5 :: rs)) : Own B w0 W (r1 :: r2 :: rs) := (hw.perm ((List.perm_append_comm (l₁ := [r1, r2]) (l₂ := [r3, r4, r5])).append_right rs)).drop.drop.drop

theorem own_dup {r : Res} (hM : r.M = []) (h : Own B w0 W (r :: rs)) : Own B w0 W (r :: r :: rs) := h.new (Upd.refl [] _) h.head (by rw [hM]; simp)

theorem own_dup2 {r1 r2 : Res} {v u : Value} {l : List Rq} {vs : Vs} (hw : Own B w0 W (r1 :: r2 :: batR v l :: votR u vs :: rs)) : Own B w0 W (r1 :: r2 :: batR v l :: votR u vs :: batR v l :: votR u vs :: rs) := by
  have h1 : Own B w0 W (batR v l :: votR u vs :: r1 :: r2 :: rs) := hw.perm ((List.perm_append_comm (l₁ := [r1, r2]) (l₂ := [batR v l, votR u vs])).append_right rs)
  have h2 : Own B w0 W (votR u vs :: batR v l :: batR v l :: r1 :: r2 :: rs) := (own_dup rfl h1).rot
  have h3 : Own B w0 W (batR v l :: votR u vs :: votR u vs :: batR v l :: r1 :: r2 :: rs) := (own_dup rfl h2).rot
  have h4 : Own B w0 W (batR v l :: votR u vs :: batR v l :: votR u vs :: r1 :: r2 :: rs) := h3.perm (((List.Perm.swap _ _ _).cons _).cons _)
  exact h4.perm ((List.perm_append_comm (l₁ := [batR v l, votR u vs, batR v l, votR u vs]) (l₂ := [r1, r2])).append_right rs)

/-- A place's batch, as a resource of its own. -/
theorem own_batof (hw : Own B w0 W (docB p h m :: docI h m st :: ss)) (k : Nat) (hk : k < st.l.length) : Own B w0 W (batR (m (k + 1) 1) (chosenS st.l[k].sl) :: docB p h m :: docI h m st :: ss) := by
  obtain ⟨D, ⟨h1, h2⟩, h3, h4⟩ := (hw.all (docI h m st) (by simp)).1
  exact hw.new (Upd.refl [] _) ⟨D, ⟨(h1.pl k hk).dc.b, h2⟩, h3, h4⟩ (by simp [batR, imm])

set_option maxHeartbeats 4000000 in
set_option maxRecDepth 100000 in
theorem ad_prepared (hw : AtD B w0 W p st ss) (seq : Int) :
    Calls Try.prog 72 #[.pointer (some ⟨p, 0, none⟩), .int .i64 seq] W (DcertP B w0 p (prepI st seq) (preparedI st seq) ss) := by
  have hz := ad_box hw zct
  obtain ⟨h, m, D, h3, hd⟩ := ad_docI hz
  have hb := h3.head
  obtain ⟨c0, c1, -, c3, c4, hlt, fz⟩ := db_head hb hd
  have HW := Lib.hid (ad_drop hz)
  have hf1 := hd.f1
  have hf2 := hd.f2
  cases hon : st.on with
  | false =>
    rw [hon] at c4
    have HE := Lib.hid (show prepI st seq = none by unfold prepI; cases plAt st seq <;> simp [hon])
    clear hw hz h3 hd hb hon fz c0 c1 c3
    go_enter Try.func72, Try.ntmps72
    go_wp2_with fail
    exact bodyPost_ret (v := .tuple #[ctAgg noCt, .bool false]) (by simp [results, Try.results72, go_sem, noCt]) rfl (dcertP_none HW.out HE.out (prep_off HE.out))
  | true =>
    rw [hon] at c4
    cases hk : idx seq with
    | none =>
      have HE := Lib.hid (show prepI st seq = none by simp only [prepI, plAt_none hk])
      have HRG := Lib.hid (fun w => drange_any seq w)
      rw [hk] at HRG
      clear hw hz h3 hd hb hon fz c0 c1 c3 hk
      go_enter Try.func72, Try.ntmps72
      go_wp2_with fail
      refine (HRG.out _).mono ?_
      rintro e w' ⟨rfl, rfl⟩
      go_wp2_with fail
      exact bodyPost_ret (v := .tuple #[ctAgg noCt, .bool false]) (by simp [results, Try.results72, go_sem, noCt]) rfl (dcertP_none HW.out HE.out (prep_off HE.out))
    | some k =>
      obtain ⟨hkl, hp, hseq⟩ := pl_of hd.n hk
      have HRG := Lib.hid (fun w => drange_any seq w)
      rw [hk] at HRG
      have hk16 : k < 16 := (idx_lt hk).1
      obtain ⟨s0, s1, s2, s3⟩ := db_slot hb hd (k + 1) k rfl hkl
      obtain ⟨s4, s15, -⟩ := db_more hb hd (k + 1) k rfl hkl
      obtain ⟨s5, s6, s7, s8, s9⟩ := db_ctc hb (k + 1) (by omega)
      have HCI := Lib.hid (show prepI st seq = if !st.l[k].told then (preparedS st.f st.l[k].sl).map fun vs => ⟨st.view, st.num, seq, st.l[k].sl.batch, vs⟩ else none by simp only [prepI, hp]; simp [hon])
      cases htd : st.l[k].told with
      | true =>
        rw [htd] at s4 HCI
        have HE := Lib.hid (show prepI st seq = none by rw [HCI.out]; rfl)
        generalize hnn : k + 1 = n at *
        have hn0 : (0 : Int) ≤ (n : Int) := by omega
        have hn17 : (n : Int) < 17 := by omega
        clear hw hz h3 hd hb hon fz c0 c1 c3 hk hp htd HCI s5 s6 s7 s8 s9 s2 s3 s1
        subst hseq
        go_enter Try.func72, Try.ntmps72
        go_wp2_with fail
        refine (HRG.out _).mono ?_
        rintro e w' ⟨rfl, rfl⟩
        go_wp2_with fail
        exact bodyPost_ret (v := .tuple #[ctAgg noCt, .bool false]) (by simp [results, Try.results72, go_sem, noCt]) rfl (dcertP_none HW.out HE.out (prep_off HE.out))
      | false =>
        rw [htd] at s4 HCI
        cases hh : st.l[k].sl.has with
        | false =>
          rw [hh] at s0
          have HE := Lib.hid (show prepI st seq = none by rw [HCI.out]; simp [preparedS, hh])
          generalize hnn : k + 1 = n at *
          have hn0 : (0 : Int) ≤ (n : Int) := by omega
          have hn17 : (n : Int) < 17 := by omega
          clear hw hz h3 hd hb hon fz c0 c1 c3 hk hp htd HCI s5 s6 s7 s8 s9 s2 s3 s1 hh
          subst hseq
          go_enter Try.func72, Try.ntmps72
          go_wp2_with fail
          refine (HRG.out _).mono ?_
          rintro e w' ⟨rfl, rfl⟩
          go_wp2_with fail
          exact bodyPost_ret (v := .tuple #[ctAgg noCt, .bool false]) (by simp [results, Try.results72, go_sem, noCt]) rfl (dcertP_none HW.out HE.out (prep_off HE.out))
        | true =>
          rw [hh] at s0
          have hch : chosenS st.l[k].sl = st.l[k].sl.batch := by unfold chosenS; rw [if_pos hh]
          have hbl : st.l[k].sl.batch.length ≤ 100000 := by have := (hd.pl k hkl).n; rwa [hch] at this
          have hbi := own_batof h3 k hkl
          rw [hch] at hbi
          obtain ⟨pl, hrv, hmap⟩ := (hd.pl k hkl).dc.p
          have hfor := fun w' (hu : Upd [] (W.alloc zct) w') => for_any (m (k + 1) 2) (m (k + 1) 1) pl st.l[k].sl.batch (2 * st.f + 1) w' (by omega) (hrv.rvs.upd0 hu) ((batR_out hbi.head).upd (M := []) hu (by simp)) hbl
          rw [for_refs hmap] at hfor
          have HPS : Hid (preparedS st.f st.l[k].sl = enoughS st.l[k].sl.ps st.l[k].sl.batch (2 * st.f + 1)) := Lib.hid (by unfold preparedS; rw [if_pos hh])
          rw [HPS.out] at HCI
          obtain ⟨a2, n2, q2, hm2⟩ := rvs_form hrv.rvs
          obtain ⟨a1, q1, hm1⟩ := bat_form (batR_out hbi.head)
          have HM1 := Lib.hid hm1
          have HM2 := Lib.hid hm2
          rw [hm2] at s2
          rw [hm1] at s1
          rw [hm1, hm2] at hfor
          have HFOR := Lib.hid hfor
          have HCT := Lib.hid (fun (c : Ct) W' ss' (hw' : Own B w0 W' (docB p h m :: docI h m st :: batR c.vb c.rs :: votR c.vv c.vs :: ss')) (n1 : c.rs.length ≤ 100000) (n2 : c.vs.length ≤ 100000) => own_docct hw' n1 n2 (k + 1) k rfl hkl (by omega))
          have HPI := Lib.hid (fun c (hc : prepI st seq = some c) => show preparedI st seq = st.upd k fun p => { p with told := true, has := true, ct := c } by simp only [preparedI, hk, hc])
          rw [hm1] at hbi
          have HBI := Lib.hid hbi
          have HBI0 := Lib.hid hbi.drew
          generalize hnn : k + 1 = n at *
          have hn0 : (0 : Int) ≤ (n : Int) := by omega
          have hn17 : (n : Int) < 17 := by omega
          clear hw hz h3 hd hb hon fz hk hp htd hh hch hrv hmap hm1 hm2 hfor hbi
          subst hseq
          go_enter Try.func72, Try.ntmps72
          go_wp2_with fail
          refine (HRG.out _).mono ?_
          rintro e w' ⟨rfl, rfl⟩
          go_wp2_with fail
          have d0 : (W.alloc zct).drew.cell? ⟨p, 0, none⟩ = some (.int .i64 st.f) := c0
          have d1 : (W.alloc zct).drew.cell? ⟨p, 5 + n * 4 + 1, none⟩ = some (.slice a1 st.l[k].sl.batch.length q1) := s1
          have d2 : (W.alloc zct).drew.cell? ⟨p, 5 + n * 4 + 2, none⟩ = some (.slice a2 n2 q2) := s2
          go_region_held3 (fun w' => w'.cell? ⟨p, 0, none⟩ = some (.int .i64 st.f) ∧ w'.cell? ⟨p, 5 + n * 4 + 1, none⟩ = some (.slice a1 st.l[k].sl.batch.length q1) ∧ w'.cell? ⟨p, 5 + n * 4 + 2, none⟩ = some (.slice a2 n2 q2))
            (first | (with_reducible exact ⟨d0, d1, d2⟩) | (with_reducible exact ⟨e0, e1, e2⟩))
            (first
              | (go_at_call 27; refine (rquorum_any st.f _ (by omega) (by omega)).mono ?_; rintro e w' ⟨rfl, rfl⟩)
              | (go_at_call 62; refine (HFOR.out _ (Upd.refl _ _).drew).mono ?_; rintro e w2 ⟨u, rfl, hbl2, hv2, hn2⟩; have e0 := (upd_cell0 (Upd.of_below hbl2) hlt).trans d0; have e1 := (upd_cell0 (Upd.of_below hbl2) hlt).trans d1; have e2 := (upd_cell0 (Upd.of_below hbl2) hlt).trans d2; have HU2 := Lib.hid (Upd.of_below (M := []) hbl2); have HV2 := Lib.hid hv2; have HN2 := Lib.hid hn2; clear hbl2 hv2 hn2))
          have H2 := Lib.hid ((HBI.out.drew.upd0 HU2.out))
          clear HW HBI s3 s15 s5 s6 s7 s8 s9
          cases hen : enoughS st.l[k].sl.ps st.l[k].sl.batch (2 * st.f + 1) with
          | none =>
            rw [hen] at HV2 HCI
            have HE := Lib.hid (show prepI st n = none by rw [HCI.out]; rfl)
            obtain ⟨co, cav, rfl⟩ := vts_form HV2.out
            have H3 := Lib.hid H2.out.drop.rot
            have hbx := H3.out.blk_out
            obtain ⟨f0, f1, f2, f3, f4, fl, fz⟩ := ct_cells hbx
            have fz0 := fz 0
            have fz1 := fz 1
            have fz2 := fz 2
            have fz3 := fz 3
            have fz4 := fz 4
            clear hbx fz hen e0 e1 e2 d0 d1 d2 c0 c1 c3 c4 HCT HPI HCI HPS s0 s1 s2 s4 H2
            go_wp2_with fail
            have H4 := Lib.hid (own_st5 H3.out 0 0 0 (.slice none 0 0) (.slice none 0 0))
            generalize ((((w2.setCell ⟨W.heap.size, 0, none⟩ (.int .i64 0)).setCell ⟨W.heap.size, 1, none⟩ (.int .i64 0)).setCell ⟨W.heap.size, 2, none⟩ (.int .i64 0)).setCell ⟨W.heap.size, 3, none⟩ (.slice none 0 0)).setCell ⟨W.heap.size, 4, none⟩ (.slice none 0 0) = w4 at *
            clear f0 f1 f2 f3 f4 fl fz0 fz1 fz2 fz3 fz4
            obtain ⟨f0, f1, f2, f3, f4, fl, -⟩ := ct_cells H4.out.blk_out
            exact bodyPost_ret (v := .tuple #[ctAgg noCt, .bool false]) (by simp [results, Try.results72, go_sem, noCt, f0, f1, f2, f3, f4]) rfl (dcertP_none ⟨h, m, H4.out.drop⟩ HE.out (prep_off HE.out))
          | some vs =>
            rw [hen] at HV2 HCI
            have hvl : vs.length ≤ 100000 := by have := en_votes hen; omega
            have HE := Lib.hid (show prepI st n = some ⟨st.view, st.num, n, st.l[k].sl.batch, vs⟩ by rw [HCI.out]; rfl)
            obtain ⟨co, cav, rfl⟩ := vts_form HV2.out
            have hv2 : Vts w2 (.slice co vs.length cav) vs := HV2.out
            have H3 : Hid (Own B w0 w2 (docB p h m :: docI h m st :: batR (.slice a1 st.l[k].sl.batch.length q1) st.l[k].sl.batch :: votR (.slice co vs.length cav) vs :: blk W.heap.size zct :: ss)) := Lib.hid ((H2.out.red hv2 (fun k hk hn => HBI0.out.fresh (HN2.out k (blkIf_sub hk)) (msz hn))).perm (by
              refine List.Perm.trans (List.perm_middle (l₁ := [_, _, _])).symm ?_
              exact (List.perm_middle (l₁ := [_, _])).symm))
            have y0 := (upd_cell0 HU2.out hlt).trans (show (W.alloc zct).drew.cell? ⟨p, 3, none⟩ = some (.int .i64 st.view) from c3)
            have y1 := (upd_cell0 HU2.out hlt).trans (show (W.alloc zct).drew.cell? ⟨p, 1, none⟩ = some (.int .i64 st.num) from c1)
            clear hen e0 e2 d0 d1 d2 c0 c1 c3 c4 HCI HPS s0 s1 s2 s4 H2 HV2
            go_wp2_with fail
            have e0 : w2.drew.cell? ⟨p, 3, none⟩ = some (.int .i64 st.view) := y0
            have e2 : w2.drew.cell? ⟨p, 1, none⟩ = some (.int .i64 st.num) := y1
            have e3 : w2.drew.cell? ⟨p, 5 + n * 4 + 1, none⟩ = some (.slice a1 st.l[k].sl.batch.length q1) := e1
            have hlt2 : p < w2.heap.size := Nat.lt_of_lt_of_le hlt HU2.out.size
            have hne2 : p ≠ w2.heap.size := by omega
            go_region_held3 (fun w' => w'.cell? ⟨p, 3, none⟩ = some (.int .i64 st.view) ∧ w'.cell? ⟨p, 1, none⟩ = some (.int .i64 st.num) ∧ w'.cell? ⟨p, 5 + n * 4 + 1, none⟩ = some (.slice a1 st.l[k].sl.batch.length q1))
              (first | (with_reducible exact ⟨e0, e2, e3⟩) | (with_reducible exact k3_alloc' hlt2 ⟨y0, y1, e1⟩) | (with_reducible exact k3_sets hne2 (k3_alloc' hlt2 ⟨y0, y1, e1⟩)))
              (fail)
            have h4 := (H3.out.box (ctO st.view st.num n (.slice a1 st.l[k].sl.batch.length q1) (.slice co vs.length cav))).drew
            have H4 : Hid (Own B w0 _ (docB p h m :: docI h m st :: batR (.slice a1 st.l[k].sl.batch.length q1) st.l[k].sl.batch :: votR (.slice co vs.length cav) vs :: blk w2.heap.size (ctO st.view st.num n (.slice a1 st.l[k].sl.batch.length q1) (.slice co vs.length cav)) :: blk W.heap.size zct :: ss)) := Lib.hid (h4.perm (List.perm_middle (l₁ := [_, _, _, _])).symm)
            clear h4 e0 e2 e3 y0 y1 e1 H3 hlt2
            have hltb : W.heap.size ≠ w2.heap.size := by
              have h1 := HU2.out.size
              rw [hs_drew, hs_alloc] at h1
              omega
            generalize (w2.alloc (ctO st.view st.num n (.slice a1 st.l[k].sl.batch.length q1) (.slice co vs.length cav))).drew = w4 at *
            generalize w2.heap.size = b8 at *
            have h4 := H4.out
            have s4 : w4.cell? ⟨p, 73 + n, none⟩ = some (m n 4) := db_cell h4.head n 4 (by omega) (by omega)
            have s5 : w4.cell? ⟨p, 90 + n * 5, none⟩ = some (m n 5) := db_cell h4.head n 5 (by omega) (by omega)
            have s6 : w4.cell? ⟨p, 90 + n * 5 + 1, none⟩ = some (m n 6) := db_cell h4.head n 6 (by omega) (by omega)
            have s7 : w4.cell? ⟨p, 90 + n * 5 + 2, none⟩ = some (m n 7) := db_cell h4.head n 7 (by omega) (by omega)
            have s8 : w4.cell? ⟨p, 90 + n * 5 + 3, none⟩ = some (m n 8) := db_cell h4.head n 8 (by omega) (by omega)
            have s9 : w4.cell? ⟨p, 90 + n * 5 + 4, none⟩ = some (m n 9) := db_cell h4.head n 9 (by omega) (by omega)
            have s15 : w4.cell? ⟨p, 260 + n, none⟩ = some (m n 15) := db_cell h4.head n 15 (by omega) (by omega)
            obtain ⟨hlt4, -, -, fzp⟩ := docB_at h4.head
            have z4 := fzp (73 + n)
            have z5 := fzp (90 + n * 5)
            have z6 := fzp (90 + n * 5 + 1)
            have z7 := fzp (90 + n * 5 + 2)
            have z8 := fzp (90 + n * 5 + 3)
            have z9 := fzp (90 + n * 5 + 4)
            have z15 := fzp (260 + n)
            obtain ⟨g0, g1, g2, g3, g4, gl, -⟩ := ct_cells h4.drop.drop.drop.drop.blk_out
            have hne8 : b8 ≠ p := fun e => hne2 e.symm
            clear h4 fzp
            go_wp2_with fail
            refine Mix.wp_text2 (by kernel_rfl) (by kernel_rfl) ?_
            go_wp2_with fail
            refine ⟨by rfl, ?_⟩
            have h5 : AtD B w0 _ p (st.upd k fun p => { p with told := true, has := true, ct := ⟨st.view, st.num, n, st.l[k].sl.batch, vs⟩ }) (batR (.slice a1 st.l[k].sl.batch.length q1) st.l[k].sl.batch :: votR (.slice co vs.length cav) vs :: blk b8 (ctO st.view st.num n (.slice a1 st.l[k].sl.batch.length q1) (.slice co vs.length cav)) :: blk W.heap.size zct :: ss) := (HCT.out ⟨st.view, st.num, n, .slice a1 st.l[k].sl.batch.length q1, .slice co vs.length cav, st.l[k].sl.batch, vs⟩ w4 _ (own_dup2 H4.out) hbl hvl).drew
            rw [← HPI.out _ HE.out] at h5
            have H5 := Lib.hid h5
            clear h5 g0 g1 g2 g3 g4 s4 s5 s6 s7 s8 s9 s15 z4 z5 z6 z7 z8 z9 z15 H4 hne2 hne8 hlt4 HCT
            generalize (((((((w4.setCell ⟨p, 73 + n, none⟩ (.bool true)).setCell ⟨p, 90 + n * 5, none⟩ (.int .i64 st.view)).setCell ⟨p, 90 + n * 5 + 1, none⟩ (.int .i64 st.num)).setCell ⟨p, 90 + n * 5 + 2, none⟩ (.int .i64 n)).setCell ⟨p, 90 + n * 5 + 3, none⟩ (.slice a1 st.l[k].sl.batch.length q1)).setCell ⟨p, 90 + n * 5 + 4, none⟩ (.slice co vs.length cav)).setCell ⟨p, 260 + n, none⟩ (.bool true)).drew = w5 at *
            obtain ⟨h9, m9, h6⟩ := H5.out
            have H6 : Hid (Own B w0 w5 (blk W.heap.size zct :: docB p h9 m9 :: docI h9 m9 (preparedI st n) :: batR (.slice a1 st.l[k].sl.batch.length q1) st.l[k].sl.batch :: votR (.slice co vs.length cav) vs :: blk b8 (ctO st.view st.num n (.slice a1 st.l[k].sl.batch.length q1) (.slice co vs.length cav)) :: ss)) := Lib.hid (h6.perm (List.perm_middle (l₁ := [_, _, _, _, _])))
            obtain ⟨f0, f1, f2, f3, f4, fl, fz⟩ := ct_cells H6.out.blk_out
            obtain ⟨g0, g1, g2, g3, g4, gl, -⟩ := ct_cells h6.drop.drop.drop.drop.blk_out
            have fz0 := fz 0
            have fz1 := fz 1
            have fz2 := fz 2
            have fz3 := fz 3
            have fz4 := fz 4
            clear h6 fz H5
            go_wp2_with fail
            have H7 := Lib.hid (own_st5 H6.out st.view st.num n (.slice a1 st.l[k].sl.batch.length q1) (.slice co vs.length cav))
            generalize ((((w5.setCell ⟨W.heap.size, 0, none⟩ (.int .i64 st.view)).setCell ⟨W.heap.size, 1, none⟩ (.int .i64 st.num)).setCell ⟨W.heap.size, 2, none⟩ (.int .i64 n)).setCell ⟨W.heap.size, 3, none⟩ (.slice a1 st.l[k].sl.batch.length q1)).setCell ⟨W.heap.size, 4, none⟩ (.slice co vs.length cav) = w7 at *
            clear f0 f1 f2 f3 f4 fl fz0 fz1 fz2 fz3 fz4 g0 g1 g2 g3 g4 gl H6
            obtain ⟨f0, f1, f2, f3, f4, fl, -⟩ := ct_cells H7.out.blk_out
            refine bodyPost_ret (v := .tuple #[ctAgg ⟨st.view, st.num, n, .slice a1 st.l[k].sl.batch.length q1, .slice co vs.length cav, st.l[k].sl.batch, vs⟩, .bool true]) (by simp [results, Try.results72, go_sem, f0, f1, f2, f3, f4]) rfl ?_
            have h8 := H7.out.drop
            refine ⟨⟨st.view, st.num, n, .slice a1 st.l[k].sl.batch.length q1, .slice co vs.length cav, st.l[k].sl.batch, vs⟩, by rw [HE.out]; rfl, by rw [HE.out]; rfl, ⟨hbl, hvl⟩, batR_out h8.drop.drop.head, redR_out h8.drop.drop.drop.head, h9, m9, ?_⟩
            exact own_drop3 h8

end
end Go.Proofs.Ytdeadekeffficaa

/- The document's instance: Commits. -/
namespace Go.Proofs.Ytdeadekeffficaa
open Go.RowKit Go.Heap

def RcommAt (w : World) (l : List Rv) (r : Option (List Rq × Vs)) (e : Ending) (w' : World) : Prop :=
  ∃ v u, e = .returned (.tuple #[v, u, .bool r.isSome]) ∧ Below w.heap.size w w' ∧ Bat w' v (batchOf r) ∧ Vts w' u (votesOf r) ∧ (∀ k ∈ blkOf u, w.heap.size ≤ k) ∧ (r = none ∨ ∃ x ∈ l, v = x.b ∧ batchOf r = x.rs)

set_option maxHeartbeats 1000000 in
set_option maxRecDepth 100000 in
theorem rcomm_at (s so : Nat) (v : Value) (l : List Rv) (q : Nat) (w : World) (hq : q ≤ 100) (hs : s < w.heap.size) (hc : w.cell? ⟨s, so + 3, none⟩ = some v) (hv : RVs w v l) :
    Calls Try.prog 63 #[.pointer (some ⟨s, so, none⟩), .int .i64 q] w (RcommAt w l (rcommL l q l)) := by
  obtain ⟨ao, cap, rfl, hl1, hl2, -⟩ := hv.1
  have hmx : l.length ≤ 9223372036854775807 := by unfold maxLen at hl2; omega
  clear hl1 hl2
  have HV := Lib.hid hv
  clear hv
  go_enter Try.func63, Try.ntmps63
  go_wp2_with fail
  go_loopw [7] (fun i wr => ∃ k : Nat, k ≤ l.length ∧ i = .int .i64 k ∧ Below w.heap.size w wr ∧ Hid (rcommL l q l = rcommL l q (l.drop k))) (fun i _ => l.length - (intOf i).toNat)
  case atStart => exact ⟨0, by omega, rfl, Below.refl _ _, by rfl⟩
  case round =>
    obtain ⟨k, hk, rfl, hbel, hcom⟩ := hrel
    have hz := hbel.size
    have k3 := (hbel.cell (p := ⟨s, so + 3, none⟩) hs).trans hc
    by_cases hlt : k < l.length
    · have hkI : (k : Int) < (l.length : Int) := by omega
      have hvr := HV.out.upd0 (Upd.of_below hbel)
      obtain ⟨-, b, o, rfl, hbs, c0, c1, c2, hbat, hlk⟩ := hvr.at k hlt
      have hdrop := Lib.hid (List.drop_eq_getElem_cons hlt)
      have hsr : s < wr.heap.size := Nat.lt_of_lt_of_le hs hz
      have HBAT := Lib.hid hbat
      have hen := for_any (.slice (some ⟨b, o, none⟩) l.length cap) l[k].b l l[k].rs q wr.drew hq (hvr.upd0 (Upd.refl _ _).drew) (hbat.upd (M := []) (Upd.refl _ _).drew (by simp)) hlk
      simp only [hs_drew] at hen
      clear hvr c0 c1 hbat
      go_wp2_with fail
      refine Mix.wp_text2 (by kernel_rfl) (by kernel_rfl) ?_
      go_wp2_with fail
      cases hr : forS l l[k].rs q with
      | none =>
        rw [hr] at hen
        have HR := Lib.hid hr
        clear hr
        refine hen.mono ?_
        clear hen
        rintro e w2 ⟨u, rfl, hb1, -, -⟩
        go_wp2_with fail
        refine ⟨by rfl, ?_⟩
        go_wp2_with fail
        go_roundw
        case rel =>
          refine ⟨k + 1, by omega, by go_num, hbel.drew.trans (hb1.mono hz), ?_⟩
          have h1 := hcom.out
          rw [hdrop.out] at h1
          show rcommL l q l = _
          rw [h1, rcommL, HR.out]
        case measure => simp [intOf]; omega
      | some vs =>
        rw [hr] at hen
        have HR := Lib.hid hr
        clear hr
        refine hen.mono ?_
        clear hen
        rintro e w2 ⟨u, rfl, hb1, hvv, hnu⟩
        have HV2 := Lib.hid hvv
        have HU2 := Lib.hid hnu
        clear hvv hnu
        have x3 : w2.cell? ⟨s, so + 3, none⟩ = some (.slice (some ⟨b, o, none⟩) l.length cap) := (hb1.cell (p := ⟨s, so + 3, none⟩) hsr).trans k3
        have x2 : w2.cell? ⟨b, o + k * 3 + 2, none⟩ = some l[k].b := (hb1.cell (p := ⟨b, o + k * 3 + 2, none⟩) hbs).trans c2
        go_wp2_with fail
        refine ⟨by rfl, ?_⟩
        go_wp2_with fail
        go_ret3
        have hcs : rcommL l q l = some (l[k].rs, vs) := by rw [hcom.out, hdrop.out, rcommL, HR.out]
        refine ⟨l[k].b, u, by rw [hcs]; rfl, hbel.drew.trans (hb1.mono hz), ?_, ?_, fun k hk => Nat.le_trans hz (HU2.out k hk), .inr ⟨l[k], by simp, rfl, by rw [hcs]; rfl⟩⟩
        · rw [hcs]; exact (HBAT.out.upd (M := []) (Upd.refl _ _).drew (by simp)).upd (M := []) (Upd.of_below (w := wr.drew) hb1) (by simp)
        · rw [hcs]; exact HV2.out
    · have hkl : k = l.length := by omega
      subst hkl
      have hkI : ¬ (l.length : Int) < (l.length : Int) := by omega
      go_wp2_with fail
      go_ret3
      have hcs : rcommL l q l = none := by rw [hcom.out, List.drop_length]; rfl
      refine ⟨.slice none 0 0, .slice none 0 0, by rw [hcs]; rfl, hbel, ?_, ?_, by simp [blkOf], .inl hcs⟩
      · rw [hcs]; exact Reads.nil _ _
      · rw [hcs]; exact Reads.nil _ _


section
variable {B : Nat} {w0 w W W' : World} {ss rs : List Res} {p : Nat} {st : In} {h h' : Nat → Value} {m m' : Nat → Nat → Value} {D D' : List Nat} {A : List Nat}

theorem own_cs (hw : Own B w0 W (docB p h m :: docI h m st :: ss)) (k : Nat) (hk : k < st.l.length) : ∃ cl, RVs W (m (k + 1) 3) cl ∧ cl.map rvOf = refs st.l[k].sl.cs 0 ∧ ∀ x ∈ cl, x.rs.length ≤ 100000 ∧ Own B w0 W (batR x.b x.rs :: docB p h m :: docI h m st :: ss) := by
  obtain ⟨D, ⟨h1, h2⟩, h3, h4⟩ := (hw.all (docI h m st) (by simp)).1
  obtain ⟨cl, c1, c2⟩ := (h1.pl k hk).dc.c
  exact ⟨cl, c1.rvs, c2, fun x hx => ⟨(c1.2 x hx).2, hw.new (Upd.refl [] _) ⟨D, ⟨(c1.2 x hx).1, h2⟩, h3, h4⟩ (by simp [batR, imm])⟩⟩

theorem comm_empty (f : Nat) : committedS f (emptySl f) = none := by
  have : ∀ (all : List Vt) (q n : Nat), committedL all q (List.replicate n noVt) = none := by
    intro all q n
    induction n with
    | zero => rfl
    | succ n ih => rw [List.replicate_succ, committedL]; simpa [noVt] using ih
  exact this _ _ _

set_option maxHeartbeats 4000000 in
set_option maxRecDepth 100000 in
theorem ad_commits (hw : AtD B w0 W p st ss) (seq : Int) :
    Calls Try.prog 73 #[.pointer (some ⟨p, 0, none⟩), .int .i64 seq] W (DcertP B w0 p (commI st seq) (commitsI st seq) ss) := by
  have hz := ad_box hw zct
  obtain ⟨h, m, D, h3, hd⟩ := ad_docI hz
  have hb := h3.head
  obtain ⟨c0, c1, -, c3, c4, hlt, fz⟩ := db_head hb hd
  have HW := Lib.hid (ad_drop hz)
  have hf1 := hd.f1
  have hf2 := hd.f2
  cases hon : st.on with
  | false =>
    rw [hon] at c4
    have HE := Lib.hid (show commI st seq = none by
      unfold commI plAt
      cases hi : idx seq with
      | none => rfl
      | some k =>
        have hk : k < st.l.length := by have := (idx_lt hi).1; rw [hd.n]; exact this
        simp only [Option.bind_some, List.getElem?_eq_getElem hk]
        split
        · rfl
        · rw [hd.off hon _ (List.getElem_mem hk), comm_empty]; rfl)
    clear hw hz h3 hd hb hon fz c0 c1 c3
    go_enter Try.func73, Try.ntmps73
    go_wp2_with fail
    exact bodyPost_ret (v := .tuple #[ctAgg noCt, .bool false]) (by simp [results, Try.results73, go_sem, noCt]) rfl (dcertP_none HW.out HE.out (comm_off HE.out))
  | true =>
    rw [hon] at c4
    cases hk : idx seq with
    | none =>
      have HE := Lib.hid (show commI st seq = none by simp only [commI, plAt_none hk])
      have HRG := Lib.hid (fun w => drange_any seq w)
      rw [hk] at HRG
      clear hw hz h3 hd hb hon fz c0 c1 c3 hk
      go_enter Try.func73, Try.ntmps73
      go_wp2_with fail
      refine (HRG.out _).mono ?_
      rintro e w' ⟨rfl, rfl⟩
      go_wp2_with fail
      exact bodyPost_ret (v := .tuple #[ctAgg noCt, .bool false]) (by simp [results, Try.results73, go_sem, noCt]) rfl (dcertP_none HW.out HE.out (comm_off HE.out))
    | some k =>
      obtain ⟨hkl, hp, hseq⟩ := pl_of hd.n hk
      have HRG := Lib.hid (fun w => drange_any seq w)
      rw [hk] at HRG
      have hk16 : k < 16 := (idx_lt hk).1
      obtain ⟨-, -, -, s3⟩ := db_slot hb hd (k + 1) k rfl hkl
      obtain ⟨-, -, s16⟩ := db_more hb hd (k + 1) k rfl hkl
      have HCI := Lib.hid (show commI st seq = if st.l[k].done then none else (committedS st.f st.l[k].sl).map fun r => ⟨st.view, st.num, seq, r.1, r.2⟩ by simp only [commI, hp])
      cases htd : st.l[k].done with
      | true =>
        rw [htd] at s16 HCI
        have HE := Lib.hid (show commI st seq = none by rw [HCI.out]; rfl)
        generalize hnn : k + 1 = n at *
        have hn0 : (0 : Int) ≤ (n : Int) := by omega
        have hn17 : (n : Int) < 17 := by omega
        clear hw hz h3 hd hb hon fz c0 c1 c3 hk hp htd HCI s3
        subst hseq
        go_enter Try.func73, Try.ntmps73
        go_wp2_with fail
        refine (HRG.out _).mono ?_
        rintro e w' ⟨rfl, rfl⟩
        go_wp2_with fail
        exact bodyPost_ret (v := .tuple #[ctAgg noCt, .bool false]) (by simp [results, Try.results73, go_sem, noCt]) rfl (dcertP_none HW.out HE.out (comm_off HE.out))
      | false =>
        rw [htd] at s16 HCI
        obtain ⟨cl, hrv, hmap, hcl⟩ := own_cs h3.drew k hkl
        have hcom := rcomm_at p (5 + (k + 1) * 4) (m (k + 1) 3) cl (2 * st.f + 1) (W.alloc zct).drew (by omega) (by rw [hs_drew]; exact hlt) s3 hrv
        rw [rcommL_refs hmap (2 * st.f + 1) st.l[k].sl.cs 0 cl hmap] at hcom
        have HCL := Lib.hid hcl
        have HCOM := Lib.hid hcom
        have HCV := Lib.hid (fun vs (hv : votesOf (committedL st.l[k].sl.cs (2 * st.f + 1) st.l[k].sl.cs) = vs) => show vs.length ≤ 100000 by
          have := cm_votes (all := st.l[k].sl.cs) (q := 2 * st.f + 1) st.l[k].sl.cs
          rw [hv] at this
          omega)
        have HCT := Lib.hid (fun (c : Ct) W' ss' (hw' : Own B w0 W' (docB p h m :: docI h m st :: batR c.vb c.rs :: votR c.vv c.vs :: ss')) (n1 : c.rs.length ≤ 100000) (n2 : c.vs.length ≤ 100000) => own_docdw hw' n1 n2 (k + 1) k rfl hkl (by omega))
        have HPI := Lib.hid (fun c (hc : commI st seq = some c) => show commitsI st seq = st.upd k fun p => { p with done := true, dw := c } by simp only [commitsI, hk, hc])
        have H3 := Lib.hid h3.drew
        rw [show committedS st.f st.l[k].sl = committedL st.l[k].sl.cs (2 * st.f + 1) st.l[k].sl.cs from rfl] at HCI
        generalize hnn : k + 1 = n at *
        have hn0 : (0 : Int) ≤ (n : Int) := by omega
        have hn17 : (n : Int) < 17 := by omega
        clear hw hz h3 hd hb hon fz hk hp htd hrv hmap hcom hcl HW
        subst hseq
        go_enter Try.func73, Try.ntmps73
        go_wp2_with fail
        refine (HRG.out _).mono ?_
        rintro e w' ⟨rfl, rfl⟩
        go_wp2_with fail
        refine Mix.wp_text2 (by kernel_rfl) (by kernel_rfl) ?_
        go_wp2_with fail
        refine (rquorum_any st.f _ (by omega) (by omega)).mono ?_
        rintro e w' ⟨rfl, rfl⟩
        go_wp2_with fail
        refine HCOM.out.mono ?_
        rintro e w2 ⟨v, u, rfl, hbl2, hb2, hv2, hn2, hx2⟩
        have hu2 : Upd [] (W.alloc zct).drew w2 := Upd.of_below hbl2
        have HU2 := Lib.hid hu2
        have HB2 := Lib.hid hb2
        have HV2 := Lib.hid hv2
        have HN2 := Lib.hid hn2
        have HX2 := Lib.hid hx2
        have H2 := Lib.hid (H3.out.upd0 hu2)
        obtain ⟨co, cav, hvf⟩ := vts_form hv2
        obtain ⟨ao, cap, hbf⟩ := bat_form hb2
        generalize hnv : (votesOf (committedL st.l[k].sl.cs (2 * st.f + 1) st.l[k].sl.cs)).length = nv at hvf
        generalize hnb : (batchOf (committedL st.l[k].sl.cs (2 * st.f + 1) st.l[k].sl.cs)).length = nb at hbf
        subst hvf hbf
        have HNV := Lib.hid hnv
        have HNB := Lib.hid hnb
        clear hnv hnb
        clear hbl2 hb2 hv2 hn2 hx2 hu2 HCOM
        go_wp2_with fail
        refine ⟨by rfl, ?_⟩
        cases hen : committedL st.l[k].sl.cs (2 * st.f + 1) st.l[k].sl.cs with
        | none =>
          rw [hen] at HV2 HCI HB2
          have HE := Lib.hid (show commI st n = none by rw [HCI.out]; rfl)
          have H4 := Lib.hid H2.out.rot
          have hbx := H4.out.blk_out
          obtain ⟨f0, f1, f2, f3, f4, fl, fz⟩ := ct_cells hbx
          have fz0 := fz 0
          have fz1 := fz 1
          have fz2 := fz 2
          have fz3 := fz 3
          have fz4 := fz 4
          clear hbx fz hen c0 c1 c3 c4 HCT HPI HCI s16 s3 H2 H3 HCL HX2 HCV
          go_wp2_with fail
          have H5 := Lib.hid (own_st5 H4.out 0 0 0 (.slice none 0 0) (.slice none 0 0))
          generalize ((((w2.setCell ⟨W.heap.size, 0, none⟩ (.int .i64 0)).setCell ⟨W.heap.size, 1, none⟩ (.int .i64 0)).setCell ⟨W.heap.size, 2, none⟩ (.int .i64 0)).setCell ⟨W.heap.size, 3, none⟩ (.slice none 0 0)).setCell ⟨W.heap.size, 4, none⟩ (.slice none 0 0) = w4 at *
          clear f0 f1 f2 f3 f4 fl fz0 fz1 fz2 fz3 fz4
          obtain ⟨f0, f1, f2, f3, f4, fl, -⟩ := ct_cells H5.out.blk_out
          exact bodyPost_ret (v := .tuple #[ctAgg noCt, .bool false]) (by simp [results, Try.results73, go_sem, noCt, f0, f1, f2, f3, f4]) rfl (dcertP_none ⟨h, m, H5.out.drop⟩ HE.out (comm_off HE.out))
        | some r =>
          obtain ⟨rb, vs⟩ := r
          rw [hen] at HV2 HCI HB2 HX2 HCV HNV HNB
          have hnv : nv = vs.length := HNV.out.symm
          have hnb : nb = rb.length := HNB.out.symm
          subst hnv hnb
          clear HNV HNB
          have hvl : vs.length ≤ 100000 := HCV.out vs rfl
          have HE := Lib.hid (show commI st n = some ⟨st.view, st.num, n, rb, vs⟩ by rw [HCI.out]; rfl)
          have hv2 : Vts w2 (.slice co vs.length cav) vs := HV2.out
          have hxx : ∃ x ∈ cl, Value.slice ao rb.length cap = x.b ∧ rb = x.rs := by
            rcases HX2.out with hx | ⟨x, hx, e1, e2⟩
            · cases hx
            · exact ⟨x, hx, e1, e2⟩
          obtain ⟨x, hx, e1, e2⟩ := hxx
          obtain ⟨hbl0, hbo⟩ := HCL.out x hx
          rw [← e2] at hbl0
          rw [← e1, ← e2] at hbo
          have hbl : rb.length ≤ 100000 := hbl0
          have hbo2 := hbo.upd0 HU2.out
          have H3b : Hid (Own B w0 w2 (docB p h m :: docI h m st :: batR (.slice ao rb.length cap) rb :: votR (.slice co vs.length cav) vs :: blk W.heap.size zct :: ss)) := Lib.hid ((hbo2.red hv2 (fun k hk hn => hbo.fresh (HN2.out k (blkIf_sub hk)) (msz hn))).perm (by
            refine List.Perm.trans (List.perm_middle (l₁ := [_, _, _])).symm ?_
            exact (List.perm_middle (l₁ := [_, _])).symm))
          have y0 := (upd_cell0 HU2.out hlt).trans (show (W.alloc zct).drew.cell? ⟨p, 3, none⟩ = some (.int .i64 st.view) from c3)
          have y1 := (upd_cell0 HU2.out hlt).trans (show (W.alloc zct).drew.cell? ⟨p, 1, none⟩ = some (.int .i64 st.num) from c1)
          have y4 := (upd_cell0 HU2.out hlt).trans (show (W.alloc zct).drew.cell? ⟨p, 0, none⟩ = some (.int .i64 st.f) from c0)
          have hlt2 : p < w2.heap.size := Nat.lt_of_lt_of_le hlt HU2.out.size
          have hne2 : p ≠ w2.heap.size := by omega
          have e0 : w2.drew.cell? ⟨p, 3, none⟩ = some (.int .i64 st.view) := y0
          have e9 : w2.drew.cell? ⟨p, 1, none⟩ = some (.int .i64 st.num) := y1
          have e8 : w2.drew.cell? ⟨p, 0, none⟩ = some (.int .i64 st.f) := y4
          clear hen c0 c1 c3 c4 HCI s3 s16 H2 HV2 HCL HX2 HB2 HCV hx e1 e2 hbl0 hbo hbo2 hv2 H3
          go_wp2_with fail
          go_region_held3 (fun w' => w'.cell? ⟨p, 3, none⟩ = some (.int .i64 st.view) ∧ w'.cell? ⟨p, 1, none⟩ = some (.int .i64 st.num) ∧ w'.cell? ⟨p, 0, none⟩ = some (.int .i64 st.f))
            (first | (with_reducible exact ⟨e0, e9, e8⟩) | (with_reducible exact k3_alloc' hlt2 ⟨y0, y1, y4⟩) | (with_reducible exact k3_sets hne2 (k3_alloc' hlt2 ⟨y0, y1, y4⟩)))
            (fail)
          have h4 := (H3b.out.box (ctO st.view st.num n (.slice ao rb.length cap) (.slice co vs.length cav))).drew
          have H4 : Hid (Own B w0 _ (docB p h m :: docI h m st :: batR (.slice ao rb.length cap) rb :: votR (.slice co vs.length cav) vs :: blk w2.heap.size (ctO st.view st.num n (.slice ao rb.length cap) (.slice co vs.length cav)) :: blk W.heap.size zct :: ss)) := Lib.hid (h4.perm (List.perm_middle (l₁ := [_, _, _, _])).symm)
          clear h4 e0 e9 e8 y0 y1 y4 H3b hlt2
          have hltb : W.heap.size ≠ w2.heap.size := by
            have h1 := HU2.out.size
            rw [hs_drew, hs_alloc] at h1
            omega
          generalize (w2.alloc (ctO st.view st.num n (.slice ao rb.length cap) (.slice co vs.length cav))).drew = w4 at *
          generalize w2.heap.size = b8 at *
          have h4 := H4.out
          have s5 : w4.cell? ⟨p, 175 + n * 5, none⟩ = some (m n 10) := db_cell h4.head n 10 (by omega) (by omega)
          have s6 : w4.cell? ⟨p, 175 + n * 5 + 1, none⟩ = some (m n 11) := db_cell h4.head n 11 (by omega) (by omega)
          have s7 : w4.cell? ⟨p, 175 + n * 5 + 2, none⟩ = some (m n 12) := db_cell h4.head n 12 (by omega) (by omega)
          have s8 : w4.cell? ⟨p, 175 + n * 5 + 3, none⟩ = some (m n 13) := db_cell h4.head n 13 (by omega) (by omega)
          have s9 : w4.cell? ⟨p, 175 + n * 5 + 4, none⟩ = some (m n 14) := db_cell h4.head n 14 (by omega) (by omega)
          have s15 : w4.cell? ⟨p, 277 + n, none⟩ = some (m n 16) := db_cell h4.head n 16 (by omega) (by omega)
          obtain ⟨hlt4, -, -, fzp⟩ := docB_at h4.head
          have z5 := fzp (175 + n * 5)
          have z6 := fzp (175 + n * 5 + 1)
          have z7 := fzp (175 + n * 5 + 2)
          have z8 := fzp (175 + n * 5 + 3)
          have z9 := fzp (175 + n * 5 + 4)
          have z15 := fzp (277 + n)
          obtain ⟨g0, g1, g2, g3, g4, gl, -⟩ := ct_cells h4.drop.drop.drop.drop.blk_out
          have hne8 : b8 ≠ p := fun e => hne2 e.symm
          clear h4 fzp
          go_wp2_with fail
          refine Mix.wp_text2 (by kernel_rfl) (by kernel_rfl) ?_
          go_wp2_with fail
          refine ⟨by rfl, ?_⟩
          have h5 : AtD B w0 _ p (st.upd k fun p => { p with done := true, dw := ⟨st.view, st.num, n, rb, vs⟩ }) (batR (.slice ao rb.length cap) rb :: votR (.slice co vs.length cav) vs :: blk b8 (ctO st.view st.num n (.slice ao rb.length cap) (.slice co vs.length cav)) :: blk W.heap.size zct :: ss) := (HCT.out ⟨st.view, st.num, n, .slice ao rb.length cap, .slice co vs.length cav, rb, vs⟩ w4 _ (own_dup2 H4.out) hbl hvl).drew
          rw [← HPI.out _ HE.out] at h5
          have H5 := Lib.hid h5
          clear h5 g0 g1 g2 g3 g4 s5 s6 s7 s8 s9 s15 z5 z6 z7 z8 z9 z15 H4 hne2 hne8 hlt4 HCT
          generalize ((((((w4.setCell ⟨p, 175 + n * 5, none⟩ (.int .i64 st.view)).setCell ⟨p, 175 + n * 5 + 1, none⟩ (.int .i64 st.num)).setCell ⟨p, 175 + n * 5 + 2, none⟩ (.int .i64 n)).setCell ⟨p, 175 + n * 5 + 3, none⟩ (.slice ao rb.length cap)).setCell ⟨p, 175 + n * 5 + 4, none⟩ (.slice co vs.length cav)).setCell ⟨p, 277 + n, none⟩ (.bool true)).drew = w5 at *
          obtain ⟨h9, m9, h6⟩ := H5.out
          have H6 : Hid (Own B w0 w5 (blk W.heap.size zct :: docB p h9 m9 :: docI h9 m9 (commitsI st n) :: batR (.slice ao rb.length cap) rb :: votR (.slice co vs.length cav) vs :: blk b8 (ctO st.view st.num n (.slice ao rb.length cap) (.slice co vs.length cav)) :: ss)) := Lib.hid (h6.perm (List.perm_middle (l₁ := [_, _, _, _, _])))
          obtain ⟨f0, f1, f2, f3, f4, fl, fz⟩ := ct_cells H6.out.blk_out
          obtain ⟨g0, g1, g2, g3, g4, gl, -⟩ := ct_cells h6.drop.drop.drop.drop.blk_out
          have fz0 := fz 0
          have fz1 := fz 1
          have fz2 := fz 2
          have fz3 := fz 3
          have fz4 := fz 4
          clear h6 fz H5
          go_wp2_with fail
          have H7 := Lib.hid (own_st5 H6.out st.view st.num n (.slice ao rb.length cap) (.slice co vs.length cav))
          generalize ((((w5.setCell ⟨W.heap.size, 0, none⟩ (.int .i64 st.view)).setCell ⟨W.heap.size, 1, none⟩ (.int .i64 st.num)).setCell ⟨W.heap.size, 2, none⟩ (.int .i64 n)).setCell ⟨W.heap.size, 3, none⟩ (.slice ao rb.length cap)).setCell ⟨W.heap.size, 4, none⟩ (.slice co vs.length cav) = w7 at *
          clear f0 f1 f2 f3 f4 fl fz0 fz1 fz2 fz3 fz4 g0 g1 g2 g3 g4 gl H6
          obtain ⟨f0, f1, f2, f3, f4, fl, -⟩ := ct_cells H7.out.blk_out
          refine bodyPost_ret (v := .tuple #[ctAgg ⟨st.view, st.num, n, .slice ao rb.length cap, .slice co vs.length cav, rb, vs⟩, .bool true]) (by simp [results, Try.results73, go_sem, f0, f1, f2, f3, f4]) rfl ?_
          have h8 := H7.out.drop
          refine ⟨⟨st.view, st.num, n, .slice ao rb.length cap, .slice co vs.length cav, rb, vs⟩, by rw [HE.out]; rfl, by rw [HE.out]; rfl, ⟨hbl, hvl⟩, batR_out h8.drop.drop.head, redR_out h8.drop.drop.drop.head, h9, m9, ?_⟩
          exact own_drop3 h8

end
end Go.Proofs.Ytdeadekeffficaa

/- InstGoes: the plain laws. -/
namespace Go.Proofs.Ytdeadekeffficaa
open Go.RowKit Go.Heap

/-- The first n nodes have voted for b. -/
def qv (f : Nat) (s : Int) (b : List Rq) (n : Nat) : List Vt := List.replicate n ⟨true, s, b⟩ ++ List.replicate (3 * f + 1 - n) noVt

theorem qv_zero (f : Nat) (s : Int) (b : List Rq) : qv f s b 0 = List.replicate (3 * f + 1) noVt := by simp [qv]

theorem picks_none_vt (b : List Rq) : ∀ (n k : Nat), picks b (List.replicate n noVt) k = []
  | 0, _ => rfl
  | n + 1, k => by
    rw [List.replicate_succ, picks, if_neg (by simp [goodB, noVt])]
    exact picks_none_vt b n (k + 1)

theorem picks_len (s : Int) (b : List Rq) (m : Nat) : ∀ (n k : Nat), (picks b (List.replicate n ⟨true, s, b⟩ ++ List.replicate m noVt) k).length = n
  | 0, k => by simp [picks_none_vt]
  | n + 1, k => by
    rw [List.replicate_succ, List.cons_append, picks, if_pos (by simp [goodB]), List.length_cons, picks_len s b m n (k + 1)]

theorem qv_set (f : Nat) (s : Int) (b : List Rq) (n : Nat) (hn : n < 3 * f + 1) : (qv f s b n).set n ⟨true, s, b⟩ = qv f s b (n + 1) := by
  unfold qv
  rw [List.set_append_right _ _ (by simp), List.length_replicate, Nat.sub_self, show 3 * f + 1 - n = (3 * f + 1 - (n + 1)) + 1 by omega, List.replicate_succ, List.set_cons_zero, List.replicate_succ', List.append_assoc]
  rfl

theorem qv_open (f : Nat) (s : Int) (b : List Rq) (n : Nat) (hn : n < 3 * f + 1) : openB (qv f s b n) n = true := by
  have : (qv f s b n)[n]? = some noVt := by
    unfold qv
    rw [List.getElem?_append_right (by simp), List.length_replicate, Nat.sub_self, show 3 * f + 1 - n = (3 * f + 1 - (n + 1)) + 1 by omega, List.replicate_succ]
    rfl
  simp [openB, this, noVt]

theorem qv_less (f : Nat) (s : Int) (b : List Rq) (n : Nat) (hn : n < 2 * f + 1) : enoughS (qv f s b n) b (2 * f + 1) = none := by
  unfold enoughS
  rw [if_pos (by unfold qv; rw [picks_len]; exact hn)]

def qvs (f : Nat) (s : Int) (b : List Rq) : Vs := (picks b (qv f s b (2 * f + 1)) 0).take (2 * f + 1)
theorem qvs_len (f : Nat) (s : Int) (b : List Rq) : (qvs f s b).length = 2 * f + 1 := by
  unfold qvs qv
  rw [List.length_take, picks_len]
  omega
theorem qv_full (f : Nat) (s : Int) (b : List Rq) : enoughS (qv f s b (2 * f + 1)) b (2 * f + 1) = some (qvs f s b) := by
  unfold enoughS
  rw [if_neg (by unfold qv; rw [picks_len]; omega)]
  rfl

theorem qv_comm (f : Nat) (s : Int) (b : List Rq) : committedL (qv f s b (2 * f + 1)) (2 * f + 1) (qv f s b (2 * f + 1)) = some (b, qvs f s b) := by
  have e : qv f s b (2 * f + 1) = ⟨true, s, b⟩ :: (List.replicate (2 * f) ⟨true, s, b⟩ ++ List.replicate (3 * f + 1 - (2 * f + 1)) noVt) := by
    unfold qv; rw [List.replicate_succ, List.cons_append]
  conv => lhs; arg 3; rw [e]
  rw [committedL, if_pos rfl]
  simp only [qv_full]

/-- A slot in which n nodes have voted. -/
def mSl (f k n m : Nat) : Sl := ⟨true, [rq 0 k], qv f 1 [rq 0 k] n, qv f 2 [rq 0 k] m⟩
def mPl (f k n m : Nat) : Pl := { emptyPl f with sl := mSl f k n m }
def pCp (f : Nat) (v : Int) (k : Nat) : Cp := ⟨v, 0, k, [rq 0 k], qvs f 1 [rq 0 k]⟩
def dCp (f : Nat) (v : Int) (k : Nat) : Cp := ⟨v, 0, k, [rq 0 k], qvs f 2 [rq 0 k]⟩
def tPl (f : Nat) (v : Int) (k : Nat) : Pl := { mPl f k (2 * f + 1) (2 * f + 1) with told := true, has := true, ct := pCp f v k }
def fPl (f : Nat) (v : Int) (k : Nat) : Pl := { tPl f v k with done := true, dw := dCp f v k }
/-- Those up to d went their way; the next one is p. -/
def gs (f : Nat) (v : Int) (d : Nat) (p : Pl) : In := ⟨f, 0, 1, v, true, (List.range 16).map fun j => if j < d then fPl f v (j + 1) else if j = d then p else emptyPl f⟩
abbrev gz (f : Nat) (v : Int) (d : Nat) : In := gs f v d (emptyPl f)

theorem gs_at (f : Nat) (v : Int) (d : Nat) (p : Pl) (hd : d < 16) : (gs f v d p).l[d]? = some p := by
  simp only [gs, List.getElem?_map, List.getElem?_range hd, Option.map_some]
  rw [if_neg (by omega), if_pos trivial]

theorem gs_upd (f : Nat) (v : Int) (d : Nat) (p : Pl) (g : Pl → Pl) : (gs f v d p).upd d g = gs f v d (g p) := by
  simp only [In.upd, gs, In.mk.injEq, true_and]
  apply List.ext_getElem?
  intro j
  simp only [List.getElem?_modify, List.getElem?_map]
  by_cases hj : j < 16
  · rw [List.getElem?_range hj]
    simp only [Option.map_some]
    by_cases e : d = j
    · subst e
      simp only [if_true, if_neg (show ¬ d < d by omega)]
      rfl
    · simp only [if_neg e, if_neg (show ¬ j = d by omega)]
      rfl
  · rw [List.getElem?_eq_none (by simpa using hj)]
    rfl

theorem gs_next (f : Nat) (v : Int) (d : Nat) : gs f v d (fPl f v (d + 1)) = gz f v (d + 1) := by
  simp only [gs, In.mk.injEq, true_and]
  apply List.map_congr_left
  intro j _
  by_cases h1 : j < d
  · rw [if_pos h1, if_pos (by omega)]
  · by_cases h2 : j = d
    · subst h2
      rw [if_neg (by omega), if_pos rfl, if_pos (by omega)]
    · rw [if_neg h1, if_neg h2, if_neg (by omega)]
      split <;> rfl

theorem gs_pl (f : Nat) (v : Int) (d : Nat) (p : Pl) (hd : d < 16) : plAt (gs f v d p) ((d : Int) + 1) = some p := by
  have hi : idx ((d : Int) + 1) = some d := by rw [idx_of (by omega) (by omega)]; congr 1
  rw [plAt, hi, Option.bind_some, gs_at f v d p hd]
theorem gs_idx (d : Nat) (hd : d < 16) : idx ((d : Int) + 1) = some d := by rw [idx_of (by omega) (by omega)]; congr 1

theorem gs_done (f : Nat) (v : Int) (d : Nat) (p : Pl) (hd : d ≤ 16) (hp : p.done = false) : doneI (gs f v d p) = d := by
  refine take_while _ d (fun j hj hjn => ?_) (by simp [gs]; omega) (fun hj => ?_)
  · simp only [gs, List.getElem_map, List.getElem_range]
    rw [if_pos hjn]; rfl
  · simp only [gs, List.getElem_map, List.getElem_range]
    rw [if_neg (by omega), if_pos trivial]; exact hp

theorem gz_pre2 (f : Nat) (v : Int) (d : Nat) (hd : d < 16) : preB (gz f v d) ((d : Int) + 1 + 1) = false := by
  unfold preB
  cases plAt (gz f v d) ((d : Int) + 1 + 1) with
  | none => rfl
  | some p =>
    simp only []
    rw [gs_done f v d _ (by omega) rfl]
    rw [show decide ((d : Int) + 1 + 1 ≤ (d : Int) + (gz f v d).ahead) = false by simp [gs]; omega]
    simp

theorem gz_pre (f : Nat) (v : Int) (d : Nat) (hd : d < 16) : preB (gz f v d) ((d : Int) + 1) = true ∧ preI (gz f v d) ((d : Int) + 1) [rq 0 ((d : Int) + 1)] = gs f v d (mPl f (d + 1) 0 0) := by
  have hb : preB (gz f v d) ((d : Int) + 1) = true := by
    simp only [preB, gs_pl f v d _ hd]
    rw [gs_done f v d _ (by omega) rfl]
    simp [gs, emptyPl, emptySl]
  refine ⟨hb, ?_⟩
  simp only [preI, gs_idx d hd]
  rw [if_pos hb, gs_upd]
  congr 1

theorem gs_nextI (f : Nat) (v : Int) (d : Nat) (p : Pl) (hd : d < 16) (hp : p.sl.has = true) : nextI (gs f v d p) = d + 2 := by
  unfold nextI
  rw [lastHas_of (gs f v d p).l (d + 1) (by simp [gs]; omega) (fun j hj hk => ?_) (fun j hj e => ?_)]
  · simp only [gs, List.getElem_map, List.getElem_range]
    rw [if_neg (by omega), if_neg (by omega)]; rfl
  · have e : j = d := by omega
    subst e
    simp only [gs, List.getElem_map, List.getElem_range]
    rw [if_neg (by omega), if_pos trivial]; exact hp

theorem gs_prep (f : Nat) (v : Int) (d n : Nat) (hd : d < 16) (hn : n < 2 * f + 1) : prepI (gs f v d (mPl f (d + 1) n n)) ((d : Int) + 1) = none := by
  simp only [prepI, gs_pl f v d _ hd]
  simp only [show (gs f v d (mPl f (d + 1) n n)).on = true from rfl, show (mPl f (d + 1) n n).told = false from rfl, Bool.not_false, Bool.and_self, if_true]
  rw [show (gs f v d (mPl f (d + 1) n n)).f = f from rfl, show preparedS f (mPl f (d + 1) n n).sl = enoughS (qv f 1 [rq 0 ((d + 1 : Nat) : Int)] n) [rq 0 ((d + 1 : Nat) : Int)] (2 * f + 1) from rfl, qv_less f 1 _ n hn]
  rfl

theorem gs_vote4 (f : Nat) (v : Int) (d n : Nat) (hd : d < 16) (hn : n < 3 * f + 1) : voteB (gs f v d (mPl f (d + 1) n n)) 4 ((d : Int) + 1) n = true ∧ voteI (gs f v d (mPl f (d + 1) n n)) 4 ((d : Int) + 1) n 1 [rq 0 ((d : Int) + 1)] = gs f v d (mPl f (d + 1) (n + 1) n) := by
  have hc : canVote (mSl f (d + 1) n n) 4 n = true := qv_open f 1 _ n hn
  refine ⟨?_, ?_⟩
  · simp only [voteB, gs_pl f v d _ hd]
    exact hc
  · simp only [voteI, gs_idx d hd]
    rw [if_pos (by rfl), gs_upd]
    congr 1
    simp only [mPl]
    have : voteS (mSl f (d + 1) n n) 4 n 1 [rq 0 ((d : Int) + 1)] = mSl f (d + 1) (n + 1) n := by
      unfold voteS
      rw [if_pos hc, if_pos rfl]
      simp only [mSl, Sl.mk.injEq, true_and, and_true, Int.toNat_natCast]
      exact qv_set f 1 _ n hn
    rw [this]

theorem gs_vote5 (f : Nat) (v : Int) (d n : Nat) (hd : d < 16) (hn : n < 3 * f + 1) : voteB (gs f v d (mPl f (d + 1) (n + 1) n)) 5 ((d : Int) + 1) n = true ∧ voteI (gs f v d (mPl f (d + 1) (n + 1) n)) 5 ((d : Int) + 1) n 2 [rq 0 ((d : Int) + 1)] = gs f v d (mPl f (d + 1) (n + 1) (n + 1)) := by
  have hc : canVote (mSl f (d + 1) (n + 1) n) 5 n = true := qv_open f 2 _ n hn
  refine ⟨?_, ?_⟩
  · simp only [voteB, gs_pl f v d _ hd]
    exact hc
  · simp only [voteI, gs_idx d hd]
    rw [if_pos (by rfl), gs_upd]
    congr 1
    simp only [mPl]
    have : voteS (mSl f (d + 1) (n + 1) n) 5 n 2 [rq 0 ((d : Int) + 1)] = mSl f (d + 1) (n + 1) (n + 1) := by
      unfold voteS
      rw [if_pos hc, if_neg (by omega)]
      simp only [mSl, Sl.mk.injEq, true_and, Int.toNat_natCast]
      exact qv_set f 2 _ n hn
    rw [this]

theorem gs_prepd (f : Nat) (v : Int) (d : Nat) (hd : d < 16) : prepI (gs f v d (mPl f (d + 1) (2 * f + 1) (2 * f + 1))) ((d : Int) + 1) = some (pCp f v (d + 1)) ∧ preparedI (gs f v d (mPl f (d + 1) (2 * f + 1) (2 * f + 1))) ((d : Int) + 1) = gs f v d (tPl f v (d + 1)) := by
  have hp : prepI (gs f v d (mPl f (d + 1) (2 * f + 1) (2 * f + 1))) ((d : Int) + 1) = some (pCp f v (d + 1)) := by
    simp only [prepI, gs_pl f v d _ hd]
    simp only [show (gs f v d (mPl f (d + 1) (2 * f + 1) (2 * f + 1))).on = true from rfl, show (mPl f (d + 1) (2 * f + 1) (2 * f + 1)).told = false from rfl, Bool.not_false, Bool.and_self, if_true]
    rw [show (gs f v d (mPl f (d + 1) (2 * f + 1) (2 * f + 1))).f = f from rfl, show preparedS f (mPl f (d + 1) (2 * f + 1) (2 * f + 1)).sl = enoughS (qv f 1 [rq 0 ((d + 1 : Nat) : Int)] (2 * f + 1)) [rq 0 ((d + 1 : Nat) : Int)] (2 * f + 1) from rfl, qv_full f 1 _]
    rfl
  refine ⟨hp, ?_⟩
  simp only [preparedI, gs_idx d hd, hp]
  rw [gs_upd]
  rfl

theorem gs_twice (f : Nat) (v : Int) (d : Nat) (hd : d < 16) : prepI (gs f v d (tPl f v (d + 1))) ((d : Int) + 1) = none := by
  simp only [prepI, gs_pl f v d _ hd]
  rfl

theorem gs_comm (f : Nat) (v : Int) (d : Nat) (hd : d < 16) : commI (gs f v d (tPl f v (d + 1))) ((d : Int) + 1) = some (dCp f v (d + 1)) ∧ commitsI (gs f v d (tPl f v (d + 1))) ((d : Int) + 1) = gz f v (d + 1) := by
  have hp : commI (gs f v d (tPl f v (d + 1))) ((d : Int) + 1) = some (dCp f v (d + 1)) := by
    simp only [commI, gs_pl f v d _ hd]
    rw [if_neg (by simp [tPl, mPl, emptyPl]), show (gs f v d (tPl f v (d + 1))).f = f from rfl, show committedS f (tPl f v (d + 1)).sl = committedL (qv f 2 [rq 0 ((d + 1 : Nat) : Int)] (2 * f + 1)) (2 * f + 1) (qv f 2 [rq 0 ((d + 1 : Nat) : Int)] (2 * f + 1)) from rfl, qv_comm]
    rfl
  refine ⟨hp, ?_⟩
  simp only [commitsI, gs_idx d hd, hp]
  rw [gs_upd, ← gs_next]
  rfl

theorem gz_certs (f : Nat) (v : Int) (d : Nat) (hd : d ≤ 16) : (certsI (gz f v d)).length = d := by
  simp only [certsI, List.length_map, gs, List.filter_map]
  rw [show (List.range 16).filter ((fun x => x.has) ∘ fun j => if j < d then fPl f v (j + 1) else if j = d then emptyPl f else emptyPl f) = (List.range 16).filter (fun j => decide (j < d)) from ?_]
  · have : ∀ n, ((List.range n).filter (fun j => decide (j < d))).length = min n d := by
      intro n
      induction n with
      | zero => simp
      | succ n ih =>
        rw [List.range_succ, List.filter_append, List.length_append, ih]
        by_cases h : n < d
        · simp [h]; omega
        · simp [h]; omega
    rw [this]; omega
  · apply List.filter_congr
    intro j _
    by_cases h : j < d
    · simp [h, fPl, tPl]
    · simp [h, emptyPl]

theorem gz_new (f : Nat) : newI f 0 1 = gz f 0 0 := by
  simp only [newI, gs, In.mk.injEq, true_and]
  apply List.ext_getElem?
  intro j
  rw [List.getElem?_replicate, List.getElem?_map]
  by_cases hj : j < 16
  · rw [if_pos hj, List.getElem?_range hj]
    simp only [Option.map_some]
    rw [if_neg (by omega)]
    split <;> rfl
  · rw [if_neg hj, List.getElem?_eq_none (by simpa using hj)]
    rfl

theorem gz_leave (f : Nat) (v : Int) (h1 : 0 < v) (h2 : v ≤ 12) : leaveB (gz f 0 0) v = true ∧ leaveI (gz f 0 0) v = { gz f v 0 with on := false } := by
  have hb : leaveB (gz f 0 0) v = true := by simp [leaveB, gs]; omega
  refine ⟨hb, ?_⟩
  unfold leaveI
  rw [if_pos hb]
  simp only [gs, In.mk.injEq, true_and, List.map_map]
  apply List.map_congr_left
  intro j _
  simp only [Function.comp, Nat.not_lt_zero, if_false]
  split <;> rfl

end Go.Proofs.Ytdeadekeffficaa

/- Plain: the law InstCerts: one slot, prepared in view after view. -/
namespace Go.Proofs.Ytdeadekeffficaa
open Go.RowKit Go.Heap

/-- The votes' nodes rise and are below n. -/
def Rises (vs : Vs) (n : Int) : Prop := vs.Pairwise (fun a b => a.1 < b.1) ∧ ∀ p ∈ vs, 0 ≤ p.1 ∧ p.1 < n

theorem picks_rise (b : List Rq) : ∀ (l : List Vt) (k : Nat), (picks b l k).Pairwise (fun a b => a.1 < b.1) ∧ ∀ p ∈ picks b l k, (k : Int) ≤ p.1 ∧ p.1 < (k : Int) + (l.length : Int)
  | [], k => by simp [picks]
  | t :: l, k => by
    obtain ⟨h1, h2⟩ := picks_rise b l (k + 1)
    rw [picks]
    split
    · refine ⟨List.pairwise_cons.2 ⟨fun p hp => ?_, h1⟩, fun p hp => ?_⟩
      · have := (h2 p hp).1
        show (k : Int) < p.1
        omega
      · rcases List.mem_cons.1 hp with rfl | hp
        · simp only [List.length_cons]; omega
        · have := h2 p hp
          simp only [List.length_cons] at this ⊢
          omega
    · refine ⟨h1, fun p hp => ?_⟩
      have := h2 p hp
      simp only [List.length_cons] at this ⊢
      omega

theorem picks_all (b : List Rq) : ∀ (l : List Vt) (k : Nat), (∀ t ∈ l, goodB b t = true) → (picks b l k).length = l.length
  | [], _, _ => rfl
  | t :: l, k, h => by
    rw [picks, if_pos (h t (by simp)), List.length_cons, picks_all b l (k + 1) (fun t ht => h t (by simp [ht])), List.length_cons]

/-- The first n have voted. -/
def qw (f : Nat) (t : Int) (b : List Rq) (n : Nat) : List Vt := (List.range (3 * f + 1)).map fun j => if j < n then ⟨true, t + j, b⟩ else noVt
theorem qw_len (f : Nat) (t : Int) (b : List Rq) (n : Nat) : (qw f t b n).length = 3 * f + 1 := by simp [qw]
theorem qw_zero (f : Nat) (t : Int) (b : List Rq) : qw f t b 0 = List.replicate (3 * f + 1) noVt := by simp [qw, List.map_const']
theorem qw_get (f : Nat) (t : Int) (b : List Rq) (n j : Nat) (hj : j < 3 * f + 1) : (qw f t b n)[j]? = some (if j < n then ⟨true, t + j, b⟩ else noVt) := by
  simp only [qw, List.getElem?_map, List.getElem?_range hj, Option.map_some]
theorem qw_set (f : Nat) (t : Int) (b : List Rq) (n : Nat) (_ : n < 3 * f + 1) : (qw f t b n).set n ⟨true, t + n, b⟩ = qw f t b (n + 1) := by
  apply List.ext_getElem?
  intro j
  by_cases hj : j < 3 * f + 1
  · by_cases e : n = j
    · subst e
      rw [List.getElem?_set_self (by rw [qw_len]; exact hj), qw_get f t b _ n hj, if_pos (by omega)]
    · rw [List.getElem?_set_ne e, qw_get f t b _ j hj, qw_get f t b _ j hj]
      by_cases h : j < n
      · rw [if_pos h, if_pos (by omega)]
      · rw [if_neg h, if_neg (by omega)]
  · rw [List.getElem?_eq_none (by simp [qw_len]; omega), List.getElem?_eq_none (by simp [qw_len]; omega)]
theorem qw_open (f : Nat) (t : Int) (b : List Rq) (n : Nat) (hn : n < 3 * f + 1) : openB (qw f t b n) n = true := by
  unfold openB
  rw [Int.toNat_natCast, qw_get f t b n n hn, if_neg (by omega)]
  simp [noVt]
theorem qw_good (f : Nat) (t : Int) (b : List Rq) : (picks b (qw f t b (3 * f + 1)) 0).length = 3 * f + 1 := by
  rw [picks_all, qw_len]
  intro x hx
  simp only [qw, List.mem_map, List.mem_range] at hx
  obtain ⟨j, hj, rfl⟩ := hx
  rw [if_pos hj]
  simp [goodB]

def qc (f : Nat) (t : Int) (b : List Rq) : Vs := (picks b (qw f t b (3 * f + 1)) 0).take (2 * f + 1)
theorem qc_len (f : Nat) (t : Int) (b : List Rq) : (qc f t b).length = 2 * f + 1 := by
  unfold qc
  rw [List.length_take, qw_good]
  omega
theorem qc_enough (f : Nat) (t : Int) (b : List Rq) : enoughS (qw f t b (3 * f + 1)) b (2 * f + 1) = some (qc f t b) := by
  unfold enoughS
  rw [if_neg (by rw [qw_good]; omega)]
  rfl
theorem qc_rise (f : Nat) (t : Int) (b : List Rq) : Rises (qc f t b) (3 * (f : Int) + 1) := by
  obtain ⟨h1, h2⟩ := picks_rise b (qw f t b (3 * f + 1)) 0
  refine ⟨h1.sublist (List.take_sublist _ _), fun p hp => ?_⟩
  have := h2 p (List.mem_of_mem_take hp)
  rw [qw_len] at this
  omega

/-! ### The law's states -/

def ePl (f : Nat) (o : Option Cp) : Pl := { emptyPl f with has := o.isSome, ct := o.getD noCp }
def cSl (f : Nat) (t : Int) (b : List Rq) (n : Nat) : Sl := ⟨true, b, qw f t b n, List.replicate (3 * f + 1) noVt⟩
def nPl (f : Nat) (o : Option Cp) (t : Int) (b : List Rq) (n : Nat) : Pl := { ePl f o with sl := cSl f t b n }
def cCp (f : Nat) (num v t : Int) (b : List Rq) : Cp := ⟨v, num, 2, b, qc f t b⟩
def cPl (f : Nat) (num v t : Int) (b : List Rq) : Pl := ⟨cSl f t b (3 * f + 1), true, true, cCp f num v t b, false, noCp⟩
def cs (f : Nat) (num v : Int) (on : Bool) (p : Pl) : In := ⟨f, num, 4, v, on, (List.range 16).map fun j => if j = 1 then p else emptyPl f⟩

section
variable {f : Nat} {num v : Int} {on : Bool} {p : Pl}

theorem cs_new (f : Nat) (num : Int) : newI f num 4 = cs f num 0 true (ePl f none) := by
  simp only [newI, cs, In.mk.injEq, true_and]
  apply List.ext_getElem?
  intro j
  rw [List.getElem?_replicate, List.getElem?_map]
  by_cases hj : j < 16
  · rw [if_pos hj, List.getElem?_range hj]
    simp only [Option.map_some]
    split <;> rfl
  · rw [if_neg hj, List.getElem?_eq_none (by simpa using hj)]
    rfl
theorem cs_pl (f : Nat) (num v : Int) (on : Bool) (p : Pl) : plAt (cs f num v on p) 2 = some p := rfl
theorem cs_upd (f : Nat) (num v : Int) (on : Bool) (p : Pl) (g : Pl → Pl) : (cs f num v on p).upd 1 g = cs f num v on (g p) := by
  simp only [In.upd, cs, In.mk.injEq, true_and]
  apply List.ext_getElem?
  intro j
  simp only [List.getElem?_modify, List.getElem?_map]
  by_cases hj : j < 16
  · rw [List.getElem?_range hj]
    simp only [Option.map_some]
    by_cases e : 1 = j
    · subst e
      simp
    · simp only [if_neg e, if_neg (show ¬ j = 1 by omega)]
      rfl
  · rw [List.getElem?_eq_none (by simpa using hj)]
    rfl
theorem cs_done (f : Nat) (num v : Int) (on : Bool) (p : Pl) : doneI (cs f num v on p) = 0 := rfl

theorem cs_pre (f : Nat) (num v : Int) (o : Option Cp) (t : Int) (b : List Rq) : preB (cs f num v true (ePl f o)) 2 = true ∧ preI (cs f num v true (ePl f o)) 2 b = cs f num v true (nPl f o t b 0) := by
  have hb : preB (cs f num v true (ePl f o)) 2 = true := rfl
  refine ⟨hb, ?_⟩
  simp only [preI, show idx 2 = some 1 from rfl]
  rw [if_pos hb, cs_upd]
  congr 1
  simp only [nPl, cSl, qw_zero]
  rfl

theorem cs_vote (f : Nat) (num v : Int) (o : Option Cp) (t : Int) (b : List Rq) (n : Nat) (hn : n < 3 * f + 1) : voteI (cs f num v true (nPl f o t b n)) 4 2 n (t + n) b = cs f num v true (nPl f o t b (n + 1)) := by
  have hc : canVote (cSl f t b n) 4 n = true := qw_open f t b n hn
  simp only [voteI, show idx 2 = some 1 from rfl]
  rw [if_pos (by rfl), cs_upd]
  congr 1
  simp only [nPl]
  have : voteS (cSl f t b n) 4 n (t + n) b = cSl f t b (n + 1) := by
    unfold voteS
    rw [if_pos hc, if_pos rfl]
    simp only [cSl, Sl.mk.injEq, true_and, and_true, Int.toNat_natCast]
    exact qw_set f t b n hn
  rw [this]

theorem cs_prep (f : Nat) (num v : Int) (o : Option Cp) (t : Int) (b : List Rq) : prepI (cs f num v true (nPl f o t b (3 * f + 1))) 2 = some (cCp f num v t b) ∧ preparedI (cs f num v true (nPl f o t b (3 * f + 1))) 2 = cs f num v true (cPl f num v t b) := by
  have hp : prepI (cs f num v true (nPl f o t b (3 * f + 1))) 2 = some (cCp f num v t b) := by
    simp only [prepI, cs_pl]
    simp only [show (cs f num v true (nPl f o t b (3 * f + 1))).on = true from rfl, show (nPl f o t b (3 * f + 1)).told = false from rfl, Bool.not_false, Bool.and_self, if_true]
    rw [show (cs f num v true (nPl f o t b (3 * f + 1))).f = f from rfl, show preparedS f (nPl f o t b (3 * f + 1)).sl = enoughS (qw f t b (3 * f + 1)) b (2 * f + 1) from rfl, qc_enough]
    rfl
  refine ⟨hp, ?_⟩
  simp only [preparedI, show idx 2 = some 1 from rfl, hp]
  rw [cs_upd]
  rfl

theorem cs_certs (f : Nat) (num v t : Int) (b : List Rq) : certsI (cs f num v true (cPl f num v t b)) = [cCp f num v t b] := rfl

theorem cs_leave (f : Nat) (num v t v' : Int) (b : List Rq) (h1 : v < v') (h2 : v' ≤ 12) : leaveB (cs f num v true (cPl f num v t b)) v' = true ∧ leaveI (cs f num v true (cPl f num v t b)) v' = cs f num v' false (ePl f (some (cCp f num v t b))) := by
  have hb : leaveB (cs f num v true (cPl f num v t b)) v' = true := by
    show (decide (v < v') && decide (v' ≤ 12)) = true
    rw [decide_eq_true h1, decide_eq_true h2]; rfl
  refine ⟨hb, ?_⟩
  unfold leaveI
  rw [if_pos hb]
  simp only [cs, In.mk.injEq, true_and, List.map_map]
  apply List.map_congr_left
  intro j _
  simp only [Function.comp]
  split <;> rfl
theorem cs_stay (f : Nat) (num v t v' : Int) (b : List Rq) (h1 : v' ≤ v) : leaveB (cs f num v true (cPl f num v t b)) v' = false := by
  show (decide (v < v') && decide (v' ≤ 12)) = false
  rw [decide_eq_false (by omega)]; rfl

end
end Go.Proofs.Ytdeadekeffficaa

/- psephoskeep.Cert of equal certificates; psephosref01.Rising of votes that rise. -/
namespace Go.Proofs.Ytdeadekeffficaa
open Go.RowKit Go.Heap

set_option maxHeartbeats 1000000 in
theorem keepCert_any (view inst seq : Int) (vb vv ub uv : Value) (rs : List Rq) (vs : Vs) (w : World) (hn : rs.length ≤ 100000) (hm : vs.length ≤ 100000) (hb : Bat w vb rs) (hv : Vts w vv vs) (hb' : Bat w ub rs) (hv' : Vts w uv vs) :
    Calls Try.prog 48 #[ctAgg ⟨view, inst, seq, vb, vv, rs, vs⟩, ctAgg ⟨view, inst, seq, ub, uv, rs, vs⟩] w fun e w' => e = .returned (.bool true) ∧ Upd [] w w' := by
  have h1 := (((Own.start (Below.refl w.heap.size w) (Nat.le_refl _)).box (ctO view inst seq vb vv)).box (ctO view inst seq ub uv))
  simp only [hs_alloc] at h1
  have hu : Upd [] w ((w.alloc (ctO view inst seq vb vv)).alloc (ctO view inst seq ub uv)) := ((Upd.refl _ _).alloc _).alloc _
  have H1 := Lib.hid h1
  have HB := Lib.hid (fun W' (h : Upd [] w W') => hb.upd (M := []) h (by simp))
  have HB' := Lib.hid (fun W' (h : Upd [] w W') => hb'.upd (M := []) h (by simp))
  have HV := Lib.hid (fun W' (h : Upd [] w W') => hv.upd (M := []) h (by simp))
  have HV' := Lib.hid (fun W' (h : Upd [] w W') => hv'.upd (M := []) h (by simp))
  obtain ⟨ao, cap, rfl⟩ := bat_form hb
  obtain ⟨bo, cbp, rfl⟩ := bat_form hb'
  obtain ⟨co, cav, rfl⟩ := vts_form hv
  obtain ⟨eo, cev, rfl⟩ := vts_form hv'
  clear hb hv hb' hv' h1
  go_enter Try.func48, Try.ntmps48
  go_upto_region 1 with fail
  have HU := Lib.hid hu
  clear hu
  generalize (w.alloc (ctO view inst seq (.slice ao rs.length cap) (.slice co vs.length cav))).alloc (ctO view inst seq (.slice bo rs.length cbp) (.slice eo vs.length cev)) = w1 at *
  obtain ⟨f0, f1, f2, f3, f4, fl, -⟩ := ct_cells H1.out.drop.blk_out
  obtain ⟨g0, g1, g2, g3, g4, gl, -⟩ := ct_cells H1.out.blk_out
  go_wp2_with fail
  refine (sameR_any _ _ rs rs _ hn hn (HB.out _ HU.out) (HB'.out _ HU.out)).mono ?_
  rintro e w2 ⟨rfl, hu2⟩
  rw [decide_eq_true rfl]
  have k4 := (hu2.cell (o := 4) fl (by simp)).trans f4
  have l4 := (hu2.cell (o := 4) gl (by simp)).trans g4
  have HU2 := Lib.hid (HU.out.trans hu2)
  clear f0 f1 f2 f3 f4 fl g0 g1 g2 g3 g4 gl hu2
  go_wp2_with fail
  refine (sameV_any _ _ vs vs _ hm hm (HV.out _ HU2.out) (HV'.out _ HU2.out)).mono ?_
  rintro e w3 ⟨rfl, hu3⟩
  rw [decide_eq_true rfl]
  have HU3 := Lib.hid (HU2.out.trans hu3)
  clear hu3
  go_wp2_with fail
  go_ret
  exact ⟨rfl, HU3.out⟩

theorem rises_at {vs : Vs} {n : Int} (h : Rises vs n) (k : Nat) (hk : k < vs.length) : 0 ≤ vs[k].1 ∧ vs[k].1 < n := h.2 _ (List.getElem_mem hk)
theorem rises_lt {vs : Vs} {n : Int} (h : Rises vs n) (m : Nat) (hk : m + 1 < vs.length) : vs[m].1 < vs[m + 1].1 := List.pairwise_iff_getElem.1 h.1 m (m + 1) (by omega) hk (by omega)

set_option maxHeartbeats 2000000 in
theorem rising01_any (f : Nat) (v : Value) (vs : Vs) (w : World) (hf1 : 1 ≤ f) (hf2 : f ≤ 4) (hl : vs.length = 2 * f + 1) (hr : Rises vs (3 * (f : Int) + 1)) (h : Vts w v vs) :
    Calls Try.prog 47 #[v, .int .i64 f] w fun e w' => e = .returned (.bool true) ∧ Upd [] w w' := by
  obtain ⟨ao, cap, rfl, h1, h2, h3, h4, h5⟩ := h
  clear h1 h2 h3 h4
  have H5 := Lib.hid h5
  have HR := Lib.hid hr
  clear h5 hr
  rw [hl]
  have HL := Lib.hid hl
  clear hl
  have e0 : (3 * (f : Int) + 1 == 0) = false := by simp; omega
  have e0' : decide (3 * (f : Int) + 1 = 0) = false := by simp; omega
  have e1 : (((2 * f + 1 : Nat) : Int) != 2 * (f : Int) + 1) = false := by simp
  go_enter Try.func47, Try.ntmps47
  go_wp2_with fail
  refine (rnodes_any f _ (by omega) (by omega)).mono ?_
  rintro e w' ⟨rfl, rfl⟩
  go_wp2_with fail
  refine (rquorum_any f _ (by omega) (by omega)).mono ?_
  rintro e w' ⟨rfl, rfl⟩
  go_wp2_with fail
  clear e0 e0' e1
  go_loopw [5] (fun i wr => ∃ k : Nat, k ≤ 2 * f + 1 ∧ i = .int .i64 k ∧ Below w.heap.size w wr) (fun i _ => 2 * f + 1 - (intOf i).toNat)
  case atStart => exact ⟨0, by omega, rfl, Below.refl _ _⟩
  case round =>
    obtain ⟨k, hk, rfl, hb⟩ := hrel
    by_cases hlt : k < 2 * f + 1
    · have hkv : k < vs.length := by rw [HL.out]; exact hlt
      obtain ⟨b, o, rfl, hbs, hc⟩ := H5.out (by rw [HL.out]; omega)
      have hcc := cells_below hb hbs hc
      obtain ⟨q0, -⟩ := vts_cells hcc k vs[k] (by simp)
      obtain ⟨t1, t2⟩ := rises_at HR.out k hkv
      have t1b : decide (vs[k].1 < 0) = false := by simp; omega
      have t2b : decide (3 * (f : Int) + 1 ≤ vs[k].1) = false := by simp; omega
      have HB := Lib.hid hb
      have HN := Lib.hid (fun wx => rnodes_any (f : Int) wx (by omega) (by omega))
      have HCC := Lib.hid hcc
      clear hb hc hcc
      by_cases hk0 : k = 0
      · subst hk0
        simp only [Nat.zero_mul, Nat.add_zero] at q0
        go_wp2_with fail
        go_quiet ((go_at_call 21; exact quiet_eq (HN.out _)))
        go_wp2_with fail
        go_roundw
        case rel => exact ⟨0 + 1, by omega, by go_num, below_drewN HB.out _⟩
        case measure => simp [intOf]
      · obtain ⟨m, rfl⟩ : ∃ m, k = m + 1 := ⟨k - 1, by omega⟩
        obtain ⟨p0, -⟩ := vts_cells HCC.out m vs[m] (by simp)
        have t3 := rises_lt HR.out m hkv
        have t3b : decide (vs[m + 1].1 ≤ vs[m].1) = false := by simp; omega
        have hp : decide ((0 : Int) < ((m + 1 : Nat) : Int)) = true := by simp
        clear hk0
        go_wp2_with fail
        go_quiet ((go_at_call 21; exact quiet_eq (HN.out _)))
        go_wp2_with fail
        go_roundw
        case rel => exact ⟨m + 1 + 1, by omega, by go_num, below_drewN HB.out _⟩
        case measure => simp [intOf]; omega
    · have hlb : decide ((k : Int) < ((2 * f + 1 : Nat) : Int)) = false := by simp; omega
      go_wp2_with fail
      go_ret
      exact ⟨rfl, Upd.of_below hb⟩

end Go.Proofs.Ytdeadekeffficaa

/- psephoskeep.Certs of equal certificates. -/
namespace Go.Proofs.Ytdeadekeffficaa
open Go.RowKit Go.Heap

theorem flat_at {α β : Type} (g : α → List β) (n : Nat) (hg : ∀ a, (g a).length = n) : ∀ (l : List α) (k j : Nat) (hk : k < l.length), j < n → (l.flatMap g)[k * n + j]? = (g l[k])[j]?
  | a :: l, 0, j, _, hj => by
    rw [List.flatMap_cons, List.getElem?_append_left (by rw [hg]; omega)]
    simp
  | a :: l, k + 1, j, hk, hj => by
    rw [List.flatMap_cons, List.getElem?_append_right (by rw [hg, Nat.succ_mul]; omega), hg]
    rw [show (k + 1) * n + j - n = k * n + j by rw [Nat.succ_mul]; omega]
    rw [flat_at g n hg l k j (by simpa using hk) hj]
    simp

/-- A slice of certificates, and what they name. -/
def CtsAt (w : World) (u : Value) (cts : List Ct) : Prop :=
  Reads w u 5 cts.length (cts.flatMap ctCells) ∧ ∀ c ∈ cts, Bat w c.vb c.rs ∧ c.rs.length ≤ 100000 ∧ Vts w c.vv c.vs ∧ c.vs.length ≤ 100000

theorem CtsAt.upd {w w' : World} {u : Value} {cts : List Ct} (h : CtsAt w u cts) (hu : Upd [] w w') : CtsAt w' u cts :=
  ⟨h.1.upd (M := []) hu (by simp), fun c hc => ⟨(h.2 c hc).1.upd (M := []) hu (by simp), (h.2 c hc).2.1, (h.2 c hc).2.2.1.upd (M := []) hu (by simp), (h.2 c hc).2.2.2⟩⟩

theorem CtsAt.at {w : World} {ao : Option Addr} {n cap : Nat} {cts : List Ct} (h : CtsAt w (.slice ao n cap) cts) (k : Nat) (hk : k < cts.length) : ∃ b o, ao = some ⟨b, o, none⟩ ∧ b < w.heap.size ∧
    w.cell? ⟨b, o + k * 5, none⟩ = some (.int .i64 cts[k].view) ∧ w.cell? ⟨b, o + k * 5 + 1, none⟩ = some (.int .i64 cts[k].inst) ∧ w.cell? ⟨b, o + k * 5 + 2, none⟩ = some (.int .i64 cts[k].seq) ∧ w.cell? ⟨b, o + k * 5 + 3, none⟩ = some cts[k].vb ∧ w.cell? ⟨b, o + k * 5 + 4, none⟩ = some cts[k].vv := by
  obtain ⟨ao', cap', e, -, -, -, -, h5⟩ := h.1
  cases e
  obtain ⟨b, o, rfl, hb, hc⟩ := h5 (by omega)
  have hj : ∀ j, j < 5 → w.cell? ⟨b, o + k * 5 + j, none⟩ = (ctCells cts[k])[j]? := fun j hj => by
    rw [Nat.add_assoc, hc _ (by omega), flat_at ctCells 5 (fun _ => rfl) cts k j hk hj]
  exact ⟨b, o, rfl, hb, hj 0 (by omega), hj 1 (by omega), hj 2 (by omega), hj 3 (by omega), hj 4 (by omega)⟩

theorem ct_same {c d : Ct} (h : c.cp = d.cp) : d.view = c.view ∧ d.inst = c.inst ∧ d.seq = c.seq ∧ d.rs = c.rs ∧ d.vs = c.vs := by
  simp only [Ct.cp, Cp.mk.injEq] at h
  exact ⟨h.1.symm, h.2.1.symm, h.2.2.1.symm, h.2.2.2.1.symm, h.2.2.2.2.symm⟩

set_option maxHeartbeats 1000000 in
theorem keepCerts_any (u1 u2 : Value) (c1 c2 : List Ct) (w : World) (h1 : CtsAt w u1 c1) (h2 : CtsAt w u2 c2) (he : c1.map Ct.cp = c2.map Ct.cp) (hn : c1.length ≤ 100000) :
    Calls Try.prog 53 #[u1, u2] w fun e w' => e = .returned (.bool true) ∧ Upd [] w w' := by
  obtain ⟨ao, cap, rfl, -⟩ := id h1.1
  obtain ⟨bo, cbp, rfl, -⟩ := id h2.1
  have hl : c1.length = c2.length := by simpa using congrArg List.length he
  have H1 := Lib.hid h1
  have H2 := Lib.hid h2
  have HE := Lib.hid he
  clear h1 h2 he
  have e1 : ((c1.length : Int) != (c2.length : Int)) = false := by simp [hl]
  have HL := Lib.hid hl
  clear hl
  go_enter Try.func53, Try.ntmps53
  go_wp2_with fail
  clear e1
  go_loopw [5] (fun n wr => ∃ k : Nat, k ≤ c1.length ∧ n = .int .i64 k ∧ Hid (Upd [] w wr)) (fun n _ => c1.length - (intOf n).toNat)
  case atStart => exact ⟨0, by omega, rfl, Lib.hid (Upd.refl _ _)⟩
  case round =>
    obtain ⟨k, hk, rfl, HU⟩ := hrel
    by_cases hlt : k < c1.length
    · have hkI : (k : Int) < (c1.length : Int) := by omega
      have hlt2 : k < c2.length := by rw [← HL.out]; exact hlt
      have hkJ : (k : Int) < (c2.length : Int) := by omega
      have hu0 : Upd [] w wr.drew := HU.out.drew
      obtain ⟨b, o, rfl, lb, x0, x1, x2, x3, x4⟩ := (H1.out.upd hu0).at k hlt
      obtain ⟨b', o', rfl, lb', y0, y1, y2, y3, y4⟩ := (H2.out.upd hu0).at k hlt2
      have hc : (c1[k]).cp = (c2[k]).cp := by
        have := congrArg (fun l => l[k]?) HE.out
        simpa [List.getElem?_map, List.getElem?_eq_getElem hlt, List.getElem?_eq_getElem hlt2] using this
      obtain ⟨g1, g2, g3, g4, g5⟩ := ct_same hc
      rw [g1] at y0
      rw [g2] at y1
      rw [g3] at y2
      obtain ⟨m1, m2, m3, m4⟩ := (H1.out.upd hu0).2 _ (List.getElem_mem hlt)
      obtain ⟨n1, -, n3, -⟩ := (H2.out.upd hu0).2 _ (List.getElem_mem hlt2)
      rw [g4] at n1
      rw [g5] at n3
      clear g1 g2 g3 g4 g5 hc
      generalize c1[k].view = view at *
      generalize c1[k].inst = inst at *
      generalize c1[k].seq = seq at *
      generalize c1[k].vb = vb at *
      generalize c1[k].vv = vv at *
      generalize c2[k].vb = ub at *
      generalize c2[k].vv = uv at *
      generalize c1[k].rs = rs at *
      generalize c1[k].vs = vs at *
      obtain ⟨ao1, cap1, rfl⟩ := bat_form m1
      obtain ⟨ao2, cap2, rfl⟩ := vts_form m3
      obtain ⟨ao3, cap3, rfl⟩ := bat_form n1
      obtain ⟨ao4, cap4, rfl⟩ := vts_form n3
      have M1 := Lib.hid m1
      have M3 := Lib.hid m3
      have N1 := Lib.hid n1
      have N3 := Lib.hid n3
      have M2 := Lib.hid m2
      have M4 := Lib.hid m4
      clear m1 m2 m3 m4 n1 n3
      go_wp2_with fail
      go_region_held3 (fun w' => w'.cell? ⟨b, o + k * 5, none⟩ = some (.int .i64 view) ∧ w'.cell? ⟨b, o + k * 5 + 1, none⟩ = some (.int .i64 inst) ∧ w'.cell? ⟨b, o + k * 5 + 2, none⟩ = some (.int .i64 seq) ∧ w'.cell? ⟨b, o + k * 5 + 3, none⟩ = some (.slice ao1 rs.length cap1) ∧ w'.cell? ⟨b, o + k * 5 + 4, none⟩ = some (.slice ao2 vs.length cap2) ∧
          w'.cell? ⟨b', o' + k * 5, none⟩ = some (.int .i64 view) ∧ w'.cell? ⟨b', o' + k * 5 + 1, none⟩ = some (.int .i64 inst) ∧ w'.cell? ⟨b', o' + k * 5 + 2, none⟩ = some (.int .i64 seq) ∧ w'.cell? ⟨b', o' + k * 5 + 3, none⟩ = some (.slice ao3 rs.length cap3) ∧ w'.cell? ⟨b', o' + k * 5 + 4, none⟩ = some (.slice ao4 vs.length cap4))
        (first
          | (with_reducible exact ⟨x0, x1, x2, x3, x4, y0, y1, y2, y3, y4⟩)
          | (with_reducible exact z))
        ((go_at_call 48; refine (keepCert_any view inst seq (.slice ao1 rs.length cap1) (.slice ao2 vs.length cap2) (.slice ao3 rs.length cap3) (.slice ao4 vs.length cap4) rs vs _ M2.out M4.out M1.out M3.out N1.out N3.out).mono ?_; rintro e w2 ⟨rfl, hu2⟩; have hv2 := hu0.trans hu2; have z := And.intro ((hu2.cell (o := o + k * 5) lb (by simp)).trans x0) (And.intro ((hu2.cell (o := o + k * 5 + 1) lb (by simp)).trans x1) (And.intro ((hu2.cell (o := o + k * 5 + 2) lb (by simp)).trans x2) (And.intro ((hu2.cell (o := o + k * 5 + 3) lb (by simp)).trans x3) (And.intro ((hu2.cell (o := o + k * 5 + 4) lb (by simp)).trans x4) (And.intro ((hu2.cell (o := o' + k * 5) lb' (by simp)).trans y0) (And.intro ((hu2.cell (o := o' + k * 5 + 1) lb' (by simp)).trans y1) (And.intro ((hu2.cell (o := o' + k * 5 + 2) lb' (by simp)).trans y2) (And.intro ((hu2.cell (o := o' + k * 5 + 3) lb' (by simp)).trans y3) ((hu2.cell (o := o' + k * 5 + 4) lb' (by simp)).trans y4)))))))))))
      go_wp2_with fail
      go_roundw
      case rel => exact ⟨k + 1, by omega, by go_num, Lib.hid hv2⟩
      case measure => simp [intOf]; omega
    · have hkb : decide ((k : Int) < (c1.length : Int)) = false := by simp; omega
      go_wp2_with fail
      go_ret
      exact ⟨rfl, HU.out⟩

end Go.Proofs.Ytdeadekeffficaa

/- Helps of psephoslaw15.do: batch, copies, comparisons of any two certificates. -/
namespace Go.Proofs.Ytdeadekeffficaa
open Go.RowKit Go.Heap

set_option maxHeartbeats 400000 in
theorem copyV_any (v : Value) (rs : Vs) (w : World) (hn : rs.length ≤ 100000) (h : Vts w v rs) :
    Calls Try.prog 88 #[v] w fun e w' => ∃ v', e = .returned v' ∧ Upd [] w w' ∧ Vts w' v' rs ∧ ∀ k ∈ blkOf v', w.heap.size ≤ k ∧ k < w'.heap.size := by
  obtain ⟨i0, hi, hz0, hz1, hz2⟩ := info_parts Try.infoVote
  have h' := h
  obtain ⟨ao, cap, rfl, h1, h2, h3, h4, h5⟩ := h'
  clear h1 h2 h3
  cases ao with
  | none =>
    obtain ⟨hr, rfl⟩ := h4 rfl
    have : rs = [] := List.eq_nil_of_length_eq_zero hr
    subst this
    clear hr h4 h5
    go_enter Try.func88, Try.ntmps88
    go_wp2
    go_ret
    exact ⟨_, rfl, Upd.refl _ _, Reads.nil _ _, by simp [blkOf]⟩
  | some a =>
    clear h4
    by_cases h0 : rs.length = 0
    · have : rs = [] := List.eq_nil_of_length_eq_zero h0
      subst this
      clear h5 h0
      go_enter Try.func88, Try.ntmps88
      go_wp2
      go_ret
      exact ⟨_, rfl, Upd.refl _ _, Reads.nil _ _, by simp [blkOf]⟩
    · obtain ⟨b, o, hab, hb, hc⟩ := h5 (by omega)
      simp only [Option.some.injEq] at hab
      subst hab
      clear h5
      have hpos : 0 < rs.length := by omega
      clear h0
      have hnews : ∀ j u, (vsCells rs)[j]? = some u → w.cell? ((⟨b, o, none⟩ : Addr).add j) = some u := by
        intro j u hj
        have hl := (List.getElem?_eq_some_iff.1 hj).1
        rw [vsCells_length] at hl
        have : (⟨b, o, none⟩ : Addr).add j = ⟨b, o + j, none⟩ := by unfold Addr.add; split <;> simp_all
        rw [this, hc j hl]
        exact hj
      have HN := Lib.hid hnews
      clear hc hnews
      go_enter Try.func88, Try.ntmps88
      go_wp2_with (at_builtin; refine wpList_append_lies _ rfl (.const (.slice none 0 0)) (.tmp 3) 37 rfl w.heap.size 44 i0 (.agg #[.int .i64 0, .int .i64 0]) 2 16 Try.underlying37 hi hz0 hz1 hz2 rfl (by decide) _ 0 [] rfl (World.ownsRow_nil _ _ _ _) ⟨b, o, none⟩ rs.length cap (vsCells rs) rfl (vsCells_length rs) HN.out (vsCells_one rs) hpos ?c3 ?c4 (Nat.le_refl _) w.heap.size rfl ?c6)
      case c3 => unfold maxLen; omega
      case c4 => omega
      case c6 =>
        intro g cap2 w2 hown hgrow hat hlt
        have hg : g = w.heap.size := by
          rcases hat with h | h
          · cases h
          · exact h
        subst hg
        try simp only [Nat.zero_add, List.nil_append] at hown
        have HO := Lib.hid hown
        clear hown hat
        go_wp2
        go_ret
        refine ⟨_, rfl, (Upd.refl _ _).grown hgrow (by intro k hk; cases hk), Reads.of_own HO.out, by simp [blkOf]; exact hlt⟩


set_option maxHeartbeats 4000000 in
theorem keepCert_dec (c d : Ct) (w : World) (hn : c.rs.length ≤ 100000) (hm : c.vs.length ≤ 100000) (kn : d.rs.length ≤ 100000) (km : d.vs.length ≤ 100000) (hb : Bat w c.vb c.rs) (hv : Vts w c.vv c.vs) (hb' : Bat w d.vb d.rs) (hv' : Vts w d.vv d.vs) :
    Calls Try.prog 48 #[ctAgg c, ctAgg d] w fun e w' => e = .returned (.bool (decide (c.cp = d.cp))) ∧ Upd [] w w' := by
  obtain ⟨view, inst, seq, vb, vv, rs, vs⟩ := c
  obtain ⟨view', inst', seq', ub, uv, rs', vs'⟩ := d
  simp only at hn hm kn km hb hv hb' hv'
  have h1 := (((Own.start (Below.refl w.heap.size w) (Nat.le_refl _)).box (ctO view inst seq vb vv)).box (ctO view' inst' seq' ub uv))
  simp only [hs_alloc] at h1
  have hu : Upd [] w ((w.alloc (ctO view inst seq vb vv)).alloc (ctO view' inst' seq' ub uv)) := ((Upd.refl _ _).alloc _).alloc _
  have H1 := Lib.hid h1
  have HB := Lib.hid (fun W' (h : Upd [] w W') => hb.upd (M := []) h (by simp))
  have HB' := Lib.hid (fun W' (h : Upd [] w W') => hb'.upd (M := []) h (by simp))
  have HV := Lib.hid (fun W' (h : Upd [] w W') => hv.upd (M := []) h (by simp))
  have HV' := Lib.hid (fun W' (h : Upd [] w W') => hv'.upd (M := []) h (by simp))
  obtain ⟨ao, cap, rfl⟩ := bat_form hb
  obtain ⟨bo, cbp, rfl⟩ := bat_form hb'
  obtain ⟨co, cav, rfl⟩ := vts_form hv
  obtain ⟨eo, cev, rfl⟩ := vts_form hv'
  have HD : Hid (decide ((Ct.cp ⟨view, inst, seq, .slice ao rs.length cap, .slice co vs.length cav, rs, vs⟩) = (Ct.cp ⟨view', inst', seq', .slice bo rs'.length cbp, .slice eo vs'.length cev, rs', vs'⟩)) = (view == view' && (inst == inst' && (seq == seq' && (decide (rs = rs') && decide (vs = vs')))))) := Lib.hid (by
    rw [Bool.eq_iff_iff]
    simp [Ct.cp, Cp.mk.injEq])
  rw [HD.out]
  clear hb hv hb' hv' h1
  cases q1 : (view == view') with
  | false =>
    go_enter Try.func48, Try.ntmps48
    go_upto_region 1 with fail
    have HU := Lib.hid hu
    clear hu
    generalize (w.alloc (ctO view inst seq (.slice ao rs.length cap) (.slice co vs.length cav))).alloc (ctO view' inst' seq' (.slice bo rs'.length cbp) (.slice eo vs'.length cev)) = w1 at *
    obtain ⟨f0, f1, f2, f3, f4, fl, -⟩ := ct_cells H1.out.drop.blk_out
    obtain ⟨g0, g1, g2, g3, g4, gl, -⟩ := ct_cells H1.out.blk_out
    go_wp2_with fail
    go_ret
    exact ⟨rfl, HU.out⟩
  | true =>
    cases q2 : (inst == inst') with
    | false =>
      go_enter Try.func48, Try.ntmps48
      go_upto_region 1 with fail
      have HU := Lib.hid hu
      clear hu
      generalize (w.alloc (ctO view inst seq (.slice ao rs.length cap) (.slice co vs.length cav))).alloc (ctO view' inst' seq' (.slice bo rs'.length cbp) (.slice eo vs'.length cev)) = w1 at *
      obtain ⟨f0, f1, f2, f3, f4, fl, -⟩ := ct_cells H1.out.drop.blk_out
      obtain ⟨g0, g1, g2, g3, g4, gl, -⟩ := ct_cells H1.out.blk_out
      go_wp2_with fail
      go_ret
      exact ⟨rfl, HU.out⟩
    | true =>
      cases q3 : (seq == seq') with
      | false =>
        go_enter Try.func48, Try.ntmps48
        go_upto_region 1 with fail
        have HU := Lib.hid hu
        clear hu
        generalize (w.alloc (ctO view inst seq (.slice ao rs.length cap) (.slice co vs.length cav))).alloc (ctO view' inst' seq' (.slice bo rs'.length cbp) (.slice eo vs'.length cev)) = w1 at *
        obtain ⟨f0, f1, f2, f3, f4, fl, -⟩ := ct_cells H1.out.drop.blk_out
        obtain ⟨g0, g1, g2, g3, g4, gl, -⟩ := ct_cells H1.out.blk_out
        go_wp2_with fail
        go_ret
        exact ⟨rfl, HU.out⟩
      | true =>
        go_enter Try.func48, Try.ntmps48
        go_upto_region 1 with fail
        have HU := Lib.hid hu
        clear hu
        generalize (w.alloc (ctO view inst seq (.slice ao rs.length cap) (.slice co vs.length cav))).alloc (ctO view' inst' seq' (.slice bo rs'.length cbp) (.slice eo vs'.length cev)) = w1 at *
        obtain ⟨f0, f1, f2, f3, f4, fl, -⟩ := ct_cells H1.out.drop.blk_out
        obtain ⟨g0, g1, g2, g3, g4, gl, -⟩ := ct_cells H1.out.blk_out
        go_wp2_with fail
        refine (sameR_any _ _ rs rs' _ hn kn (HB.out _ HU.out) (HB'.out _ HU.out)).mono ?_
        rintro e w2 ⟨rfl, hu2⟩
        have k4 := (hu2.cell (o := 4) fl (by simp)).trans f4
        have l4 := (hu2.cell (o := 4) gl (by simp)).trans g4
        have HU2 := Lib.hid (HU.out.trans hu2)
        clear f0 f1 f2 f3 f4 fl g0 g1 g2 g3 g4 gl hu2
        by_cases q4 : rs = rs'
        · rw [decide_eq_true q4]
          have Q4 := Lib.hid q4
          clear q4
          go_wp2_with fail
          refine (sameV_any _ _ vs vs' _ hm km (HV.out _ HU2.out) (HV'.out _ HU2.out)).mono ?_
          rintro e w3 ⟨rfl, hu3⟩
          have HU3 := Lib.hid (HU2.out.trans hu3)
          clear hu3
          go_wp2_with fail
          go_ret
          rw [show (true && (true && (true && (decide (rs = rs') && decide (vs = vs'))))) = decide (vs = vs') by simp [Q4.out]]
          exact ⟨rfl, HU3.out⟩
        · rw [decide_eq_false q4]
          have Q4 := Lib.hid q4
          clear q4
          go_wp2_with fail
          go_ret
          rw [show (true && (true && (true && (decide (rs = rs') && decide (vs = vs'))))) = false by simp [Q4.out]]
          exact ⟨rfl, HU2.out⟩

/-- The batches that psephoslaw15 plays with. -/
def bt (k : Int) : List Rq := if k % 5 ≤ 2 then [rq 0 1] else if k % 5 = 3 then [] else [rq 0 2, rq 1 1]
theorem bt_len (k : Int) : (bt k).length ≤ 2 := by unfold bt; split; simp; split <;> simp

set_option maxHeartbeats 1000000 in
theorem batch15_any (k : Int) (w : World) : Calls Try.prog 69 #[.int .i64 k] w fun e w' => ∃ v, e = .returned v ∧ Upd [] w w' ∧ w'.ownsRow w.heap.size 32 6 v (bt k).length (rqsCells (bt k)) := by
  obtain ⟨k1, k2⟩ := emod_in k 5 (by omega)
  have HW := Lib.hid (Within_any k 5 w (by omega) (by omega))
  by_cases h3 : k % 5 = 3
  · have HB := Lib.hid (show bt k = [] by unfold bt; rw [if_neg (by omega), if_pos h3])
    rw [HB.out]
    rw [h3] at HW
    go_enter Try.func69, Try.ntmps69
    go_wp2_with fail
    refine HW.out.mono ?_
    rintro e w' ⟨rfl, rfl⟩
    go_wp2_with fail
    go_ret
    exact ⟨_, rfl, Upd.refl _ _, World.ownsRow_nil _ _ _ _⟩
  · have b3 : (k % 5 == 3) = false := by simp [h3]
    by_cases h2 : k % 5 ≤ 2
    · have HB := Lib.hid (show bt k = [rq 0 1] by unfold bt; rw [if_pos h2])
      rw [HB.out]
      have : k % 5 = 0 ∨ k % 5 = 1 ∨ k % 5 = 2 := by omega
      rcases this with e | e | e <;> rw [e] at HW <;>
      · go_enter Try.func69, Try.ntmps69
        go_wp2_with fail
        refine HW.out.mono ?_
        rintro e w' ⟨rfl, rfl⟩
        go_wp2_with fail
        go_ret
        exact ⟨_, rfl, (Upd.refl _ _).alloc _, rfl, .inr ⟨w.heap.size, 1, _, rfl, Nat.le_refl _, heap_alloc_new _ _, by simp, by unfold maxLen; omega, rfl, rfl⟩⟩
    · have h4 : k % 5 = 4 := by omega
      have HB := Lib.hid (show bt k = [rq 0 2, rq 1 1] by unfold bt; rw [if_neg h2, if_neg h3])
      rw [HB.out]
      rw [h4] at HW
      go_enter Try.func69, Try.ntmps69
      go_wp2_with fail
      refine HW.out.mono ?_
      rintro e w' ⟨rfl, rfl⟩
      go_wp2_with fail
      go_ret
      exact ⟨_, rfl, (Upd.refl _ _).alloc _, rfl, .inr ⟨w.heap.size, 2, _, rfl, Nat.le_refl _, heap_alloc_new _ _, by simp, by unfold maxLen; omega, rfl, rfl⟩⟩

def CcP (w : World) (c : Ct) (out : Value) (w' : World) : Prop := ∃ (g' cap : Nat) (d : Ct), out = .slice (some ⟨g', 0, none⟩) 1 cap ∧ Upd [] w w' ∧ d.cp = c.cp ∧ g' < w'.heap.size ∧ (∀ j, j < 5 → w'.cell? ⟨g', j, none⟩ = (ctCells d)[j]?) ∧
      Bat w' d.vb d.rs ∧ Vts w' d.vv d.vs ∧ (∀ k ∈ blkOf d.vb, w.heap.size ≤ k) ∧ ∀ k ∈ blkOf d.vv, w.heap.size ≤ k

set_option maxHeartbeats 4000000 in
set_option maxRecDepth 100000 in
theorem copyCerts_one (c : Ct) (g : Nat) (w : World) (hg : w.heap[g]? = some (ctO c.view c.inst c.seq c.vb c.vv)) (hn : c.rs.length ≤ 100000) (hm : c.vs.length ≤ 100000) (hb : Bat w c.vb c.rs) (hv : Vts w c.vv c.vs) :
    Calls Try.prog 74 #[.slice (some ⟨g, 0, none⟩) 1 1] w fun e w' => ∃ out, e = .returned out ∧ CcP w c out w' := by
  obtain ⟨view, inst, seq, vb, vv, rs, vs⟩ := c
  simp only at hg hn hm hb hv
  obtain ⟨ao, cap, rfl⟩ := bat_form hb
  obtain ⟨co, cav, rfl⟩ := vts_form hv
  obtain ⟨f0, f1, f2, f3, f4, fl, -⟩ := ct_cells hg
  obtain ⟨i0, hi, hz0, hz1, hz2⟩ := info_parts Try.infoCert
  have HB := Lib.hid hb
  have HV := Lib.hid hv
  clear hb hv hg
  go_enter Try.func74, Try.ntmps74
  go_wp2_with fail
  go_loopw [3, 4] (fun out i wr => (i = .int .i64 0 ∧ out = .slice none 0 0 ∧ wr = w) ∨ (i = .int .i64 1 ∧ Hid (CcP w ⟨view, inst, seq, .slice ao rs.length cap, .slice co vs.length cav, rs, vs⟩ out wr))) (fun _ i _ => 1 - (intOf i).toNat)
  case atStart => exact .inl ⟨rfl, rfl, rfl⟩
  case round =>
    rcases hrel with ⟨rfl, rfl, rfl⟩ | ⟨rfl, HP⟩
    · go_upto_region 6 with fail
      have hu1 : Upd [] wr (wr.alloc (ctO view inst seq (.slice ao rs.length cap) (.slice co vs.length cav))).drew := ((Upd.refl _ _).alloc _).drew
      have hb1 : (wr.alloc (ctO view inst seq (.slice ao rs.length cap) (.slice co vs.length cav))).drew.heap[wr.heap.size]? = some (ctO view inst seq (.slice ao rs.length cap) (.slice co vs.length cav)) := heap_alloc_new wr _
      obtain ⟨g0, g1, g2, g3, g4, gl, -⟩ := ct_cells hb1
      have HC1 := Lib.hid (copyR_any (.slice ao rs.length cap) rs (wr.alloc (ctO view inst seq (.slice ao rs.length cap) (.slice co vs.length cav))).drew hn (HB.out.upd (M := []) hu1 (by simp)))
      have HC2 := Lib.hid (fun w' (hu : Upd [] wr w') => copyV_any (.slice co vs.length cav) vs w' hm (HV.out.upd (M := []) hu (by simp)))
      have HU1 := Lib.hid hu1
      have HB1 := Lib.hid hb1
      clear hu1 hb1 HB HV
      go_region_with (first
        | (go_at_call 59; refine HC1.out.mono ?_; rintro e w2 ⟨v2, rfl, hu2, hb2, hn2⟩; obtain ⟨a2, c2, rfl⟩ := bat_form hb2; have hk2 := (hu2.block _ gl (by simp)).trans HB1.out; have hx2 := ct_cells hk2; obtain ⟨x0, x1, x2, x3, x4, xl, xf⟩ := hx2; have HU2 := Lib.hid (HU1.out.trans hu2); have HUB := Lib.hid hu2; have HK2 := Lib.hid hk2; have HB2 := Lib.hid hb2; have HN2 := Lib.hid hn2; clear hu2 hk2 hb2 hn2)
        | (go_at_call 88; refine (HC2.out _ HU2.out).mono ?_; rintro e w3 ⟨v3, rfl, hu3, hv3, hn3⟩; obtain ⟨a3, c3, rfl⟩ := vts_form hv3; have hk3 := (hu3.block _ xl (by simp)).trans HK2.out; clear xf x0 x1 x2 x3 x4; obtain ⟨x0, x1, x2, x3, x4, -, xf⟩ := ct_cells hk3; have z3 := xf 3; have z4 := xf 4; have HU3 := Lib.hid hu3; have HK3 := Lib.hid hk3; have HV3 := Lib.hid hv3; have HN3 := Lib.hid hn3; clear hu3 hk3 hv3 hn3 xf))
      all_goals
        have hk5 : ((w3.setCell ⟨wr.heap.size, 3, none⟩ (.slice a2 rs.length c2)).setCell ⟨wr.heap.size, 4, none⟩ (.slice a3 vs.length c3)).heap[wr.heap.size]? = some (ctO view inst seq (.slice a2 rs.length c2) (.slice a3 vs.length c3)) := by
          rw [hp_same rfl, hp_same rfl, HK3.out]; rfl
        have hu5 : Upd [] wr ((w3.setCell ⟨wr.heap.size, 3, none⟩ (.slice a2 rs.length c2)).setCell ⟨wr.heap.size, 4, none⟩ (.slice a3 vs.length c3)) := ((HU2.out.trans HU3.out).setCell (.inr (Nat.le_refl _)) _).setCell (.inr (Nat.le_refl _)) _
        have hu35 : Upd [wr.heap.size] w3 ((w3.setCell ⟨wr.heap.size, 3, none⟩ (.slice a2 rs.length c2)).setCell ⟨wr.heap.size, 4, none⟩ (.slice a3 vs.length c3)) := ((Upd.refl _ _).setCell (.inl (by simp)) _).setCell (.inl (by simp)) _
        have hnb : ∀ k ∈ blkOf (.slice a2 rs.length c2), wr.heap.size < k := fun k hk => by
          have := (HN2.out k hk).1
          rw [hs_drew, hs_alloc] at this
          omega
        have hnv : ∀ k ∈ blkOf (.slice a3 vs.length c3), wr.heap.size < k := fun k hk => by
          have := (HN3.out k hk).1
          omega
        have hb5 := (HB2.out.upd (M := []) HU3.out (by simp)).upd hu35 (fun k hk hn => by have := hnb k hk; simp at hn; omega)
        have hv5 := HV3.out.upd hu35 (fun k hk hn => by have := hnv k hk; simp at hn; omega)
        have HB5 := Lib.hid hb5
        have HV5 := Lib.hid hv5
        have HNB := Lib.hid hnb
        have HNV := Lib.hid hnv
        have HU5 := Lib.hid hu5
        clear hu5 hu35 hb5 hv5 hnb hnv HB2 HV3 HN2 HN3 HU2 HU3 HK3 HC1 HC2 HU1 HB1 g0 g1 g2 g3 g4 gl HUB HK2 z3 z4 xl x0 x1 x2 x3 x4 f0 f1 f2 f3 f4 fl
        generalize (w3.setCell ⟨wr.heap.size, 3, none⟩ (.slice a2 rs.length c2)).setCell ⟨wr.heap.size, 4, none⟩ (.slice a3 vs.length c3) = w5 at *
        obtain ⟨f0, f1, f2, f3, f4, fl, -⟩ := ct_cells hk5
        clear hk5
        go_wp2_with (at_builtin; refine wpList_append_lies _ rfl (.tmp 24) (.tmp 26) 80 rfl 0 70 i0 (.agg #[.int .i64 0, .int .i64 0, .int .i64 0, .slice none 0 0, .slice none 0 0]) 5 72 Try.underlying80 hi hz0 hz1 hz2 rfl (by decide) _ 0 [] rfl (World.ownsRow_nil _ _ _ _) ⟨w5.heap.size, 0, none⟩ 1 1 (ctCells ⟨view, inst, seq, .slice a2 rs.length c2, .slice a3 vs.length c3, rs, vs⟩) rfl rfl ?c1 ?c2 (by decide) ?c3 ?c4 (Nat.zero_le _) _ rfl ?c6)
        case c1 => exact World.news_of_block (heap_alloc_new w5 _)
        case c2 => exact ctCells_one rfl rfl
        case c3 => unfold maxLen; omega
        case c4 => omega
        case c6 =>
          intro g9 cap9 w9 hown hgrow hat hlt9
          have hu9 : Upd [] wr w9 := (HU5.out.alloc _).grown hgrow (by intro k hk; cases hk)
          have hu59 : Upd [] w5 w9 := ((Upd.refl [] w5).alloc _).grown hgrow (by intro k hk; cases hk)
          have HP : Hid (CcP wr ⟨view, inst, seq, .slice ao rs.length cap, .slice co vs.length cav, rs, vs⟩ (.slice (some ⟨g9, 0, none⟩) 1 cap9) w9) := Lib.hid (by
            refine ⟨g9, cap9, ⟨view, inst, seq, .slice a2 rs.length c2, .slice a3 vs.length c3, rs, vs⟩, rfl, hu9, rfl, hlt9, fun j hj => ?_, HB5.out.upd (M := []) hu59 (by simp), Reads.upd (M := []) HV5.out hu59 (by simp), fun k hk => Nat.le_of_lt (HNB.out k hk), fun k hk => Nat.le_of_lt (HNV.out k hk)⟩
            obtain ⟨ao', cap', e, -, -, -, -, h5⟩ := own_reads hown
            cases e
            obtain ⟨b, o, e2, -, hc⟩ := h5 (by omega)
            cases e2
            have := hc j (by omega)
            simpa using this)
          clear hown hgrow hat hlt9 hu9 hu59
          go_wp2_with fail
          go_roundw
          case rel => exact .inr ⟨rfl, HP⟩
          case measure => simp [intOf]
    · obtain ⟨g', cap', d, rfl, hrest⟩ := HP.out
      have HR := Lib.hid hrest
      clear hrest
      go_wp2_with fail
      go_ret
      exact ⟨_, rfl, HP.out⟩

end Go.Proofs.Ytdeadekeffficaa
