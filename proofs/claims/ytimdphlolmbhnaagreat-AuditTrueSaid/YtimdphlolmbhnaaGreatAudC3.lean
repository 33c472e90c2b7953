/- Parts of the proof, one behind the other. -/
import Derived.Test.YtimdphlolmbhnaaGreatAudC2

/- The program's ledger runs a batch. -/
namespace Go.Proofs.YtimdphlolmbhnaaGreat
open Go.RowKit Go.Heap

/-- What the program's service and replies say. -/
structure LgS (n : Nat) (st : List (Bool × Int)) (rp : List (Int × Int)) (s : Sv) : Prop where
  rl : rp.length = n
  sl : st.length = 64
  vs : st.map Prod.snd = s.vs
  tm : ∀ (j : Nat) (hj : j < rp.length), rp[j].1 = s.tm j
  ok : VsOk s.vs

theorem LgS.step {n : Nat} {st st' : List (Bool × Int)} {rp : List (Int × Int)} {s : Sv} (h : LgS n st rp s) (r : Rq) (q : Nat) (t v : Int) (h1 : st'.length = 64) (h2 : st'.map Prod.snd = (applyR s.vs r).2) (hq : q < rp.length) : LgS n st' (rp.set q (t, v)) ⟨(applyR s.vs r).2, upT s.tm q t⟩ where
  rl := by simpa using h.rl
  sl := h1
  vs := h2
  tm := fun j hj => by
    rw [List.length_set] at hj
    by_cases e : j = q
    · subst e; simp [upT]
    · rw [List.getElem_set_ne (Ne.symm e), h.tm j hj]; simp [upT, e]
  ok := (applyR_ok h.ok r).1

theorem cell_allocd' {w : World} {o : Obj} {b i : Nat} {v : Value} (h : w.drew.cell? ⟨b, i, none⟩ = some v) : (w.alloc o).drew.cell? ⟨b, i, none⟩ = some v := cell_allocd (w := w) h
theorem cell_sets7 {w : World} {b c i : Nat} {v y0 y1 y2 y3 y4 y5 y6 : Value} (h : b ≠ c) (k : w.cell? ⟨b, i, none⟩ = some v) : (((((((w.setCell ⟨c, 0, none⟩ y0).setCell ⟨c, 1, none⟩ y1).setCell ⟨c, 2, none⟩ y2).setCell ⟨c, 3, none⟩ y3).setCell ⟨c, 4, none⟩ y4).setCell ⟨c, 5, none⟩ y5).setCell ⟨c, 6, none⟩ y6).cell? ⟨b, i, none⟩ = some v :=
  (World.cell?_of_block (by rw [hp_other h, hp_other h, hp_other h, hp_other h, hp_other h, hp_other h, hp_other h])).trans k

section
variable {B : Nat} {w0 w W W' : World} {ss rs : List Res} {p s c g cap n : Nat}

abbrev lgR (p s c g cap n : Nat) (lv : Value) (st : List (Bool × Int)) (rp : List (Int × Int)) (es : List En) (rs : List Res) : List Res := stR s st :: blk c (chO g rp.length cap) :: rpR g rp :: blk p (lgO n lv s c) :: enR lv es :: rs

/-- A batch so far. -/
def PRunMk (B : Nat) (w0 : World) (ss : List Res) (p s c g cap n : Nat) (sv : Sv) (lv : Value) (es : List En) (v : Value) (rs : List Rq) (k : Nat) (vo : Value) (w : World) : Prop :=
  ∃ st rp, LgS n st rp (runR n sv (rs.take k)).2 ∧ Own B w0 w (enR vo (runR n sv (rs.take k)).1 :: lgR p s c g cap n lv st rp es (batR v rs :: ss))

def PRunOk (B : Nat) (w0 : World) (ss : List Res) (p s c g cap n : Nat) (sv : Sv) (es : List En) (v : Value) (rs : List Rq) (e : Ending) (w : World) : Prop :=
  ∃ vo lv st rp, e = .returned vo ∧ LgS n st rp (runR n sv rs).2 ∧ Own B w0 w (lgR p s c g cap n lv st rp (es ++ (runR n sv rs).1) (enR vo (runR n sv rs).1 :: batR v rs :: ss))

set_option maxHeartbeats 4000000 in
set_option maxRecDepth 100000 in
theorem prun_any {sv : Sv} {lv : Value} {st : List (Bool × Int)} {rp : List (Int × Int)} {es : List En} {v : Value} {bs : List Rq} (h : Own B w0 W (lgR p s c g cap n lv st rp es (batR v bs :: ss))) (hc : LgS n st rp sv) (hcap : n ≤ cap) (hb : bs.length ≤ 1000) (he : es.length ≤ 90000) :
    Calls Tryz.prog 29 #[.pointer (some ⟨p, 0, none⟩), v] W (PRunOk B w0 ss p s c g cap n sv es v bs) := by
  obtain ⟨i0, hi, hz0, hz1, hz2⟩ := info_parts Tryz.infoEn
  obtain ⟨ao, bcap, rfl⟩ := bat_form (batR_out (h.get 5 rfl))
  obtain ⟨al, cl, rfl⟩ := row_shape (ownR_owns (h.get 4 rfl))
  have H0 : Hid (PRunMk B w0 ss p s c g cap n sv (.slice al es.length cl) es (.slice ao bs.length bcap) bs 0 (.slice none 0 0) W) := Lib.hid ⟨st, rp, hc, h.row0⟩
  have HNF : Hid (∀ k, (runR n sv (bs.take k)).1.length ≤ 1000) := Lib.hid (fun k => by
    have h1 := (run_ok (n := n) (bs.take k) hc.ok).2.2
    have h3 : (bs.take k).length ≤ bs.length := by simp; omega
    omega)
  have HBC : Hid (bs.length ≤ bcap) := Lib.hid (by
    obtain ⟨ao', cap', hv', h1, -⟩ := batR_out (h.get 5 rfl)
    simp only [Value.slice.injEq] at hv'
    omega)
  have hbc : (bs.length : Int) ≤ (bcap : Int) := by have := HBC.out; omega
  clear h hc
  go_enter Tryz.func29, Tryz.ntmps29
  go_wp2_with fail
  go_loopw [5, 11] (fun a j wr => ∃ (k : Nat) (vo : Value), k ≤ bs.length ∧ j = .int .i64 k ∧ vo = a ∧ Hid (PRunMk B w0 ss p s c g cap n sv (.slice al es.length cl) es (.slice ao bs.length bcap) bs k vo wr)) (fun _ j _ => bs.length - (intOf j).toNat)
  case atStart => exact ⟨0, _, by omega, rfl, rfl, H0⟩
  case round =>
    clear H0
    obtain ⟨k, vo, hk, rfl, rfl, HM⟩ := hrel
    by_cases hlt : k < bs.length
    · have hkI : (k : Int) < (bs.length : Int) := by omega
      have hk0 : (0 : Int) ≤ (k : Int) := by omega
      obtain ⟨st, rp, hc, ho⟩ := HM.out
      have hl1 := HNF.out k
      obtain ⟨new, s1, hrun⟩ : ∃ new s1, runR n sv (bs.take k) = (new, s1) := ⟨_, _, rfl⟩
      have HN := Lib.hid (run_next hlt hrun)
      rw [hrun] at hc ho hl1
      simp only at hc ho hl1
      clear hrun HM HNF
      obtain ⟨ao', cap', hv', -, -, -, -, h5⟩ := batR_out (ho.get 6 rfl)
      simp only [Value.slice.injEq] at hv'
      obtain ⟨rfl, -, rfl⟩ := hv'
      obtain ⟨b, o, rfl, hbs, hcs⟩ := h5 (by omega)
      obtain ⟨q0, q1, q2, q3, q4, q5⟩ := bat_cells hcs k bs[k] (by simp)
      clear hcs h5 hbs
      generalize bs[k] = r at *
      obtain ⟨client, time, kind, key, val, sl⟩ := r
      simp only at q0 q1 q2 q3 q4 q5
      have h1 := ho.box (rqBox ⟨client, time, kind, key, val, sl⟩)
      have hpb := h1.blkAt 5 rfl
      have x0 : (wr.alloc (rqBox ⟨client, time, kind, key, val, sl⟩)).cell? ⟨p, 0, none⟩ = some (.int .i64 n) := by rw [block_cell hpb]; rfl
      have x3 : (wr.alloc (rqBox ⟨client, time, kind, key, val, sl⟩)).cell? ⟨p, 3, none⟩ = some (.pointer (some ⟨c, 0, none⟩)) := by rw [block_cell hpb]; rfl
      have HNO := Lib.hid (fun hno : client < 0 ∨ (n : Int) ≤ client ∨ time ≤ s1.tm client.toNat => fun N : Nat => (⟨st, rp, by rw [HN.out, step_no hno]; exact hc, by rw [HN.out, step_no hno]; simp only [enOf, List.append_nil]; exact h1.drop.upd0 ((Upd.refl _ _).drewN N)⟩ : PRunMk B w0 ss p s c g cap n sv (.slice al es.length cl) es (.slice (some ⟨b, o, none⟩) bs.length bcap) bs (k + 1) vo ((wr.alloc (rqBox ⟨client, time, kind, key, val, sl⟩)).drewN N)))
      have HB := Lib.hid h1
      have HC := Lib.hid hc
      clear hc ho h1 hpb
      by_cases c1 : client < 0
      · have HE := Lib.hid (HNO.out (.inl c1))
        clear HNO
        go_wp2_with fail
        go_quiet (fail)
        go_wp2_with fail
        go_roundw
        case rel => exact ⟨k + 1, vo, by omega, by go_num, rfl, Lib.hid (HE.out _)⟩
        case measure => simp [intOf]; omega
      by_cases c2 : (n : Int) ≤ client
      · have HE := Lib.hid (HNO.out (.inr (.inl c2)))
        have c1' : decide (client < 0) = false := by simp; omega
        clear HNO c1
        go_wp2_with fail
        go_quiet (fail)
        go_wp2_with fail
        go_roundw
        case rel => exact ⟨k + 1, vo, by omega, by go_num, rfl, Lib.hid (HE.out _)⟩
        case measure => simp [intOf]; omega
      obtain ⟨q, rfl⟩ : ∃ q : Nat, client = q := ⟨client.toNat, by omega⟩
      have c1' : decide ((q : Int) < 0) = false := by simp
      have c2' : decide (n ≤ q) = false := by simp; omega
      have hqr : q < rp.length := by rw [HC.out.rl]; omega
      have hrc : rp.length ≤ cap := by rw [HC.out.rl]; exact hcap
      have HLQ := Lib.hid (fun N : Nat => Calls.mono (clast_any (W := (wr.alloc (rqBox ⟨q, time, kind, key, val, sl⟩)).drewN N) ((HB.out.upd0 ((Upd.refl _ _).drewN N)).blkAt 3 rfl) ((HB.out.upd0 ((Upd.refl _ _).drewN N)).get 4 rfl) hrc q hqr) (fun _ _ h => And.intro h.1 h.2.symm))
      rw [HC.out.tm q hqr] at HLQ
      by_cases c3 : time ≤ s1.tm q
      · have HE := Lib.hid (HNO.out (.inr (.inr (by simpa using c3))))
        clear HNO c1 c2
        generalize s1.tm q = tq at *
        go_wp2_with fail
        go_quiet ((go_at_call 51; exact quiet_eq (HLQ.out _)))
        go_wp2_with fail
        go_roundw
        case rel => exact ⟨k + 1, vo, by omega, by go_num, rfl, Lib.hid (HE.out _)⟩
        case measure => simp [intOf]; omega
      have c3' : decide (time ≤ s1.tm q) = false := by simp; omega
      have HY := Lib.hid (step_yes (n := n) (s := s1) (r := ⟨q, time, kind, key, val, sl⟩) rfl (by omega) (by simp only; omega))
      have HTM : Hid (rp[q].1 < time) := Lib.hid (by rw [HC.out.tm q hqr]; omega)
      clear HNO c1 c2 c3
      generalize s1.tm q = tq at *
      go_upto_region 5 with fail
      generalize wr.heap.size = e0 at *
      generalize wr.alloc _ = w2 at *
      clear q0 q1 q2 q3 q4 q5
      obtain ⟨p0, p1, p2, p3, p4, p5⟩ := rq_cells HB.out.blk_out
      go_quiet ((go_at_call 51; exact quiet_eq (HLQ.out _)))
      go_upto_region 6 with fail
      have H3 := Lib.hid (HB.out.upd0 ((Upd.refl _ _).drewN nq))
      clear p0 p1 p2 p3 p4 p5 x0 x3 c3' HB HLQ
      generalize w2.drewN nq = w3 at *
      go_cut [8] (fun p8 wx => ∃ (e1 : Nat) (st' : List (Bool × Int)), p8 = .pointer (some ⟨e1, 0, none⟩) ∧ Hid (st'.length = 64 ∧ st'.map Prod.snd = (applyR s1.vs ⟨q, time, kind, key, val, sl⟩).2) ∧ Hid (Own B w0 wx (blk e1 (enBox ⟨⟨q, time, kind, key, val, sl⟩, (applyR s1.vs ⟨q, time, kind, key, val, sl⟩).1⟩) :: blk e0 (rqBox ⟨q, time, kind, key, val, sl⟩) :: enR vo new :: lgR p s c g cap n (.slice al es.length cl) st' rp es (batR (.slice (some ⟨b, o, none⟩) bs.length bcap) bs :: ss))))
      case first =>
        obtain ⟨b0, b1, b2, b3, b4, b5⟩ := rq_cells H3.out.drew.blk_out
        have b6 : w3.drew.cell? ⟨p, 2, none⟩ = some (.pointer (some ⟨s, 0, none⟩)) := by rw [block_cell (H3.out.drew.blkAt 5 rfl)]; rfl
        have ha4 := papply H3.out.drew.rot HC.out.sl (by rw [HC.out.vs]; exact HC.out.ok) ⟨q, time, kind, key, val, sl⟩
        dsimp only at ha4
        have HA4 := Lib.hid ha4
        have haw := papply ((H3.out.box (.cells #[.int .i64 0, .int .i64 0, .int .i64 0, .int .i64 0, .int .i64 0, .int .i64 0, .int .i64 0] 40 (0, 0))).drew).perm3' HC.out.sl (by rw [HC.out.vs]; exact HC.out.ok) ⟨q, time, kind, key, val, sl⟩
        dsimp only at haw
        have HAW := Lib.hid haw
        have HVS := Lib.hid HC.out.vs
        clear ha4 haw
        go_region_held3 (fun w' => w'.cell? ⟨e0, 0, none⟩ = some (.int .i64 q) ∧ w'.cell? ⟨e0, 1, none⟩ = some (.int .i64 time) ∧ w'.cell? ⟨e0, 2, none⟩ = some (.int .i64 kind) ∧ w'.cell? ⟨e0, 3, none⟩ = some (.int .i64 key) ∧ w'.cell? ⟨e0, 4, none⟩ = some (.int .i64 val) ∧ w'.cell? ⟨e0, 5, none⟩ = some (.int .i64 sl) ∧ w'.cell? ⟨p, 2, none⟩ = some (.pointer (some ⟨s, 0, none⟩)))
          (first | (with_reducible exact ⟨d0, d1, d2, d3, d4, d5, d6⟩) | (with_reducible exact ⟨b0, b1, b2, b3, b4, b5, b6⟩) | (with_reducible exact ⟨cell_allocd d0, cell_allocd d1, cell_allocd d2, cell_allocd d3, cell_allocd d4, cell_allocd d5, cell_allocd d6⟩) | (with_reducible exact ⟨cell_allocd' b0, cell_allocd' b1, cell_allocd' b2, cell_allocd' b3, cell_allocd' b4, cell_allocd' b5, cell_allocd' b6⟩) | (with_reducible exact ⟨cell_sets7 hne4 d0, cell_sets7 hne4 d1, cell_sets7 hne4 d2, cell_sets7 hne4 d3, cell_sets7 hne4 d4, cell_sets7 hne4 d5, cell_sets7 hne5 d6⟩))
          ((go_at_call 52; first
            | ((with_reducible refine HA4.out.mono ?_); rintro e w4 ⟨st4, rfl, hs4, hm4, h4⟩; rw [HVS.out] at hm4 ⊢; have H4 := Lib.hid h4; have HS4 := Lib.hid (And.intro hs4 hm4); have d6 : w4.cell? ⟨p, 2, none⟩ = some (.pointer (some ⟨s, 0, none⟩)) := (block_cell (h4.blkAt 5 rfl) 2).trans rfl; obtain ⟨d0, d1, d2, d3, d4, d5⟩ := rq_cells (h4.blkAt 1 rfl); clear h4 hs4 hm4)
            | ((with_reducible refine HAW.out.mono ?_); rintro e w4 ⟨st4, rfl, hs4, hm4, h4⟩; rw [HVS.out] at hm4 ⊢; have H4 := Lib.hid h4; have HS4 := Lib.hid (And.intro hs4 hm4); have d6 : w4.cell? ⟨p, 2, none⟩ = some (.pointer (some ⟨s, 0, none⟩)) := (block_cell (h4.blkAt 6 rfl) 2).trans rfl; have hne4 := (own_ne h4 1 2 rfl rfl (by decide) (List.mem_singleton.2 rfl) (List.mem_singleton.2 rfl)).symm; have hne5 := (own_ne h4 1 6 rfl rfl (by decide) (List.mem_singleton.2 rfl) (List.mem_singleton.2 rfl)).symm; have hx4 := en_cells (p := ⟨⟨0, 0, 0, 0, 0, 0⟩, 0⟩) (h4.blkAt 1 rfl); obtain ⟨x0, x1, x2, x3, x4, x5, x6⟩ := hx4; have hf4 := block_frozen (h4.blkAt 1 rfl); obtain ⟨d0, d1, d2, d3, d4, d5⟩ := rq_cells (h4.blkAt 2 rfl); clear h4 hs4 hm4)))
        all_goals go_wp2_with fail
        all_goals go_meet
        · exact ⟨_, st4, rfl, HS4, Lib.hid (H4.out.rot'.box _)⟩
        · exact ⟨_, st4, rfl, HS4, Lib.hid ((((((((H4.out.perm3).store 0 _).store 1 _).store 2 _).store 3 _).store 4 _).store 5 _).store 6 _)⟩
      case rest =>
        go_upto_region 7 with fail
        obtain ⟨e1, st4, rfl, HS4, H5⟩ := hcut
        clear H3
        have HN2 : Hid (runR n sv (bs.take (k + 1)) = (new ++ [⟨⟨q, time, kind, key, val, sl⟩, (applyR s1.vs ⟨q, time, kind, key, val, sl⟩).1⟩], ⟨(applyR s1.vs ⟨q, time, kind, key, val, sl⟩).2, upT s1.tm q time⟩)) := Lib.hid (by rw [HN.out, HY.out]; rfl)
        have HC6 := Lib.hid (HC.out.step ⟨q, time, kind, key, val, sl⟩ q time (applyR s1.vs ⟨q, time, kind, key, val, sl⟩).1 HS4.out.1 HS4.out.2 hqr)
        clear HN HY HC HS4
        generalize (applyR s1.vs ⟨q, time, kind, key, val, sl⟩).1 = res at *
        generalize (applyR s1.vs ⟨q, time, kind, key, val, sl⟩).2 = vs1 at *
        have H6 := Lib.hid H5.out.drew
        obtain ⟨y0, y1, -, -, -, -⟩ := rq_cells (H5.out.blkAt 1 rfl)
        obtain ⟨-, -, -, -, -, -, y6⟩ := en_cells (H5.out.blkAt 0 rfl)
        have x3 : wc.cell? ⟨p, 3, none⟩ = some (.pointer (some ⟨c, 0, none⟩)) := by rw [block_cell (H5.out.blkAt 6 rfl)]; rfl
        have HPU := Lib.hid (cput_any (Own.perm (ss := blk c (chO g rp.length cap) :: rpR g rp :: blk e1 (enBox ⟨⟨q, time, kind, key, val, sl⟩, res⟩) :: blk e0 (rqBox ⟨q, time, kind, key, val, sl⟩) :: enR vo new :: stR s st4 :: blk p (lgO n (.slice al es.length cl) s c) :: enR (.slice al es.length cl) es :: batR (.slice (some ⟨b, o, none⟩) bs.length bcap) bs :: ss) H6.out (List.perm_append_comm (l₁ := [_, _, _, _]) (l₂ := [_, _]) |>.append_right _)) hrc q hqr time res HTM.out)
        clear H6 H5
        refine Mix.wp_text2 (by kernel_rfl) (by kernel_rfl) ?_
        go_wp2_with fail
        refine HPU.out.mono ?_
        rintro e w6 ⟨rfl, h6⟩
        have HV := Lib.hid h6
        clear h6 HPU y0 y1 y6 x3
        go_wp2_with fail
        refine ⟨by rfl, ?_⟩
        go_upto_region 8 with fail
        obtain ⟨r0, r1, r2, r3, r4, r5, r6⟩ := en_cells (HV.out.blkAt 2 rfl)
        have hd := HV.out.alloc (enBox ⟨⟨q, time, kind, key, val, sl⟩, res⟩)
        have HD := Lib.hid hd
        have HW := Lib.hid (ownR_owns (hd.get 4 rfl))
        have HNW : Hid (∀ j u, (enCells ⟨⟨q, time, kind, key, val, sl⟩, res⟩)[j]? = some u → (w6.alloc (enBox ⟨⟨q, time, kind, key, val, sl⟩, res⟩)).cell? ((⟨w6.heap.size, 0, none⟩ : Addr).add j) = some u) := Lib.hid (World.news_of_block (heap_alloc_new w6 (enBox ⟨⟨q, time, kind, key, val, sl⟩, res⟩)))
        have HON : Hid (∀ u ∈ enCells ⟨⟨q, time, kind, key, val, sl⟩, res⟩, u.oneCell' = true) := Lib.hid (fun u hu => ens_one [⟨⟨q, time, kind, key, val, sl⟩, res⟩] u (by simpa [ensCells] using hu))
        have HMX := Lib.hid (small_max (k := new.length) (by omega))
        have HM4 : Hid ((new.length + 1) * 56 ≤ 140737488355328) := Lib.hid (by omega)
        clear hd hl1
        go_wp2_with (at_builtin; refine wpList_append_lies _ rfl (.tmp 59) (.tmp 61) 29 rfl 0 40 i0 (.agg #[.int .i64 0, .int .i64 0, .int .i64 0, .int .i64 0, .int .i64 0, .int .i64 0, .int .i64 0]) 7 56 Tryz.underlying29 hi hz0 hz1 hz2 rfl (by decide) _ new.length _ rfl HW.out ⟨w6.heap.size, 0, none⟩ 1 1 (enCells ⟨⟨q, time, kind, key, val, sl⟩, res⟩) rfl rfl HNW.out HON.out (by decide) HMX.out HM4.out (Nat.zero_le _) _ rfl ?_)
        intro g9 cap9 w9 hown hgrow hat hlt5
        have h6 := ((HD.out.growAt 4 rfl hgrow (by simpa using hat) hown).dropAt 2 (by simp)).dropAt 2 (by simp)
        have HZ : Hid (PRunMk B w0 ss p s c g cap n sv (.slice al es.length cl) es (.slice (some ⟨b, o, none⟩) bs.length bcap) bs (k + 1) (.slice (some ⟨g9, 0, none⟩) (new.length + 1) cap9) w9) := Lib.hid ⟨_, _, by rw [HN2.out]; exact HC6.out, by
          rw [HN2.out]
          dsimp only
          rw [← enR_len (.slice (some ⟨g9, 0, none⟩) (new.length + 1) cap9) (new ++ [(⟨⟨q, time, kind, key, val, sl⟩, res⟩ : En)]) (new.length + 1) (ensCells new ++ enCells ⟨⟨q, time, kind, key, val, sl⟩, res⟩) (by simp) (by rw [ens_append, ens_1])]
          exact h6.perm (List.perm_append_comm (l₁ := [_, _]) (l₂ := [_, _]) |>.append_right _)⟩
        clear hown hgrow hat hlt5 h6 HD HW HNW HON HMX HM4 HV r0 r1 r2 r3 r4 r5 r6
        go_wp2_with fail
        go_roundw
        case rel => exact ⟨k + 1, _, by omega, by go_num, rfl, HZ⟩
        case measure => simp [intOf]; omega
    · have hkl : k = bs.length := by omega
      subst hkl
      have hkI : decide ((bs.length : Int) < (bs.length : Int)) = false := by simp
      obtain ⟨st, rp, hc, ho⟩ := HM.out
      have hl1 := HNF.out bs.length
      rw [List.take_length] at hc ho hl1
      obtain ⟨new, s1, hrun⟩ : ∃ new s1, runR n sv bs = (new, s1) := ⟨_, _, rfl⟩
      have HRUN := Lib.hid hrun
      rw [hrun] at hc ho hl1
      simp only at hc ho hl1
      clear hrun HNF HM
      have HC := Lib.hid hc
      have hpb := ho.blkAt 4 rfl
      have x1 : wr.cell? ⟨p, 1, none⟩ = some (.slice al es.length cl) := by rw [block_cell hpb]; rfl
      have RV := Lib.hid (own_ens (v := vo) (E := 40) (l := new) ho 0 rfl)
      have HO := Lib.hid (ho.perm (ss := enR (.slice al es.length cl) es :: enR vo new :: stR s st :: blk c (chO g rp.length cap) :: rpR g rp :: blk p (lgO n (.slice al es.length cl) s c) :: batR (.slice ao bs.length bcap) bs :: ss) (List.perm_append_comm (l₁ := [_, _, _, _, _]) (l₂ := [_]) |>.append_right _))
      have HM1 : Hid (es.length + new.length ≤ maxLen) := Lib.hid (by unfold maxLen; omega)
      have HM2 : Hid ((es.length + new.length) * 56 ≤ 140737488355328) := Lib.hid (by omega)
      clear ho hc hpb
      go_wp2_with (at_builtin; refine wpList_append_row rfl (.tmp 68) (.tmp 69) 29 rfl 40 i0 (.agg #[.int .i64 0, .int .i64 0, .int .i64 0, .int .i64 0, .int .i64 0, .int .i64 0, .int .i64 0]) 7 56 Tryz.underlying29 hi hz0 hz1 hz2 rfl (by decide) _ es.length _ rfl HO.out _ new.length _ rfl RV.out (ens_one new) HM1.out HM2.out ?_)
      intro v4 w4 h4
      obtain ⟨a4, c4, rfl⟩ := row_shape (ownR_owns h4.head)
      have H4 := Lib.hid h4
      have hpb := h4.blkAt 5 rfl
      have y1 : w4.cell? ⟨p, 1, none⟩ = some (.slice al es.length cl) := by rw [block_cell hpb]; rfl
      have z1 := block_frozen hpb 1
      clear h4 hpb RV HO x1
      go_wp2_with fail
      go_ret
      have e1 : ownR 40 7 (.slice a4 (es.length + new.length) c4) (es.length + new.length) (ensCells es ++ ensCells new) = enR (.slice a4 (es.length + new.length) c4) (es ++ new) := enR_len _ _ _ _ (by simp) (ens_append _ _).symm
      have h5 := H4.out.storeAt 5 rfl 1 (.slice a4 (es.length + new.length) c4)
      rw [e1] at h5
      refine ⟨vo, .slice a4 (es.length + new.length) c4, st, rp, rfl, ?_, ?_⟩
      · rw [HRUN.out]; exact HC.out
      · rw [HRUN.out]; exact h5.perm (List.perm_append_comm (l₁ := [_, _]) (l₂ := [_, _, _, _]) |>.append_right _)

end
end Go.Proofs.YtimdphlolmbhnaaGreat

/- Follows: audit's and the document's. -/
namespace Go.Proofs.YtimdphlolmbhnaaGreat
open Go.RowKit Go.Heap

theorem bel_drewN {B : Nat} {a w : World} (h : Below B a w) (n : Nat) : Below B a (w.drewN n) := h.trans ⟨rfl, rfl, rfl, Nat.le_refl _, fun _ _ => rfl⟩
theorem run_one (n : Int) (s : Sv) (r : Rq) : runR n s [r] = (enOf r (stepR n s r).1, (stepR n s r).2) := by simp [runR]
theorem follows_drop {n : Int} {s : Sv} {l : List En} {k : Nat} (hk : k < l.length) : followsB n s (l.drop k) = (decide ((stepR n s l[k].rq).1 = some l[k].res) && followsB n (stepR n s l[k].rq).2 (l.drop (k + 1))) := by
  rw [List.drop_eq_getElem_cons hk]; rfl
theorem st0_vs : st0.map Prod.snd = Sv.new.vs := by simp [Sv.new]
theorem LgS.new (n : Nat) : LgS n st0 (List.replicate n (0, 0)) Sv.new where
  rl := by simp
  sl := by simp
  vs := st0_vs
  tm := fun j hj => by simp [Sv.new]
  ok := new_ok

section
variable {B : Nat} {w0 w W W' : World} {ss rs : List Res} {p s c g cap n : Nat}

theorem own_bat1 (h : Own B w0 W rs) (r : Rq) : Own B w0 (W.alloc (rqBox r)) (batR (.slice (some ⟨W.heap.size, 0, none⟩) 1 1) [r] :: rs) := by
  have hn := heap_alloc_new W (rqBox r)
  have hb : Bat (W.alloc (rqBox r)) (.slice (some ⟨W.heap.size, 0, none⟩) 1 1) [r] :=
    ⟨_, _, rfl, by simp, by unfold maxLen; simp, rfl, (fun e => by cases e), fun _ => ⟨_, 0, rfl, block_lt hn, fun j hj => by rw [Nat.zero_add, block_cell hn]; simp [rqsCells, rqCells]⟩⟩
  refine own_bat (h.alloc (rqBox r)) hb (fun k hk => .inr ?_)
  have : k = W.heap.size := by simpa [blkIf, blkOf] using hk
  subst this
  exact ⟨h.below.size, h.fresh (Nat.le_refl _)⟩

/-- A log so far. -/
def FolMk (B : Nat) (w0 : World) (ss : List Res) (p s c g cap n : Nat) (l : List En) (k : Nat) (w : World) : Prop :=
  ∃ lv st rp es sv, es.length ≤ k ∧ followsB n sv (l.drop k) = followsB n Sv.new l ∧ LgS n st rp sv ∧ Own B w0 w (lgR p s c g cap n lv st rp es ss)

set_option maxHeartbeats 4000000 in
set_option maxRecDepth 100000 in
theorem follows_any (n : Nat) (h1 : 1 ≤ n) (h4 : n ≤ 4) (v : Value) (l : List En) (W : World) (hl : l.length ≤ 90000) (h : Ens W v l) :
    Calls Tryz.prog 18 #[.int .i64 n, v] W fun e w' => e = .returned (.bool (followsB n Sv.new l)) ∧ Upd [] W w' := by
  obtain ⟨ao, lcap, rfl, l1, l2, l3, l4, l5⟩ := h
  clear l2 l3 l4
  have H5 := Lib.hid l5
  have hcap : (l.length : Int) ≤ (lcap : Int) := by omega
  clear l5 l1
  have HN := Lib.hid (ledger_new n h1 h4 (own_start W))
  go_enter Tryz.func18, Tryz.ntmps18
  go_wp2_with fail
  refine HN.out.mono ?_
  rintro e w1 ⟨x, rfl, hk, hlp, ho⟩
  obtain ⟨p, s, c, g, cap, lv, cl, es, st, rp⟩ := x
  simp only [Lg.lp, newL, Lp.mk.injEq] at hlp
  obtain ⟨rfl, rfl, rfl, rfl⟩ := hlp
  have hcp : n ≤ cap := by have := hk.cap.1; simpa using this
  have HO : Hid (FolMk W.heap.size W [] p s c g cap n l 0 w1) := Lib.hid ⟨lv, st0, _, [], Sv.new, by simp, by simp, LgS.new n, ho.perm (List.perm_append_comm (l₁ := [_, _]) (l₂ := [_, _, _]))⟩
  clear ho hk HN
  go_wp2_with fail
  go_loopw [19] (fun j wr => ∃ k : Nat, k ≤ l.length ∧ j = .int .i64 k ∧ Hid (FolMk W.heap.size W [] p s c g cap n l k wr)) (fun j _ => l.length - (intOf j).toNat)
  case atStart => exact ⟨0, by omega, rfl, HO⟩
  case round =>
    clear HO
    obtain ⟨k, hk, rfl, HM⟩ := hrel
    obtain ⟨lv, st, rp, es, sv, hel, hfo, hc, ho⟩ := HM.out
    by_cases hlt : k < l.length
    · have hkI : (k : Int) < (l.length : Int) := by omega
      have hk0 : (0 : Int) ≤ (k : Int) := by omega
      obtain ⟨b, o, rfl, hbs, hcs⟩ := H5.out (by omega)
      obtain ⟨q0, q1, q2, q3, q4, q5, q6⟩ := ens_cells (cells_below ho.below hbs hcs) k l[k] (by simp)
      have HD := Lib.hid (follows_drop (n := n) (s := sv) hlt)
      generalize l[k] = en at *
      obtain ⟨⟨client, time, kind, key, val, sl⟩, res⟩ := en
      simp only at q0 q1 q2 q3 q4 q5 q6
      have HO := Lib.hid ho
      have HC := Lib.hid hc
      have HFO := Lib.hid hfo
      clear hcs HM ho hc hfo
      go_upto_region 7 with fail
      have H1 := Lib.hid (HO.out.box (enBox ⟨⟨client, time, kind, key, val, sl⟩, res⟩))
      generalize wr.heap.size = e0 at *
      generalize wr.alloc _ = w2 at *
      clear q0 q1 q2 q3 q4 q5 q6 HO
      obtain ⟨p0, p1, p2, p3, p4, p5, -⟩ := en_cells H1.out.blk_out
      have H2 := Lib.hid (own_bat1 H1.out ⟨client, time, kind, key, val, sl⟩)
      have HR := Lib.hid (prun_any (H2.out.perm (ss := lgR p s c g cap n lv st rp es (batR (.slice (some ⟨w2.heap.size, 0, none⟩) 1 1) [⟨client, time, kind, key, val, sl⟩] :: [blk e0 (enBox ⟨⟨client, time, kind, key, val, sl⟩, res⟩)])) (List.perm_append_comm (l₁ := [_, _]) (l₂ := [_, _, _, _, _]))) HC.out hcp (by simp) (by omega))
      go_wp2_with fail
      refine HR.out.mono ?_
      rintro e w3 ⟨vo, lv3, st3, rp3, rfl, hc3, h3⟩
      rw [run_one] at hc3 h3
      have H3 := Lib.hid h3
      have HC3 := Lib.hid hc3
      obtain ⟨av, cv, rfl⟩ := row_shape (ownR_owns (h3.get 5 rfl))
      clear h3 hc3 HR H2 H1 p0 p1 p2 p3 p4 p5 HC
      generalize hst : stepR n sv ⟨client, time, kind, key, val, sl⟩ = so at *
      obtain ⟨o1, s1⟩ := so
      simp only at HC3 H3
      cases o1 with
      | none =>
        have HF : Hid (followsB n Sv.new l = false) := Lib.hid (by rw [← HFO.out, HD.out]; rfl)
        clear hst HD HFO
        simp only [enOf, List.length_nil] at H3 ⊢
        go_wp2_with fail
        go_quiet (fail)
        go_wp2_with fail
        go_ret
        exact ⟨ret_bool HF.out.symm, Upd.of_below (bel_drewN H3.out.below _)⟩
      | some v1 =>
        simp only [enOf, List.length_singleton] at H3 ⊢
        have h4 := H3.out.perm (List.perm_append_comm (l₁ := [_, _, _, _, _]) (l₂ := [_]) |>.append_right _)
        obtain ⟨gv, rfl, -, -, h5⟩ := own_rowSeg (l := [⟨⟨client, time, kind, key, val, sl⟩, v1⟩]) h4 (by decide)
        have HG := Lib.hid h5
        obtain ⟨u0, u1, u2⟩ := segR_at h5.head
        clear h4 h5 u2
        have g0 := u1 0 (by simp [ensCells, enCells])
        have g1 := u1 1 (by simp [ensCells, enCells])
        have g2 := u1 2 (by simp [ensCells, enCells])
        have g3 := u1 3 (by simp [ensCells, enCells])
        have g4 := u1 4 (by simp [ensCells, enCells])
        have g5 := u1 5 (by simp [ensCells, enCells])
        have g6 := u1 6 (by simp [ensCells, enCells])
        clear u0 u1
        simp only [ensCells, List.flatMap_cons, List.flatMap_nil, List.append_nil, enCells, List.getElem?_cons_zero, List.getElem?_cons_succ] at g0 g1 g2 g3 g4 g5 g6
        obtain ⟨p0, p1, p2, p3, p4, p5, p6⟩ := en_cells (HG.out.blkAt 7 rfl)
        have hgd := Tryz.guardEn
        by_cases he : v1 = res
        · subst he
          have heq : ∀ wx, (Op.equalIn 10000 40 (enAgg ⟨⟨client, time, kind, key, val, sl⟩, v1⟩) (enAgg ⟨⟨client, time, kind, key, val, sl⟩, v1⟩)).run Tryz.prog wx = .ok true wx := fun wx => by rw [run_equal_en]; simp
          have HF : Hid (followsB n s1 (l.drop (k + 1)) = followsB n Sv.new l) := Lib.hid (by rw [← HFO.out, HD.out]; simp)
          clear hst HD HFO
          go_wp2_with fail
          go_quiet (fail)
          go_wp2_with fail
          go_roundw
          case rel => exact ⟨k + 1, by omega, by go_num, Lib.hid ⟨lv3, st3, rp3, _, s1, by simp; omega, HF.out, HC3.out, (((H3.out.dropAt 5 (by simp)).dropAt 5 (by simp)).dropAt 5 (by simp)).upd0 ((Upd.refl _ _).drewN _)⟩⟩
          case measure => simp [intOf]; omega
        · have heq : ∀ wx, (Op.equalIn 10000 40 (enAgg ⟨⟨client, time, kind, key, val, sl⟩, v1⟩) (enAgg ⟨⟨client, time, kind, key, val, sl⟩, res⟩)).run Tryz.prog wx = .ok false wx := fun wx => by rw [run_equal_en]; simp [he]
          have HF : Hid (followsB n Sv.new l = false) := Lib.hid (by rw [← HFO.out, HD.out]; simp [he])
          clear hst HD HFO he
          go_wp2_with fail
          go_quiet (fail)
          go_wp2_with fail
          go_ret
          exact ⟨ret_bool HF.out.symm, Upd.of_below (bel_drewN H3.out.below _)⟩
    · have hkl : k = l.length := by omega
      subst hkl
      have HF : Hid (followsB n Sv.new l = true) := Lib.hid (by rw [← hfo, List.drop_length]; rfl)
      have HO := Lib.hid ho
      clear hfo hc ho HM
      go_wp2_with fail
      go_ret
      exact ⟨ret_bool HF.out.symm, Upd.of_below HO.out.below⟩

end
end Go.Proofs.YtimdphlolmbhnaaGreat

/- Follows: the document's. -/
namespace Go.Proofs.YtimdphlolmbhnaaGreat
open Go.RowKit Go.Heap

/-- A new ledger of the document. -/
def c0 (n : Int) (j : Nat) : Value := if j = 0 then .int .i64 n else if j < 65 then .int .i64 0 else if j < 129 then .bool false else if j < 137 then .int .i64 0 else .slice none 0 0
theorem LedC.new (n : Int) : LedC n Sv.new (.slice none 0 0) (c0 n) where
  h0 := rfl
  vs := fun k hk => by
    have : Sv.new.vs.getD k 0 = 0 := by
      rw [List.getD_eq_getElem?_getD, show Sv.new.vs = List.replicate 64 0 from rfl, List.getElem?_replicate]
      simp [hk]
    rw [this]; unfold c0; rw [if_neg (by omega), if_pos (by omega)]
  has := fun k hk => ⟨false, by unfold c0; rw [if_neg (by omega), if_neg (by omega), if_pos (by omega)]⟩
  tm := fun k hk => by unfold c0; rw [if_neg (by omega), if_neg (by omega), if_neg (by omega), if_pos (by omega)]; rfl
  rs := fun k hk => ⟨0, by unfold c0; rw [if_neg (by omega), if_neg (by omega), if_neg (by omega), if_pos (by omega)]⟩
  l := by unfold c0; rw [if_neg (by omega), if_neg (by omega), if_neg (by omega), if_neg (by omega)]
  ok := new_ok
theorem c0_one (n : Int) (j : Nat) : (c0 n j).oneCell' = true := by
  unfold c0
  repeat' split
  all_goals rfl

theorem Tryz.led0 (n : Int) : (Tryz.zeroCells31.setIfInBounds 0 (.int .i64 n)).toList = (List.range 138).map (c0 n) := by kernel_rfl
theorem Tryz.ledS : Tryz.zeroCells31.size = 138 := by kernel_rfl
theorem Tryz.ledI : (Tryz.prog.info? 31).map (·.size) = some 138 := by kernel_rfl
theorem Tryz.ledN (n : Int) : (Tryz.zeroCells31.setIfInBounds 0 (.int .i64 n)).size = 138 := by rw [Array.size_setIfInBounds, Tryz.ledS]
theorem Tryz.ledI' (n : Int) : (Tryz.prog.info? 31).map (·.size) = some (Tryz.zeroCells31.setIfInBounds 0 (.int .i64 n)).size := by rw [Tryz.ledN, Tryz.ledI]
theorem Tryz.ledO (n : Int) : (Tryz.zeroCells31.setIfInBounds 0 (.int .i64 n)).all (·.oneCell') = true := by
  refine Array.all_eq_true_iff_forall_mem.2 (fun v hv => ?_)
  have hv := Array.mem_toList_iff.2 hv
  rw [Tryz.led0] at hv
  obtain ⟨j, -, rfl⟩ := List.mem_map.1 hv
  exact c0_one n j

section
variable {B : Nat} {w0 w W W' : World} {ss rs : List Res} {p : Nat}

theorem led_there (W : World) (n : Int) : (W.alloc (.cells Tryz.zeroCells31 31 (0, 0))).there W.heap.size 0 (Tryz.zeroCells31.setIfInBounds 0 (.int .i64 n)).size := fun j hj => by
  rw [Tryz.ledN] at hj
  have hb := heap_alloc_new W (.cells Tryz.zeroCells31 31 (0, 0))
  refine ⟨?_, block_frozen hb _⟩
  rw [Nat.zero_add, block_cell hb, Array.getElem?_eq_getElem (by rw [Tryz.ledS]; exact hj)]
  rfl

theorem led_new (h : Own B w0 W rs) (n : Int) : Own B w0 ((W.alloc (.cells Tryz.zeroCells31 31 (0, 0))).setCells W.heap.size 0 (Tryz.zeroCells31.setIfInBounds 0 (.int .i64 n)).toList) (ldB W.heap.size (c0 n) :: rs) := by
  have hb := heap_alloc_new W (.cells Tryz.zeroCells31 31 (0, 0))
  obtain ⟨cur, h1, h2, h3⟩ := setCells_blk (Tryz.zeroCells31.setIfInBounds 0 (.int .i64 n)).toList 0 _ _ hb
  have hu : Upd [W.heap.size] (W.alloc (.cells Tryz.zeroCells31 31 (0, 0))) ((W.alloc (.cells Tryz.zeroCells31 31 (0, 0))).setCells W.heap.size 0 (Tryz.zeroCells31.setIfInBounds 0 (.int .i64 n)).toList) := upd_setCs _ _ _ _ (Upd.refl _ _)
  refine funB_of ((h.box (.cells Tryz.zeroCells31 31 (0, 0))).turn hu h1) (by rw [h2, Tryz.ledS]) (fun j hj => ?_)
  rw [h3 j, if_pos ⟨by omega, by rw [Array.length_toList, Tryz.ledN]; omega, by rw [Tryz.ledS]; exact hj⟩, Tryz.led0, Nat.sub_zero, List.getElem?_map, List.getElem?_range hj]
  rfl

/-- A log so far. -/
def RFolMk (B : Nat) (w0 : World) (ss : List Res) (p : Nat) (n : Int) (l : List En) (k : Nat) (w : World) : Prop :=
  ∃ lv c es sv, es.length ≤ k ∧ followsB n sv (l.drop k) = followsB n Sv.new l ∧ LedC n sv lv c ∧ Own B w0 w (ldB p c :: enR lv es :: ss)

set_option maxHeartbeats 4000000 in
set_option maxRecDepth 100000 in
theorem rfollows_any (n : Int) (hn4 : n ≤ 4) (v : Value) (l : List En) (W : World) (hl : l.length ≤ 90000) (h : Ens W v l) :
    Calls Tryz.prog 19 #[.int .i64 n, v] W fun e w' => e = .returned (.bool (followsB n Sv.new l)) ∧ Upd [] W w' := by
  obtain ⟨ao, lcap, rfl, l1, l2, l3, l4, l5⟩ := h
  clear l2 l3 l4
  have H5 := Lib.hid l5
  clear l5 l1
  have HTH := Lib.hid (led_there W n)
  go_enter Tryz.func19, Tryz.ntmps19
  go_upto_region 2 with (refine wpList_store_mid rfl 31 (.tmp 5) (.tmp 9) rfl W.heap.size 0 (Tryz.zeroCells31.setIfInBounds 0 (.int .i64 n)) rfl rfl HTH.out (Tryz.ledI' n) (Tryz.ledO n) ?_)
  have HO : Hid (RFolMk W.heap.size W [] W.heap.size n l 0 ((W.alloc (.cells Tryz.zeroCells31 31 (0, 0))).setCells W.heap.size 0 (Tryz.zeroCells31.setIfInBounds 0 (.int .i64 n)).toList)) := Lib.hid ⟨.slice none 0 0, c0 n, [], Sv.new, by simp, by simp, LedC.new n, (led_new (own_start W).row0 n)⟩
  generalize (W.alloc (.cells Tryz.zeroCells31 31 (0, 0))).setCells W.heap.size 0 (Tryz.zeroCells31.setIfInBounds 0 (.int .i64 n)).toList = w1 at *
  generalize hp : W.heap.size = p at *
  clear HTH
  go_wp2_with fail
  go_loopw [12] (fun j wr => ∃ k : Nat, k ≤ l.length ∧ j = .int .i64 k ∧ Hid (RFolMk p W [] p n l k wr)) (fun j _ => l.length - (intOf j).toNat)
  case atStart => exact ⟨0, by omega, rfl, HO⟩
  case round =>
    clear HO
    obtain ⟨k, hk, rfl, HM⟩ := hrel
    obtain ⟨lv, c, es, sv, hel, hfo, hc, ho⟩ := HM.out
    by_cases hlt : k < l.length
    · have hkI : (k : Int) < (l.length : Int) := by omega
      have hk0 : (0 : Int) ≤ (k : Int) := by omega
      obtain ⟨b, o, rfl, hbs, hcs⟩ := H5.out (by omega)
      obtain ⟨q0, q1, q2, q3, q4, q5, q6⟩ := ens_cells (cells_below ho.below hbs hcs) k l[k] (by simp)
      have HQ := Lib.hid (fun (wx : World) (hx : Below p W wx) => ens_cells (cells_below hx hbs hcs) k l[k] (by simp))
      have HD := Lib.hid (follows_drop (n := n) (s := sv) hlt)
      generalize l[k] = en at *
      obtain ⟨⟨client, time, kind, key, val, sl⟩, res⟩ := en
      simp only at q0 q1 q2 q3 q4 q5 q6
      have HC := Lib.hid hc
      have HFO := Lib.hid hfo
      have H2 := Lib.hid (own_bat1 ho ⟨client, time, kind, key, val, sl⟩)
      have HR := Lib.hid (rrun_any (H2.out.perm (ss := ldB p c :: enR lv es :: batR (.slice (some ⟨wr.heap.size, 0, none⟩) 1 1) [⟨client, time, kind, key, val, sl⟩] :: []) (List.perm_append_comm (l₁ := [_]) (l₂ := [_, _]))) HC.out hn4 (by simp) (by omega))
      clear hcs HM ho hc hfo
      go_wp2_with fail
      refine HR.out.mono ?_
      rintro e w3 ⟨vo, c3, lv3, rfl, hc3, h3⟩
      rw [run_one] at hc3 h3
      have H3 := Lib.hid h3
      have HC3 := Lib.hid hc3
      obtain ⟨av, cv, rfl⟩ := row_shape (ownR_owns (h3.get 2 rfl))
      clear h3 hc3 HR H2 HC q0 q1 q2 q3 q4 q5 q6
      generalize hst : stepR n sv ⟨client, time, kind, key, val, sl⟩ = so at *
      obtain ⟨o1, s1⟩ := so
      simp only at HC3 H3
      cases o1 with
      | none =>
        have HF : Hid (followsB n Sv.new l = false) := Lib.hid (by rw [← HFO.out, HD.out]; rfl)
        clear hst HD HFO
        simp only [enOf, List.length_nil] at H3 ⊢
        go_wp2_with fail
        go_quiet (fail)
        go_wp2_with fail
        go_ret
        exact ⟨ret_bool HF.out.symm, Upd.of_below (by rw [hp]; exact bel_drewN H3.out.below _)⟩
      | some v1 =>
        simp only [enOf, List.length_singleton] at H3 ⊢
        have h4 := H3.out.perm (List.perm_append_comm (l₁ := [_, _]) (l₂ := [_]) |>.append_right _)
        obtain ⟨gv, rfl, -, -, h5⟩ := own_rowSeg (l := [⟨⟨client, time, kind, key, val, sl⟩, v1⟩]) h4 (by decide)
        obtain ⟨u0, u1, u2⟩ := segR_at h5.head
        clear h4 h5 u2
        have g0 := u1 0 (by simp [ensCells, enCells])
        have g1 := u1 1 (by simp [ensCells, enCells])
        have g2 := u1 2 (by simp [ensCells, enCells])
        have g3 := u1 3 (by simp [ensCells, enCells])
        have g4 := u1 4 (by simp [ensCells, enCells])
        have g5 := u1 5 (by simp [ensCells, enCells])
        have g6 := u1 6 (by simp [ensCells, enCells])
        clear u0 u1
        simp only [ensCells, List.flatMap_cons, List.flatMap_nil, List.append_nil, enCells, List.getElem?_cons_zero, List.getElem?_cons_succ] at g0 g1 g2 g3 g4 g5 g6
        obtain ⟨p0, p1, p2, p3, p4, p5, p6⟩ := HQ.out w3 H3.out.below
        have hgd := Tryz.guardEn
        by_cases he : v1 = res
        · subst he
          have heq : ∀ wx, (Op.equalIn 10000 40 (enAgg ⟨⟨client, time, kind, key, val, sl⟩, v1⟩) (enAgg ⟨⟨client, time, kind, key, val, sl⟩, v1⟩)).run Tryz.prog wx = .ok true wx := fun wx => by rw [run_equal_en]; simp
          have HF : Hid (followsB n s1 (l.drop (k + 1)) = followsB n Sv.new l) := Lib.hid (by rw [← HFO.out, HD.out]; simp)
          clear hst HD HFO HQ
          go_wp2_with fail
          go_quiet (fail)
          go_wp2_with fail
          go_roundw
          case rel => exact ⟨k + 1, by omega, by go_num, Lib.hid ⟨lv3, c3, _, s1, by simp; omega, HF.out, HC3.out, ((H3.out.dropAt 2 (by simp)).dropAt 2 (by simp)).upd0 ((Upd.refl _ _).drewN _)⟩⟩
          case measure => simp [intOf]; omega
        · have heq : ∀ wx, (Op.equalIn 10000 40 (enAgg ⟨⟨client, time, kind, key, val, sl⟩, v1⟩) (enAgg ⟨⟨client, time, kind, key, val, sl⟩, res⟩)).run Tryz.prog wx = .ok false wx := fun wx => by rw [run_equal_en]; simp [he]
          have HF : Hid (followsB n Sv.new l = false) := Lib.hid (by rw [← HFO.out, HD.out]; simp [he])
          clear hst HD HFO he HQ
          go_wp2_with fail
          go_quiet (fail)
          go_wp2_with fail
          go_ret
          exact ⟨ret_bool HF.out.symm, Upd.of_below (by rw [hp]; exact bel_drewN H3.out.below _)⟩
    · have hkl : k = l.length := by omega
      subst hkl
      have HF : Hid (followsB n Sv.new l = true) := Lib.hid (by rw [← hfo, List.drop_length]; rfl)
      have HO := Lib.hid ho
      have hkI : decide ((l.length : Int) < (l.length : Int)) = false := by simp
      clear hfo hc ho HM
      go_wp2_with fail
      go_ret
      exact ⟨ret_bool HF.out.symm, Upd.of_below (by rw [hp]; exact HO.out.below)⟩

end
end Go.Proofs.YtimdphlolmbhnaaGreat

/- The law AuditLogs: rows that are cut; the laws' parts. -/
namespace Go.Proofs.YtimdphlolmbhnaaGreat
open Go.RowKit Go.Heap

theorem bats_take {w : World} {ao : Option Addr} {n cap : Nat} {rs : List Rq} (h : Bat w (.slice ao n cap) rs) (m : Nat) (hm : m ≤ rs.length) : Bat w (.slice ao m cap) (rs.take m) := by
  obtain ⟨ao', cap', hv, h1, h2, h3, h4, h5⟩ := h
  simp only [Value.slice.injEq] at hv
  obtain ⟨rfl, rfl, rfl⟩ := hv
  have hl : (rs.take m).length = m := by simp; omega
  refine ⟨ao, cap, by rw [hl], by rw [hl]; omega, h2, by rw [rqsCells_length], fun e => ⟨by rw [hl]; have := (h4 e).1; omega, (h4 e).2⟩, fun h0 => ?_⟩
  rw [hl] at h0 ⊢
  obtain ⟨b, o, rfl, hb, hc⟩ := h5 (by omega)
  refine ⟨b, o, rfl, hb, fun j hj => ?_⟩
  rw [hc j (by omega)]
  have : rqsCells rs = rqsCells (rs.take m) ++ rqsCells (rs.drop m) := by rw [rqsCells, rqsCells, rqsCells, ← List.flatMap_append, List.take_append_drop]
  rw [this, List.getElem?_append_left (by rw [rqsCells_length, hl]; exact hj)]

theorem ens_take {w : World} {ao : Option Addr} {n cap : Nat} {rs : List En} (h : Ens w (.slice ao n cap) rs) (m : Nat) (hm : m ≤ rs.length) : Ens w (.slice ao m cap) (rs.take m) := by
  obtain ⟨ao', cap', hv, h1, h2, h3, h4, h5⟩ := h
  simp only [Value.slice.injEq] at hv
  obtain ⟨rfl, rfl, rfl⟩ := hv
  have hl : (rs.take m).length = m := by simp; omega
  refine ⟨ao, cap, by rw [hl], by rw [hl]; omega, h2, by rw [ens_len], fun e => ⟨by rw [hl]; have := (h4 e).1; omega, (h4 e).2⟩, fun h0 => ?_⟩
  rw [hl] at h0 ⊢
  obtain ⟨b, o, rfl, hb, hc⟩ := h5 (by omega)
  refine ⟨b, o, rfl, hb, fun j hj => ?_⟩
  rw [hc j (by omega)]
  have : ensCells rs = ensCells (rs.take m) ++ ensCells (rs.drop m) := by rw [ensCells, ensCells, ensCells, ← List.flatMap_append, List.take_append_drop]
  rw [this, List.getElem?_append_left (by rw [ens_len, hl]; exact hj)]

/-- A slice cut. -/
def cutV (k : Nat) : Value → Value
  | .slice a n c => .slice a (min n k) c
  | v => v
theorem cutV_at (a : Option Addr) (n c k : Nat) : cutV k (.slice a n c) = .slice a (min n k) c := rfl
theorem cutV_no {a : Option Addr} {n c k : Nat} (h : n ≤ k) : cutV k (.slice a n c) = .slice a n c := by rw [cutV_at, Nat.min_eq_left h]
theorem cutV_yes {a : Option Addr} {n c k : Nat} (h : k ≤ n) : cutV k (.slice a n c) = .slice a k c := by rw [cutV_at, Nat.min_eq_right h]
def cutLo (x : Lo) : Lo := ⟨cutV 20 x.v, x.es.take 20⟩
theorem ens_form {w : World} {v : Value} {l : List En} (h : Ens w v l) : ∃ ao cap, v = .slice ao l.length cap ∧ l.length ≤ cap ∧ cap ≤ maxLen := let ⟨ao, cap, hv, h1, h2, _⟩ := h; ⟨ao, cap, hv, h1, h2⟩
theorem ens_cut {w : World} {v : Value} {l : List En} (h : Ens w v l) (k : Nat) : Ens w (cutV k v) (l.take k) := by
  obtain ⟨ao, cap, rfl, -, -⟩ := ens_form h
  by_cases hk : k ≤ l.length
  · rw [cutV_yes hk]; exact ens_take h k hk
  · rw [cutV_no (by omega), List.take_of_length_le (by omega)]; exact h
theorem bat_cut {w : World} {v : Value} {l : List Rq} (h : Bat w v l) (k : Nat) : Bat w (cutV k v) (l.take k) := by
  obtain ⟨ao, cap, rfl⟩ := bat_form h
  by_cases hk : k ≤ l.length
  · rw [cutV_yes hk]; exact bats_take h k hk
  · rw [cutV_no (by omega), List.take_of_length_le (by omega)]; exact h

abbrev cutCells (xs : List Lo) : List Value := (xs.map cutLo).map Lo.v
theorem cut_next {xs : List Lo} {k : Nat} (hk : k < xs.length) : cutCells (xs.take (k + 1)) = cutCells (xs.take k) ++ [cutV 20 xs[k].v] := by
  have e : xs.take (k + 1) = xs.take k ++ [xs[k]] := by rw [List.take_add_one, List.getElem?_eq_getElem hk]; rfl
  rw [cutCells, e, List.map_append, List.map_append]
  rfl

/-- The rows so far. -/
def LogMk (B : Nat) (w0 : World) (xs : List Lo) (k : Nat) (v : Value) (w : World) : Prop := ∃ a c, v = .slice a k c ∧ Own B w0 w [ownR 29 1 (.slice a k c) k (cutCells (xs.take k))]

set_option maxHeartbeats 2000000 in
set_option maxRecDepth 100000 in
theorem logs_any (v : Value) (xs : List Lo) (W : World) (h : Logs W v xs) :
    Calls Tryz.prog 15 #[v] W fun e w' => ∃ v', e = .returned v' ∧ Upd [] W w' ∧ Logs w' v' ((xs.take 6).map cutLo) := by
  obtain ⟨e0, he, he1, he2, he3⟩ := info_parts Tryz.infoEs
  obtain ⟨ao, cap, hv, hcap, -⟩ := h.1
  subst hv
  have H0 := Lib.hid h
  clear h
  have hcap : (xs.length : Int) ≤ (cap : Int) := by omega
  have HS : Hid (LogMk W.heap.size W xs 0 (.slice none 0 0) W) := Lib.hid ⟨none, 0, rfl, (own_start W).row0⟩
  have HF : Hid (∀ (k : Nat) (v : Value) (w : World), LogMk W.heap.size W xs k v w → xs.take k = xs.take 6 → Upd [] W w ∧ Logs w v ((xs.take 6).map cutLo)) := Lib.hid (fun k v w hm he => by
    obtain ⟨a, c, rfl, ho⟩ := hm
    have hu : Upd [] W w := Upd.of_below ho.below
    refine ⟨hu, ?_, fun x hx => ?_⟩
    · have h1 := owns_reads (ownR_owns ho.head)
      have hl : k = ((xs.take 6).map cutLo).length := by
        have := ownR_owns ho.head
        have h2 := h1
        obtain ⟨_, _, hv, _, _, h3, _⟩ := h2
        rw [← he]
        simpa [cutCells] using h3.symm
      rw [← he]
      rw [← he] at hl
      rw [← hl]
      exact h1
    · obtain ⟨y, hy, rfl⟩ := List.mem_map.1 hx
      exact ens_cut ((H0.out.upd hu).2 y (List.mem_of_mem_take hy)) 20)
  go_enter Tryz.func15, Tryz.ntmps15
  go_wp2_with fail
  go_loopw [3, 4] (fun v j wr => ∃ k : Nat, k ≤ xs.length ∧ k ≤ 6 ∧ j = .int .i64 k ∧ Hid (LogMk W.heap.size W xs k v wr)) (fun _ j _ => 6 - (intOf j).toNat)
  case atStart => exact ⟨0, by omega, by omega, rfl, HS⟩
  case round =>
    clear HS
    obtain ⟨k, hk, hk6, rfl, HM⟩ := hrel
    by_cases hlt : k < xs.length
    · have hkI : (k : Int) < (xs.length : Int) := by omega
      by_cases hl6 : k < 6
      · have h6I : (k : Int) < 6 := by omega
        have hk0 : (0 : Int) ≤ (k : Int) := by omega
        obtain ⟨a, c, rfl, ho⟩ := HM.out
        have hu : Upd [] W wr := Upd.of_below ho.below
        obtain ⟨b, o, rfl, -, hcs⟩ := logs_cell (H0.out.upd hu).1 k hlt
        have q0 := hcs k hlt
        have hx := (H0.out.upd hu).2 xs[k] (List.getElem_mem hlt)
        obtain ⟨ax, cx, hxv, hx1, hx2⟩ := ens_form hx
        rw [hxv] at q0
        have HMX := Lib.hid (small_max (k := k) (by omega))
        have HM24 : Hid ((k + 1) * 24 ≤ 140737488355328) := Lib.hid (by omega)
        have hmx : xs[k].es.length ≤ 9223372036854775807 := by unfold maxLen at hx2; omega
        have HNX := Lib.hid (cut_next hlt)
        rw [hxv] at HNX
        have HO := Lib.hid ho
        clear hx hxv HM hu hcs ho hx2
        generalize xs[k].es.length = nx at *
        generalize cutCells (xs.take k) = cc at *
        by_cases h20 : 20 < nx
        · have h20I : (20 : Int) < (nx : Int) := by omega
          have h20J : (20 : Int) ≤ (cx : Int) := by omega
          have hmin : min (nx : Int) 20 = 20 := by omega
          rw [cutV_yes (by omega)] at HNX
          go_wp2_with fail
          refine Mix.wp_text2 (by kernel_rfl) (by kernel_rfl) ?_
          have q0 : wr.drew.cell? ⟨b, o + k, none⟩ = _ := q0
          have HO := Lib.hid HO.out.drew
          generalize wr.drew = wd at *
          have hd := HO.out.alloc (.cells #[.slice ax 20 cx] 29)
          have HD := Lib.hid hd
          have HW := Lib.hid (ownR_owns (hd.get 0 rfl))
          have HNW : Hid (∀ j u, [.slice ax 20 cx][j]? = some u → (wd.alloc (.cells #[.slice ax 20 cx] 29 (0, 0))).cell? ((⟨wd.heap.size, 0, none⟩ : Addr).add j) = some u) := Lib.hid (World.news_of_block (heap_alloc_new wd (.cells #[.slice ax 20 cx] 29 (0, 0))))
          have HON := Lib.hid (one_one (v := .slice ax 20 cx) rfl)
          clear hd
          go_wp2_with (at_builtin; refine wpList_append_lies _ rfl (.tmp 15) (.tmp 27) 49 rfl 0 29 e0 (.slice none 0 0) 1 24 Tryz.underlying49 he he1 he2 he3 rfl (by decide) _ k _ rfl HW.out ⟨wd.heap.size, 0, none⟩ 1 1 [.slice ax 20 cx] rfl rfl HNW.out HON.out (by decide) HMX.out HM24.out (Nat.zero_le _) _ rfl ?_)
          intro g9 cap9 w9 hown hgrow hat hlt9
          have h6 := HD.out.growAt 0 rfl hgrow (by simpa using hat) hown
          have HZ : Hid (LogMk W.heap.size W xs (k + 1) (.slice (some ⟨g9, 0, none⟩) (k + 1) cap9) w9) := Lib.hid ⟨_, _, rfl, by rw [HNX.out]; exact h6⟩
          clear hown hgrow hat hlt9 h6 HD HW HNW HON HMX HM24 HO HNX
          go_wp2_with fail
          refine ⟨by rfl, ?_⟩
          go_wp2_with fail
          go_roundw
          case rel => exact ⟨k + 1, by omega, by omega, by go_num, HZ⟩
          case measure => simp [intOf]; omega
        · have h20I : ¬ (20 : Int) < (nx : Int) := by omega
          have h20J : (nx : Int) ≤ 20 := by omega
          have hmin : min (nx : Int) 20 = (nx : Int) := by omega
          have h20K : (nx : Int) ≤ (cx : Int) := by omega
          rw [cutV_no (by omega)] at HNX
          go_wp2_with fail
          refine Mix.wp_text2 (by kernel_rfl) (by kernel_rfl) ?_
          have q0 : wr.drew.cell? ⟨b, o + k, none⟩ = _ := q0
          have HO := Lib.hid HO.out.drew
          generalize wr.drew = wd at *
          have hd := HO.out.alloc (.cells #[.slice ax nx cx] 29)
          have HD := Lib.hid hd
          have HW := Lib.hid (ownR_owns (hd.get 0 rfl))
          have HNW : Hid (∀ j u, [.slice ax nx cx][j]? = some u → (wd.alloc (.cells #[.slice ax nx cx] 29 (0, 0))).cell? ((⟨wd.heap.size, 0, none⟩ : Addr).add j) = some u) := Lib.hid (World.news_of_block (heap_alloc_new wd (.cells #[.slice ax nx cx] 29 (0, 0))))
          have HON := Lib.hid (one_one (v := .slice ax nx cx) rfl)
          clear hd
          go_wp2_with (at_builtin; refine wpList_append_lies _ rfl (.tmp 15) (.tmp 27) 49 rfl 0 29 e0 (.slice none 0 0) 1 24 Tryz.underlying49 he he1 he2 he3 rfl (by decide) _ k _ rfl HW.out ⟨wd.heap.size, 0, none⟩ 1 1 [.slice ax nx cx] rfl rfl HNW.out HON.out (by decide) HMX.out HM24.out (Nat.zero_le _) _ rfl ?_)
          intro g9 cap9 w9 hown hgrow hat hlt9
          have h6 := HD.out.growAt 0 rfl hgrow (by simpa using hat) hown
          have HZ : Hid (LogMk W.heap.size W xs (k + 1) (.slice (some ⟨g9, 0, none⟩) (k + 1) cap9) w9) := Lib.hid ⟨_, _, rfl, by rw [HNX.out]; exact h6⟩
          clear hown hgrow hat hlt9 h6 HD HW HNW HON HMX HM24 HO HNX
          go_wp2_with fail
          refine ⟨by rfl, ?_⟩
          go_wp2_with fail
          go_roundw
          case rel => exact ⟨k + 1, by omega, by omega, by go_num, HZ⟩
          case measure => simp [intOf]; omega
      · have h6 : k = 6 := by omega
        subst h6
        go_wp2_with fail
        go_ret
        exact ⟨_, rfl, HF.out _ _ _ HM.out rfl⟩
    · have hkl : k = xs.length := by omega
      subst hkl
      have hkI : decide ((xs.length : Int) < (xs.length : Int)) = false := by simp
      go_wp2_with fail
      go_ret
      exact ⟨_, rfl, HF.out _ _ _ HM.out (by rw [List.take_length, List.take_of_length_le hk6])⟩

end Go.Proofs.YtimdphlolmbhnaaGreat
