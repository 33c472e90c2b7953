/- Parts of the proof, one behind the other. -/
import Derived.Test.YtannckelmojkoaaGreatMovB27

/- psephoslaw21.NodeMoves: the walk. -/
namespace Go.Proofs.YtannckelmojkoaaGreat
open Go.RowKit Go.Heap

theorem nd_upd {W w : World} {x : Np} {s : Ns} {l : Nt} {ss : List Res} (h : NdIs W.heap.size W w x s l ss) : Upd [] W w := by
  obtain ⟨r, hs, -⟩ := h.side
  exact Upd.of_below hs.below
theorem othersN_all (id : Int) (h0 : 0 ≤ id) : ∀ (n : Nat), (othersN n id).length = if id < n then n - 1 else n
  | 0 => by simp [othersN]
  | n + 1 => by
    rw [othersN_step, List.length_append, othersN_all id h0 n]
    by_cases h1 : (n : Int) = id
    · rw [if_pos h1, if_neg (by omega), if_pos (by omega)]; simp
    · rw [if_neg h1]
      by_cases h2 : id < n
      · rw [if_pos h2, if_pos (by omega)]; simp; omega
      · rw [if_neg h2, if_neg (by omega)]; simp
theorem ninstalled_eq {B : Nat} {w0 W : World} {ss : List Res} {x : Np} {s : Ns} {l : Nt} (h : NdIs B w0 W x s l ss) : Calls Tryz.prog 25 #[ptrV x.p, .int .i64 0] W fun e w' => e = .returned (.bool (insAt s 0).on) ∧ W = w' := by
  have c18 := h.cell 18 rfl (by decide)
  have hcap := h.caps.1
  have hcI : (s.c.f : Int) + 1 ≤ (x.ic : Int) := by omega
  obtain ⟨i, hi, ci⟩ := h.iAt (k := 0) (by omega)
  have HI := Lib.hid (nd_installed h 0 (by omega) hi)
  clear h hcap
  go_enter Tryz.func25, Tryz.ntmps25
  go_wp2_with fail
  refine HI.out.mono ?_
  rintro e w' ⟨rfl, rfl⟩
  go_wp2_with fail
  go_ret
  exact ⟨rfl, rfl⟩
/-- The node has gone on, and what it has said lies to be taken. -/
def FinP (B : Nat) (w0 W : World) (x : Np) (f : Nat) (id v : Int) (rn : Nat) (ss : List Res) : Prop :=
  ∃ vs vo' l' vp' vt', l'.length ≤ 1000 ∧ vs.length = 2 * f + 1 ∧ Rises vs (3 * (f : Int) + 1) ∧ (∀ q ∈ vs, chkN l' q.1 (chgB q.1 v) q.2 = true ∧ 0 ≤ q.2 ∧ q.2 ≤ 1000000000) ∧ NtOk l' ∧
      NdIs B w0 W x { finS f id (v + 1) vs vo' (2 * f) l' with used := 2 * f + 1 } (sealL l' id (vcB id (v + 1) vs)) (rnR rn vp' vt' l' ss)
theorem outs_b {os : List Sd} {ks : List Int} {b : Bys} (h : os.map Sd.p = ks.map fun j => (j, b)) : os.length = ks.length ∧ ∀ (j : Nat) (hj : j < os.length), os[j].b = b := by
  refine ⟨by simpa using congrArg List.length h, fun j hj => ?_⟩
  have h1 : os[j].p ∈ os.map Sd.p := List.mem_map_of_mem (List.getElem_mem hj)
  rw [h] at h1
  obtain ⟨u, -, e⟩ := List.mem_map.1 h1
  exact (congrArg Prod.snd e).symm
theorem mv_ad {w : World} {b o q : Nat} {v t u n : Value} {ob : Obj} (h : w.drew.cell? ⟨b, o, none⟩ = some v ∧ w.drew.cell? ⟨q, 0, none⟩ = some n ∧ w.drew.cell? ⟨q + 1, 0, none⟩ = some u ∧ w.drew.cell? ⟨q + 1, 1, none⟩ = some t) : (w.alloc ob).drew.cell? ⟨b, o, none⟩ = some v ∧ (w.alloc ob).drew.cell? ⟨q, 0, none⟩ = some n ∧ (w.alloc ob).drew.cell? ⟨q + 1, 0, none⟩ = some u ∧ (w.alloc ob).drew.cell? ⟨q + 1, 1, none⟩ = some t := ⟨cell_allocd (w := w) h.1, cell_allocd (w := w) h.2.1, cell_allocd (w := w) h.2.2.1, cell_allocd (w := w) h.2.2.2⟩
abbrev stdO (f : Nat) : Obj := .cells (cfA (stdC f)) 30 (0, 0)

set_option maxHeartbeats 16000000 in
set_option maxRecDepth 100000 in
theorem moves_any (a0 a1 a2 a3 : Int) (W : World) :
    Calls Tryz.prog 5 #[.int .i64 a0, .int .i64 a1, .int .i64 a2, .int .i64 a3] W fun e w' => e = .returned (.bool true) ∧ Upd [] W w' := by
  have hm0 := emod_in a0 4 (by omega)
  obtain ⟨f, hf⟩ : ∃ f : Nat, 1 + a0 % 4 = f := ⟨(1 + a0 % 4).toNat, by omega⟩
  have hf1 : 1 ≤ f := by omega
  have hf2 : f ≤ 4 := by omega
  have hf1I : 1 ≤ (f : Int) := by omega
  have hf2I : (f : Int) ≤ 4 := by omega
  have HST := Lib.hid (start_any a0 a1 f hf1 hf2 hf (Own.start (Below.refl W.heap.size W) (Nat.le_refl _)))
  have hm1 := emod_in a1 (3 * (f : Int) + 1) (by omega)
  have hm2 := emod_in a2 12 (by omega)
  have hm3 := emod_in a3 2 (by omega)
  have HW1 := Lib.hid (fun w => Within_any a1 (3 * (f : Int) + 1) w (by omega) (by omega))
  have HW2 := Lib.hid (fun w => Within_any a2 12 w (by omega) (by omega))
  have HW3 := Lib.hid (fun w => Within_any a3 2 w (by omega) (by omega))
  generalize a1 % (3 * (f : Int) + 1) = id at *
  generalize a2 % 12 = v at *
  generalize a3 % 2 = fw at *
  have HNo := Lib.hid (fun w => rnodes_any (f : Int) w hf1I hf2I)
  obtain ⟨qf, hqf⟩ : ∃ qf : Int, qf = 2 * (f : Int) + 1 := ⟨_, rfl⟩
  have HQF := Lib.hid hqf
  have hq0 : 0 ≤ qf := by omega
  have hq1 : qf ≤ 9 := by omega
  have HQu : Hid (∀ w, Calls Tryz.prog 21 #[.int .i64 f] w fun e w' => e = .returned (.int .i64 qf) ∧ w = w') := Lib.hid (fun w => hqf ▸ rquorum_any (f : Int) w hf1I hf2I)
  clear hqf
  clear hf hm0
  go_enter Tryz.func5, Tryz.ntmps5
  go_wp2_with fail
  refine HST.out.mono ?_
  rintro e w1 ⟨x, rn, rfl, h1⟩
  have H2 := Lib.hid ((h1.box (twO x.nt rn)).box (stdO f))
  clear h1 HST
  go_upto_region 4 with fail
  generalize World.alloc (World.alloc w1 _) _ = w2 at *
  simp only [hs_alloc] at H2
  generalize w1.heap.size = q at *
  have H3 : Hid (NdIs W.heap.size W w2 x (votS f id (List.replicate (3 * f + 1) noVo) 0) [] (rnR rn (.slice none 0 0) (.slice none 0 0) [] [blk (q + 1) (stdO f), blk q (twO x.nt rn)])) := Lib.hid (H2.out.perm ((List.perm_append_comm (l₁ := [_, _]) (l₂ := [_, _, _])).append_right []))
  obtain ⟨r2, hs2, -⟩ := H3.out.side
  have c0 : w2.cell? ⟨q + 1, 0, none⟩ = some (.int .i64 f) := cell_blk (hs2.blkAt 3 rfl) 0 rfl
  clear hs2 H2
  go_wp2_with fail
  refine (HNo.out _).mono ?_
  rintro e w' ⟨rfl, rfl⟩
  go_wp2_with fail
  refine (HW1.out _).mono ?_
  rintro e w' ⟨rfl, rfl⟩
  go_wp2_with fail
  refine (HW2.out _).mono ?_
  rintro e w' ⟨rfl, rfl⟩
  go_wp2_with fail
  refine (HW3.out _).mono ?_
  rintro e w' ⟨rfl, rfl⟩
  clear c0 HW1 HW2 HW3
  have hfw : fw = 1 ∨ fw = 0 := by omega
  rcases hfw with rfl | rfl
  · clear hm3
    go_wp2_with fail
    go_loopw [13, 14] (fun kv iv wr => ∃ (i k : Nat) (vo : List Vo) (l : Nt) (vp vt : Value), k ≤ 2 * f ∧ ((i = k ∧ (i : Int) ≤ id) ∨ (i = k + 1 ∧ id < i)) ∧ kv = .int .i64 k ∧ iv = .int .i64 i ∧ Hid (MvS f id v i k vo l) ∧ Hid (NdIs W.heap.size W wr x (votS f id vo k) l (rnR rn vp vt l [blk (q + 1) (stdO f), blk q (twO x.nt rn)]))) (fun kv iv _ => 3 * f + 3 - (intOf iv).toNat)
    case atStart => exact ⟨0, 0, _, _, _, _, by omega, .inl ⟨rfl, by omega⟩, rfl, rfl, Lib.hid (mvs_zero f id v), H3⟩
    case round =>
      clear H3
      obtain ⟨i, k, vo, l, vp, vt, hk, hik, rfl, rfl, HM, H⟩ := hrel
      obtain ⟨rr, hsr, -⟩ := H.out.side
      have c0 : wr.cell? ⟨q + 1, 0, none⟩ = some (.int .i64 f) := cell_blk (hsr.blkAt 3 rfl) 0 rfl
      have t0 : wr.cell? ⟨q, 0, none⟩ = some (.pointer (some ⟨x.nt, 0, none⟩)) := cell_blk (hsr.blkAt 4 rfl) 0 rfl
      have t1 : wr.cell? ⟨q, 1, none⟩ = some (.pointer (some ⟨rn, 0, none⟩)) := cell_blk (hsr.blkAt 4 rfl) 1 rfl
      have hk0 : (0 : Int) ≤ k := by omega
      have hkB : (k : Int) ≤ 20 := by omega
      have hi0 : (0 : Int) ≤ i := by omega
      have hiB : (i : Int) ≤ 20 := by omega
      clear hsr
      by_cases hlt : k < 2 * f
      · have hkI : (k : Int) < qf - 1 := by have := HQF.out; omega
        by_cases hie : (i : Int) = id
        · have hne : ((i : Int) != id) = false := by simp [hie]
          have hik2 : i = k := by omega
          have HIE := Lib.hid hie
          have HIK := Lib.hid hik2
          clear hie hik hik2
          go_wp2_with fail
          refine (HQu.out _).mono ?_
          rintro e w' ⟨rfl, rfl⟩
          go_wp2_with fail
          go_roundw
          case rel => exact ⟨i + 1, k, vo, l, vp, vt, hk, .inr ⟨by have := HIK.out; omega, by have := HIE.out; omega⟩, rfl, by go_num, Lib.hid HM.out.skip, H⟩
          case measure => have := HIK.out; simp [intOf]; omega
        · have hne : ((i : Int) != id) = true := by simp [hie]
          have HG := Lib.hid (give_few H.out HM.out (by omega) hie (by omega) (by omega) hf1 hf2 (by omega))
          have HIE := Lib.hid hie
          have HIK := Lib.hid hik
          clear hie hik
          go_wp2_with fail
          refine (HQu.out _).mono ?_
          rintro e w' ⟨rfl, rfl⟩
          go_wp2_with fail
          refine HG.out.mono ?_
          rintro e w5 ⟨rfl, vo', l', vp', vt', hM5, h5⟩
          have HM5 := Lib.hid hM5
          have H5 := Lib.hid h5
          clear hM5 h5 HG c0 t0 t1 H HM
          go_wp2_with fail
          go_roundw
          case rel => exact ⟨i + 1, k + 1, vo', l', vp', vt', by omega, by have := HIE.out; have := HIK.out; omega, by go_num, by go_num, HM5, H5⟩
          case measure => have := HIK.out; simp [intOf]; omega
      · have hkI : decide ((k : Int) < qf - 1) = false := by have := HQF.out; simp; omega
        have HO := Lib.hid (nout_any H.out)
        clear t0 t1 hik
        go_wp2_with fail
        refine (HQu.out _).mono ?_
        rintro e w' ⟨rfl, rfl⟩
        go_wp2_with fail
        refine HO.out.mono ?_
        rintro e w6 ⟨oa, ok, os, rfl, hos, h6⟩
        obtain rfl : os = [] := List.map_eq_nil_iff.1 hos
        have HK := Lib.hid (kinds_any (ks := []) rfl (fun j hj => absurd hj (by simp)) (by simp) h6)
        rw [show (intC (kindsL [])).toArray = #[.int .i64 0, .int .i64 0, .int .i64 0, .int .i64 0, .int .i64 0, .int .i64 0, .int .i64 0, .int .i64 0, .int .i64 0, .int .i64 0, .int .i64 0] from rfl] at HK
        obtain ⟨r6, hs6, -⟩ := h6.side
        have f0 : w6.cell? ⟨q + 1, 0, none⟩ = some (.int .i64 f) := cell_blk (hs6.blkAt 5 rfl) 0 rfl
        have f1 : w6.cell? ⟨q + 1, 1, none⟩ = some (.int .i64 2) := cell_blk (hs6.blkAt 5 rfl) 1 rfl
        have f2 : w6.cell? ⟨q + 1, 2, none⟩ = some (.int .i64 2) := cell_blk (hs6.blkAt 5 rfl) 2 rfl
        have f3 : w6.cell? ⟨q + 1, 3, none⟩ = some (.int .i64 4) := cell_blk (hs6.blkAt 5 rfl) 3 rfl
        have f4 : w6.cell? ⟨q + 1, 4, none⟩ = some (.int .i64 64) := cell_blk (hs6.blkAt 5 rfl) 4 rfl
        have f5 : w6.cell? ⟨q + 1, 5, none⟩ = some (.int .i64 8) := cell_blk (hs6.blkAt 5 rfl) 5 rfl
        have f6 : w6.cell? ⟨q + 1, 6, none⟩ = some (.int .i64 8) := cell_blk (hs6.blkAt 5 rfl) 6 rfl
        have f7 : w6.cell? ⟨q + 1, 7, none⟩ = some (.int .i64 8) := cell_blk (hs6.blkAt 5 rfl) 7 rfl
        have f8 : w6.cell? ⟨q + 1, 8, none⟩ = some (.int .i64 1) := cell_blk (hs6.blkAt 5 rfl) 8 rfl
        have f9 : w6.cell? ⟨q + 1, 9, none⟩ = some (.int .i64 2) := cell_blk (hs6.blkAt 5 rfl) 9 rfl
        have f10 : w6.cell? ⟨q + 1, 10, none⟩ = some (.int .i64 12) := cell_blk (hs6.blkAt 5 rfl) 10 rfl
        have f11 : w6.cell? ⟨q + 1, 11, none⟩ = some (.int .i64 8) := cell_blk (hs6.blkAt 5 rfl) 11 rfl
        have f12 : w6.cell? ⟨q + 1, 12, none⟩ = some (.int .i64 6) := cell_blk (hs6.blkAt 5 rfl) 12 rfl
        have f13 : w6.cell? ⟨q + 1, 13, none⟩ = some (.int .i64 2) := cell_blk (hs6.blkAt 5 rfl) 13 rfl
        have f14 : w6.cell? ⟨q + 1, 14, none⟩ = some (.int .i64 6) := cell_blk (hs6.blkAt 5 rfl) 14 rfl
        have t0 : w6.cell? ⟨q, 0, none⟩ = some (.pointer (some ⟨x.nt, 0, none⟩)) := cell_blk (hs6.blkAt 6 rfl) 0 rfl
        clear hs6 hos h6 HO H c0
        simp only [List.length_nil] at HK ⊢
        go_wp2_with fail
        refine HK.out.mono ?_
        rintro e w7 ⟨rfl, h7⟩
        have H8 := Lib.hid (h7.box (.cells #[.int .i64 0, .int .i64 0, .int .i64 0, .int .i64 0, .int .i64 0, .int .i64 0, .int .i64 0, .int .i64 0, .int .i64 0, .int .i64 0, .int .i64 0] 84 (0, 0)))
        clear h7 HK f0 f1 f2 f3 f4 f5 f6 f7 f8 f9 f10 f11 f12 f13 f14 t0
        go_upto_region 16 with fail
        generalize World.alloc w7 _ = w8 at *
        have HV : Hid (Calls Tryz.prog 24 #[ptrV x.p] w8 fun e w' => e = .returned (.int .i64 0) ∧ w8 = w') := Lib.hid (nview_any H8.out)
        have HVO : Hid (Calls Tryz.prog 40 #[ptrV x.p] w8 fun e w' => e = .returned (.int .i64 (-1)) ∧ w8 = w') := Lib.hid (nvoted_any H8.out)
        have HU := Lib.hid (nd_upd H8.out)
        clear H8
        go_wp2_with fail
        refine HV.out.mono ?_
        rintro e w' ⟨rfl, rfl⟩
        go_wp2_with fail
        refine HVO.out.mono ?_
        rintro e w' ⟨rfl, rfl⟩
        go_wp2_with fail
        refine (wakes21_any _).mono ?_
        rintro e w9 ⟨rfl, hu9⟩
        have HU9 := Lib.hid (HU.out.trans hu9)
        clear hu9
        go_wp2_with fail
        go_ret
        exact ⟨rfl, HU9.out⟩
  · clear hm3
    go_wp2_with fail
    go_loopw [13, 14] (fun kv iv wr => ∃ (i k : Nat), k ≤ 2 * f + 1 ∧ ((i = k ∧ (i : Int) ≤ id) ∨ (i = k + 1 ∧ id < i)) ∧ kv = .int .i64 k ∧ iv = .int .i64 i ∧ Hid ((k ≤ 2 * f ∧ ∃ (vo : List Vo) (l : Nt) (vp vt : Value), MvS f id v i k vo l ∧ NdIs W.heap.size W wr x (votS f id vo k) l (rnR rn vp vt l [blk (q + 1) (stdO f), blk q (twO x.nt rn)])) ∨ (k = 2 * f + 1 ∧ FinP W.heap.size W wr x f id v rn [blk (q + 1) (stdO f), blk q (twO x.nt rn)]))) (fun kv iv _ => 3 * f + 3 - (intOf iv).toNat)
    case atStart => exact ⟨0, 0, by omega, .inl ⟨rfl, by omega⟩, rfl, rfl, Lib.hid (.inl ⟨by omega, _, _, _, _, mvs_zero f id v, H3.out⟩)⟩
    case round =>
      clear H3
      obtain ⟨i, k, hk, hik, rfl, rfl, HR⟩ := hrel
      have hk0 : (0 : Int) ≤ k := by omega
      have hkB : (k : Int) ≤ 20 := by omega
      have hi0 : (0 : Int) ≤ i := by omega
      have hiB : (i : Int) ≤ 20 := by omega
      by_cases hlt : k < 2 * f + 1
      · obtain ⟨vo, l, vp, vt, hM, h⟩ : ∃ (vo : List Vo) (l : Nt) (vp vt : Value), MvS f id v i k vo l ∧ NdIs W.heap.size W wr x (votS f id vo k) l (rnR rn vp vt l [blk (q + 1) (stdO f), blk q (twO x.nt rn)]) := by
          rcases HR.out with h | h
          · exact h.2
          · omega
        have HM := Lib.hid hM
        have H := Lib.hid h
        obtain ⟨rr, hsr, -⟩ := H.out.side
        have c0 : wr.cell? ⟨q + 1, 0, none⟩ = some (.int .i64 f) := cell_blk (hsr.blkAt 3 rfl) 0 rfl
        have t0 : wr.cell? ⟨q, 0, none⟩ = some (.pointer (some ⟨x.nt, 0, none⟩)) := cell_blk (hsr.blkAt 4 rfl) 0 rfl
        have t1 : wr.cell? ⟨q, 1, none⟩ = some (.pointer (some ⟨rn, 0, none⟩)) := cell_blk (hsr.blkAt 4 rfl) 1 rfl
        clear hsr hM h
        have hkI : (k : Int) < qf := by have := HQF.out; omega
        by_cases hie : (i : Int) = id
        · have hne : ((i : Int) != id) = false := by simp [hie]
          have hik2 : i = k := by omega
          have HIE := Lib.hid hie
          have HIK := Lib.hid hik2
          clear hie hik hik2
          go_wp2_with fail
          refine (HQu.out _).mono ?_
          rintro e w' ⟨rfl, rfl⟩
          go_wp2_with fail
          go_roundw
          case rel => exact ⟨i + 1, k, hk, .inr ⟨by have := HIK.out; omega, by have := HIE.out; omega⟩, rfl, by go_num, Lib.hid (.inl ⟨by omega, vo, l, vp, vt, HM.out.skip, H.out⟩)⟩
          case measure => have := HIK.out; simp [intOf]; omega
        · have hne : ((i : Int) != id) = true := by simp [hie]
          have HG : Hid (Calls Tryz.prog 23 #[ptrV x.p, .agg (twA x.nt rn), .agg (mmA (chgMm i v))] wr fun e w' => e = .returned (.tuple #[]) ∧ Hid ((k + 1 ≤ 2 * f ∧ ∃ (vo : List Vo) (l : Nt) (vp vt : Value), MvS f id v (i + 1) (k + 1) vo l ∧ NdIs W.heap.size W w' x (votS f id vo (k + 1)) l (rnR rn vp vt l [blk (q + 1) (stdO f), blk q (twO x.nt rn)])) ∨ (k + 1 = 2 * f + 1 ∧ FinP W.heap.size W w' x f id v rn [blk (q + 1) (stdO f), blk q (twO x.nt rn)]))) := Lib.hid (by
            by_cases hkk : k + 1 < 2 * f + 1
            · refine (give_few H.out HM.out (by omega) hie (by omega) (by omega) hf1 hf2 hkk).mono ?_
              rintro e w' ⟨he, vo', l', vp', vt', hM5, h5⟩
              exact ⟨he, Lib.hid (.inl ⟨by omega, vo', l', vp', vt', hM5, h5⟩)⟩
            · obtain rfl : k = 2 * f := by omega
              refine (give_last H.out HM.out (by omega) hie (by omega) (by omega) (by omega) (by omega) hf1 hf2).mono ?_
              rintro e w' ⟨he, h5⟩
              exact ⟨he, Lib.hid (.inr ⟨rfl, h5⟩)⟩)
          have HIE := Lib.hid hie
          have HIK := Lib.hid hik
          clear hie hik HR
          go_wp2_with fail
          refine (HQu.out _).mono ?_
          rintro e w' ⟨rfl, rfl⟩
          go_wp2_with fail
          refine HG.out.mono ?_
          rintro e w5 ⟨rfl, H5⟩
          clear HG c0 t0 t1 H HM
          go_wp2_with fail
          go_roundw
          case rel => exact ⟨i + 1, k + 1, by omega, by have := HIE.out; have := HIK.out; omega, by go_num, by go_num, H5⟩
          case measure => have := HIK.out; simp [intOf]; omega
      · have hkI : decide ((k : Int) < qf) = false := by have := HQF.out; simp; omega
        obtain ⟨vs, vo', l', vp', vt', hl', hvl, hri, hck, hok', h⟩ : FinP W.heap.size W wr x f id v rn [blk (q + 1) (stdO f), blk q (twO x.nt rn)] := by
          rcases HR.out with h | h
          · omega
          · exact h.2
        have H := Lib.hid h
        obtain ⟨rr, hsr, -⟩ := h.side
        have c0 : wr.cell? ⟨q + 1, 0, none⟩ = some (.int .i64 f) := cell_blk (hsr.blkAt 3 rfl) 0 rfl
        have HO := Lib.hid (nout_any H.out)
        have HCK := Lib.hid hck
        have HOK := Lib.hid hok'
        have HRI := Lib.hid hri
        have HVL := Lib.hid hvl
        obtain ⟨hopen, -⟩ := (vc_open (cl := 2) (l := l') (f := f) (id := id) (w := v + 1) (by omega) hf2 (by omega) (by omega) (by omega) (by omega) hvl hri (fun q hq => (hck q hq).2)).2
        have HOP := Lib.hid hopen
        clear h hsr hck hok' hik HR hri hvl hopen
        go_wp2_with fail
        refine (HQu.out _).mono ?_
        rintro e w' ⟨rfl, rfl⟩
        go_wp2_with fail
        refine HO.out.mono ?_
        rintro e w6 ⟨oa, ok, os, rfl, hos, h6⟩
        have hos2 : os.map Sd.p = (othersN (3 * f + 1) id).map fun j => (j, givE l' id (vcB id (v + 1) vs)) := hos
        obtain ⟨hol0, hob⟩ := outs_b hos2
        have hol : os.length = 3 * f := by
          rw [othersN_all id (by omega), if_pos (by omega)] at hol0
          omega
        have HK := Lib.hid (kinds_any (ks := List.replicate os.length 7) (by simp) (fun j hj hj2 => ⟨vcM id (v + 1) vs [], sealN l' id (vcB id (v + 1) vs), by rw [hob j hj]; exact HOP.out, by simp [vcM], by simp, by simp⟩) (by omega) h6)
        rw [kindsL_sevens] at HK
        rw [show (intC [0, 0, 0, 0, 0, 0, 0, (os.length : Int), 0, 0, 0]).toArray = #[.int .i64 0, .int .i64 0, .int .i64 0, .int .i64 0, .int .i64 0, .int .i64 0, .int .i64 0, .int .i64 os.length, .int .i64 0, .int .i64 0, .int .i64 0] from rfl] at HK
        obtain ⟨r6, hs6, -⟩ := h6.side
        have f0 : w6.cell? ⟨q + 1, 0, none⟩ = some (.int .i64 f) := cell_blk (hs6.blkAt 5 rfl) 0 rfl
        have f1 : w6.cell? ⟨q + 1, 1, none⟩ = some (.int .i64 2) := cell_blk (hs6.blkAt 5 rfl) 1 rfl
        have f2 : w6.cell? ⟨q + 1, 2, none⟩ = some (.int .i64 2) := cell_blk (hs6.blkAt 5 rfl) 2 rfl
        have f3 : w6.cell? ⟨q + 1, 3, none⟩ = some (.int .i64 4) := cell_blk (hs6.blkAt 5 rfl) 3 rfl
        have f4 : w6.cell? ⟨q + 1, 4, none⟩ = some (.int .i64 64) := cell_blk (hs6.blkAt 5 rfl) 4 rfl
        have f5 : w6.cell? ⟨q + 1, 5, none⟩ = some (.int .i64 8) := cell_blk (hs6.blkAt 5 rfl) 5 rfl
        have f6 : w6.cell? ⟨q + 1, 6, none⟩ = some (.int .i64 8) := cell_blk (hs6.blkAt 5 rfl) 6 rfl
        have f7 : w6.cell? ⟨q + 1, 7, none⟩ = some (.int .i64 8) := cell_blk (hs6.blkAt 5 rfl) 7 rfl
        have f8 : w6.cell? ⟨q + 1, 8, none⟩ = some (.int .i64 1) := cell_blk (hs6.blkAt 5 rfl) 8 rfl
        have f9 : w6.cell? ⟨q + 1, 9, none⟩ = some (.int .i64 2) := cell_blk (hs6.blkAt 5 rfl) 9 rfl
        have f10 : w6.cell? ⟨q + 1, 10, none⟩ = some (.int .i64 12) := cell_blk (hs6.blkAt 5 rfl) 10 rfl
        have f11 : w6.cell? ⟨q + 1, 11, none⟩ = some (.int .i64 8) := cell_blk (hs6.blkAt 5 rfl) 11 rfl
        have f12 : w6.cell? ⟨q + 1, 12, none⟩ = some (.int .i64 6) := cell_blk (hs6.blkAt 5 rfl) 12 rfl
        have f13 : w6.cell? ⟨q + 1, 13, none⟩ = some (.int .i64 2) := cell_blk (hs6.blkAt 5 rfl) 13 rfl
        have f14 : w6.cell? ⟨q + 1, 14, none⟩ = some (.int .i64 6) := cell_blk (hs6.blkAt 5 rfl) 14 rfl
        have t0 : w6.cell? ⟨q, 0, none⟩ = some (.pointer (some ⟨x.nt, 0, none⟩)) := cell_blk (hs6.blkAt 6 rfl) 0 rfl
        have HOL := Lib.hid hol
        have HOB := Lib.hid hob
        have holI : (os.length : Int) = 3 * f := by omega
        have hn0 : (0 : Int) ≤ os.length := by omega
        have hnB : (os.length : Int) ≤ 20 := by omega
        have HOI := Lib.hid holI
        clear hs6 hos hos2 h6 HO H c0 hol hol0 hob holI
        go_wp2_with fail
        refine HK.out.mono ?_
        rintro e w7 ⟨rfl, h7⟩
        have H8 := Lib.hid (h7.box (.cells #[.int .i64 0, .int .i64 0, .int .i64 0, .int .i64 0, .int .i64 0, .int .i64 0, .int .i64 0, .int .i64 os.length, .int .i64 0, .int .i64 0, .int .i64 0] 84 (0, 0)))
        clear h7 HK f0 f1 f2 f3 f4 f5 f6 f7 f8 f9 f10 f11 f12 f13 f14 t0
        go_upto_region 17 with fail
        generalize World.alloc w7 _ = w8 at *
        generalize w7.heap.size = q8 at *
        have HV : Hid (∀ n, Calls Tryz.prog 24 #[ptrV x.p] (w8.drewN n) fun e w' => e = .returned (.int .i64 (v + 1)) ∧ w8.drewN n = w') := Lib.hid (fun n => nview_any (H8.out.drewN n))
        have HVO : Hid (∀ n, Calls Tryz.prog 40 #[ptrV x.p] (w8.drewN n) fun e w' => e = .returned (.int .i64 (-1)) ∧ w8.drewN n = w') := Lib.hid (fun n => nvoted_any (H8.out.drewN n))
        have HIN : Hid (∀ n, Calls Tryz.prog 25 #[ptrV x.p, .int .i64 0] (w8.drewN n) fun e w' => e = .returned (.bool false) ∧ w8.drewN n = w') := Lib.hid (fun n => by
          refine (ninstalled_eq (H8.out.drewN n)).mono ?_
          rintro e w' ⟨he, hw⟩
          exact ⟨he.trans (congrArg (fun b => Ending.returned (Value.bool b)) (fin_off (f := f) (id := id) (w := v + 1) (vs := vs) (vo := vo') (k := 2 * f) (l := l') (by omega) (by omega))), hw⟩)
        obtain ⟨nn, hnn⟩ : ∃ nn : Int, nn = 3 * (f : Int) + 1 := ⟨_, rfl⟩
        have HNN : Hid (∀ w, Calls Tryz.prog 17 #[.int .i64 f] w fun e w' => e = .returned (.int .i64 nn) ∧ w = w') := Lib.hid (fun w => hnn ▸ rnodes_any (f : Int) w hf1I hf2I)
        have hnn0 : 0 ≤ nn := by omega
        have hnn1 : nn ≤ 20 := by omega
        have hnb : ((os.length : Int) != nn - 1) = false := by have := HOI.out; simp; omega
        obtain ⟨r8, hs8, -⟩ := H8.out.side
        have c0 : w8.cell? ⟨q + 1, 0, none⟩ = some (.int .i64 f) := cell_blk (hs8.blkAt 6 rfl) 0 rfl
        have c7 : w8.cell? ⟨q8, 7, none⟩ = some (.int .i64 os.length) := cell_blk (hs8.blkAt 0 rfl) 7 rfl
        clear hs8 hnn
        go_quiet (first | (go_at_call 24; exact quiet_eq (HV.out _)) | (go_at_call 40; exact quiet_eq (HVO.out _)) | (go_at_call 25; exact quiet_eq (HIN.out _)) | (go_at_call 17; exact quiet_eq (HNN.out _)))
        clear HV HVO HIN HNN hnb c0 c7
        have H9 := Lib.hid (H8.out.drewN nq)
        clear H8
        generalize World.drewN w8 nq = w9 at *
        obtain ⟨r9, hs9, -⟩ := H9.out.side
        obtain ⟨ao9, cap9, hv9, -, -, -, -, hcl9⟩ := red_reads (k := 1) hs9 rfl
        simp only [Value.slice.injEq] at hv9
        have hpos : 0 < os.length := by have := HOL.out; omega
        obtain ⟨b, o, hao, hbl, hcell⟩ := hcl9 (by omega)
        rw [← hv9.1] at hao
        subst hao
        clear hv9
        have hrd := rd_sd (o := os[0]) (List.getElem_mem hpos) (ss := (blk q8 (.cells #[.int .i64 0, .int .i64 0, .int .i64 0, .int .i64 0, .int .i64 0, .int .i64 0, .int .i64 0, .int .i64 os.length, .int .i64 0, .int .i64 0, .int .i64 0] 84 (0, 0)) :: redR (.slice (some ⟨b, o, none⟩) os.length ok) 2 os.length (os.flatMap sdC) :: sdsR os :: rnR rn vp' vt' l' [blk (q + 1) (stdO f), blk q (twO x.nt rn)])) (by simp) hs9 (fun r hr => by simp only [List.mem_append]; exact .inl hr)
        obtain ⟨bo, bk, hbv, -, -⟩ := hrd.f
        have hcv : w9.cell? ⟨b, o + 1, none⟩ = some (.slice bo os[0].b.length bk) := by
          have h1 := hcell 1 (by omega)
          have h2 := flat_at sdC 2 (fun _ => rfl) os 0 1 hpos (by omega)
          rw [show 0 * 2 + 1 = 1 from rfl] at h2
          rw [h2] at h1
          rw [← hbv]
          exact h1.trans rfl
        have HRD := Lib.hid hrd
        have ho : openP (sealL l' id (vcB id (v + 1) vs)) f 2 os[0].b = some (vcM id (v + 1) vs [], sealN l' id (vcB id (v + 1) vs)) := by rw [HOB.out 0 hpos]; exact HOP.out
        rw [hbv] at hrd
        have HP1 := Lib.hid (nopen_some H9.out.drew hrd ho)
        have HP2 := Lib.hid (nopen_some (H9.out.box (.cells #[.int .i64 0, .int .i64 0, .int .i64 0, .int .i64 0, .int .i64 0, .int .i64 0, .slice none 0 0, .slice none 0 0, .slice none 0 0, .slice none 0 0] 47 (0, 0))).drew (hrd.sub (fun q hq => List.mem_cons_of_mem _ hq)) ho)
        have n0 : w9.cell? ⟨q, 0, none⟩ = some (.pointer (some ⟨x.nt, 0, none⟩)) := cell_blk (hs9.blkAt 7 rfl) 0 rfl
        have f0 : w9.cell? ⟨q + 1, 0, none⟩ = some (.int .i64 f) := cell_blk (hs9.blkAt 6 rfl) 0 rfl
        have f1 : w9.cell? ⟨q + 1, 1, none⟩ = some (.int .i64 2) := cell_blk (hs9.blkAt 6 rfl) 1 rfl
        generalize os[0].b.length = bl at *
        have HQ : Hid (∀ (w' : World) (hd : List Res), NdIs W.heap.size W w' x { { finS f id (v + 1) vs vo' (2 * f) l' with used := 2 * f + 1 } with out := [] } (sealL l' id (vcB id (v + 1) vs)) (hd ++ (blk q8 (.cells #[.int .i64 0, .int .i64 0, .int .i64 0, .int .i64 0, .int .i64 0, .int .i64 0, .int .i64 0, .int .i64 os.length, .int .i64 0, .int .i64 0, .int .i64 0] 84 (0, 0)) :: redR (.slice (some ⟨b, o, none⟩) os.length ok) 2 os.length (os.flatMap sdC) :: sdsR os :: rnR rn vp' vt' l' [blk (q + 1) (stdO f), blk q (twO x.nt rn)])) → w'.cell? ⟨b, o + 1, none⟩ = some (.slice bo bl bk) ∧ w'.cell? ⟨q, 0, none⟩ = some (.pointer (some ⟨x.nt, 0, none⟩)) ∧ w'.cell? ⟨q + 1, 0, none⟩ = some (.int .i64 f) ∧ w'.cell? ⟨q + 1, 1, none⟩ = some (.int .i64 2)) := Lib.hid (fun w' hd h => by
          obtain ⟨r', hs', -⟩ := h.side
          have e : ∀ (i : Nat) (r : Res), (blk q8 (.cells #[.int .i64 0, .int .i64 0, .int .i64 0, .int .i64 0, .int .i64 0, .int .i64 0, .int .i64 0, .int .i64 os.length, .int .i64 0, .int .i64 0, .int .i64 0] 84 (0, 0)) :: redR (.slice (some ⟨b, o, none⟩) os.length ok) 2 os.length (os.flatMap sdC) :: sdsR os :: rnR rn vp' vt' l' [blk (q + 1) (stdO f), blk q (twO x.nt rn)])[i]? = some r → ((hd ++ (blk q8 (.cells #[.int .i64 0, .int .i64 0, .int .i64 0, .int .i64 0, .int .i64 0, .int .i64 0, .int .i64 0, .int .i64 os.length, .int .i64 0, .int .i64 0, .int .i64 0] 84 (0, 0)) :: redR (.slice (some ⟨b, o, none⟩) os.length ok) 2 os.length (os.flatMap sdC) :: sdsR os :: rnR rn vp' vt' l' [blk (q + 1) (stdO f), blk q (twO x.nt rn)])) ++ [r'])[hd.length + i]? = some r := fun i r he => by
            rw [List.append_assoc, List.getElem?_append_right (by omega), Nat.add_sub_cancel_left, List.getElem?_append_left (List.getElem?_eq_some_iff.1 he).1]
            exact he
          have hb := hs'.blkAt (hd.length + 6) (e 6 _ rfl)
          have hb7 := hs'.blkAt (hd.length + 7) (e 7 _ rfl)
          obtain ⟨ao1, cap1, hv1, -, -, -, -, hcl1⟩ := red_reads hs' (e 1 _ rfl)
          simp only [Value.slice.injEq] at hv1
          obtain ⟨b1, o1, hao1, -, hcell1⟩ := hcl1 (by omega)
          rw [← hv1.1] at hao1
          simp only [Option.some.injEq, Addr.mk.injEq] at hao1
          obtain ⟨rfl, rfl, -⟩ := hao1
          refine ⟨?_, cell_blk hb7 0 rfl, cell_blk hb 0 rfl, cell_blk hb 1 rfl⟩
          have h1 := hcell1 1 (by omega)
          have h2 := flat_at sdC 2 (fun _ => rfl) os 0 1 hpos (by omega)
          rw [show 0 * 2 + 1 = 1 from rfl] at h2
          rw [h2] at h1
          rw [← hbv]
          exact h1.trans rfl)
        have HE0 : Hid (∀ (w' : World) (mm : Mm), NdIs W.heap.size W w' x { { finS f id (v + 1) vs vo' (2 * f) l' with used := 2 * f + 1 } with out := [] } (sealL l' id (vcB id (v + 1) vs)) (mmR mm (blk q8 (.cells #[.int .i64 0, .int .i64 0, .int .i64 0, .int .i64 0, .int .i64 0, .int .i64 0, .int .i64 0, .int .i64 os.length, .int .i64 0, .int .i64 0, .int .i64 0] 84 (0, 0)) :: redR (.slice (some ⟨b, o, none⟩) os.length ok) 2 os.length (os.flatMap sdC) :: sdsR os :: rnR rn vp' vt' l' [blk (q + 1) (stdO f), blk q (twO x.nt rn)])) → _) := Lib.hid (fun w' mm h => HQ.out w' [_, _, _, _, _, _] h)
        have HE1 : Hid (∀ (w' : World) (mm : Mm) (qq : Nat) (ob : Obj), NdIs W.heap.size W w' x { { finS f id (v + 1) vs vo' (2 * f) l' with used := 2 * f + 1 } with out := [] } (sealL l' id (vcB id (v + 1) vs)) (mmR mm (blk qq ob :: (blk q8 (.cells #[.int .i64 0, .int .i64 0, .int .i64 0, .int .i64 0, .int .i64 0, .int .i64 0, .int .i64 0, .int .i64 os.length, .int .i64 0, .int .i64 0, .int .i64 0] 84 (0, 0)) :: redR (.slice (some ⟨b, o, none⟩) os.length ok) 2 os.length (os.flatMap sdC) :: sdsR os :: rnR rn vp' vt' l' [blk (q + 1) (stdO f), blk q (twO x.nt rn)]))) → _) := Lib.hid (fun w' mm qq ob h => HQ.out w' [_, _, _, _, _, _, _] h)
        clear hcell hcv hcl9 hrd ho hs9 HRD hbv
        have d0 : (fun w' : World => w'.cell? ⟨b, o + 1, none⟩ = some (.slice bo bl bk) ∧ w'.cell? ⟨q, 0, none⟩ = some (.pointer (some ⟨x.nt, 0, none⟩)) ∧ w'.cell? ⟨q + 1, 0, none⟩ = some (.int .i64 f) ∧ w'.cell? ⟨q + 1, 1, none⟩ = some (.int .i64 2)) w9.drew := HQ.out w9.drew [] H9.out.drew
        simp only at d0
        go_wp2_with fail
        go_region_held3 (fun w' => w'.cell? ⟨b, o + 1, none⟩ = some (.slice bo bl bk) ∧ w'.cell? ⟨q, 0, none⟩ = some (.pointer (some ⟨x.nt, 0, none⟩)) ∧ w'.cell? ⟨q + 1, 0, none⟩ = some (.int .i64 f) ∧ w'.cell? ⟨q + 1, 1, none⟩ = some (.int .i64 2))
          (first | (with_reducible exact d0) | (with_reducible exact e0) | (with_reducible exact ⟨cell_allocd d0.1, cell_allocd d0.2.1, cell_allocd d0.2.2.1, cell_allocd d0.2.2.2⟩) | (with_reducible exact ⟨cell_allocd e0.1, cell_allocd e0.2.1, cell_allocd e0.2.2.1, cell_allocd e0.2.2.2⟩) | (with_reducible exact e1) | (with_reducible exact mv_ad d0) | (with_reducible exact mv_ad e0))
          (first | (go_at_call 27; refine HP1.out.mono ?_; rintro e w3 ⟨mm, rfl, hmm, -, h3⟩; have e0 := HE0.out w3 mm h3; obtain ⟨kind, fm, view, inst, seq, res, a1, rs, c1, a2, vs', c2, a3, cts, c3, a4, pts, c4, rfl⟩ := mm_lit h3; have H3 := Lib.hid h3; clear h3) | (go_at_call 27; refine HP2.out.mono ?_; rintro e w3 ⟨mm, rfl, hmm, -, h3⟩; have e0 := HE1.out w3 mm _ _ h3; obtain ⟨kind, fm, view, inst, seq, res, a1, rs, c1, a2, vs', c2, a3, cts, c3, a4, pts, c4, rfl⟩ := mm_lit h3; have H3 := Lib.hid h3; clear h3; obtain ⟨r3, hs3, -⟩ := H3.out.side; have b0 := hs3.blkAt 6 rfl; have x0 := cell_blk b0 0 rfl; have z0 := block_frozen b0 0; have x1 := cell_blk b0 1 rfl; have z1 := block_frozen b0 1; have x2 := cell_blk b0 2 rfl; have z2 := block_frozen b0 2; have x3 := cell_blk b0 3 rfl; have z3 := block_frozen b0 3; have x4 := cell_blk b0 4 rfl; have z4 := block_frozen b0 4; have x5 := cell_blk b0 5 rfl; have z5 := block_frozen b0 5; have x6 := cell_blk b0 6 rfl; have z6 := block_frozen b0 6; have x7 := cell_blk b0 7 rfl; have z7 := block_frozen b0 7; have x8 := cell_blk b0 8 rfl; have z8 := block_frozen b0 8; have x9 := cell_blk b0 9 rfl; have z9 := block_frozen b0 9; have H4 := Lib.hid (nd_ten (v0 := .int .i64 kind) (v1 := .int .i64 fm) (v2 := .int .i64 view) (v3 := .int .i64 inst) (v4 := .int .i64 seq) (v5 := .int .i64 res) (v6 := .slice a1 rs.length c1) (v7 := .slice a2 vs'.length c2) (v8 := .slice a3 cts.length c3) (v9 := .slice a4 pts.length c4) H3.out); have e1 := HE1.out _ _ _ _ H4.out; clear b0 hs3))
        · simp only [Mm.ms, vcM, Ms.mk.injEq] at hmm
          obtain ⟨hkd, hfm, hvw, hin, hsq0, hre, hrs0, hvs0, hcs0, hps0⟩ := hmm
          replace hfm := hfm.symm
          replace hvs0 := hvs0.symm
          obtain rfl : cts = [] := List.map_eq_nil_iff.1 hcs0
          obtain rfl : pts = [] := List.map_eq_nil_iff.1 hps0
          subst hkd hvw hin hsq0 hre hrs0
          subst fm
          subst vs'
          clear hcs0 hps0
          have HZ : Hid (NdIs W.heap.size W (w3.alloc (mmO ⟨7, id, v + 1, 0, 0, 0, .slice a1 0 c1, [], .slice a2 vs.length c2, vs, .slice a3 0 c3, [], .slice a4 0 c4, []⟩)) x { { finS f id (v + 1) vs vo' (2 * f) l' with used := 2 * f + 1 } with out := [] } (sealL l' id (vcB id (v + 1) vs)) (mmR ⟨7, id, v + 1, 0, 0, 0, .slice a1 0 c1, [], .slice a2 vs.length c2, vs, .slice a3 0 c3, [], .slice a4 0 c4, []⟩ (blk w3.heap.size (mmO ⟨7, id, v + 1, 0, 0, 0, .slice a1 0 c1, [], .slice a2 vs.length c2, vs, .slice a3 0 c3, [], .slice a4 0 c4, []⟩) :: (blk q8 (.cells #[.int .i64 0, .int .i64 0, .int .i64 0, .int .i64 0, .int .i64 0, .int .i64 0, .int .i64 0, .int .i64 os.length, .int .i64 0, .int .i64 0, .int .i64 0] 84 (0, 0)) :: redR (.slice (some ⟨b, o, none⟩) os.length ok) 2 os.length (os.flatMap sdC) :: sdsR os :: rnR rn vp' vt' l' [blk (q + 1) (stdO f), blk q (twO x.nt rn)])))) := Lib.hid ((H3.out.box (mmO ⟨7, id, v + 1, 0, 0, 0, .slice a1 0 c1, [], .slice a2 vs.length c2, vs, .slice a3 0 c3, [], .slice a4 0 c4, []⟩)).perm ((List.perm_append_comm (l₁ := [_]) (l₂ := [_, _, _, _, _, _])).append_right _))
          clear H3 H9 d0 e0 HP1 HP2 HE0 HE1 HQ
          generalize World.alloc w3 _ = y at *
          generalize w3.heap.size = qm at *
          obtain ⟨rq, hsq, -⟩ := HZ.out.side
          have hbq := hsq.blkAt 6 rfl
          have y2 : y.cell? ⟨qm, 2, none⟩ = some (.int .i64 (v + 1)) := cell_blk hbq 2 rfl
          have y7 : y.cell? ⟨qm, 7, none⟩ = some (.slice a2 vs.length c2) := cell_blk hbq 7 rfl
          have y8 : y.cell? ⟨qm, 8, none⟩ = some (.slice a3 0 c3) := cell_blk hbq 8 rfl
          have g0 : y.cell? ⟨q + 1, 0, none⟩ = some (.int .i64 f) := cell_blk (hsq.blkAt 13 rfl) 0 rfl
          have g1 : y.cell? ⟨q, 1, none⟩ = some (.pointer (some ⟨rn, 0, none⟩)) := cell_blk (hsq.blkAt 14 rfl) 1 rfl
          have HCH := Lib.hid (changed_true (W := y) (v := .slice a2 vs.length c2) (rn := rn) (vp := vp') (vt := vt') (l := l') f v vs hf1 hf2 (by omega) (by omega) HVL.out HRI.out (redR_out (hsq.get 4 rfl)) ⟨hsq.blkAt 10 rfl, owns_reads (ownR_owns (hsq.get 11 rfl)), owns_reads (ownR_owns (hsq.get 12 rfl))⟩ HOK.out (by omega) (fun q hq => (HCK.out q hq).1))
          have HU := Lib.hid (nd_upd HZ.out)
          clear hsq hbq HZ
          go_wp2_with fail
          refine HCH.out.mono ?_
          rintro e wq ⟨rfl, huq⟩
          have k8 := cell_upd huq y8
          have HU2 := Lib.hid (HU.out.trans huq)
          clear huq HCH HU y2 y7 y8 g0 g1
          go_wp2_with fail
          refine (wakes21_any _).mono ?_
          rintro e wz ⟨rfl, huz⟩
          have HU3 := Lib.hid (HU2.out.trans huz)
          clear huz
          go_wp2_with fail
          go_ret
          exact ⟨rfl, HU3.out⟩
        · simp only [Mm.ms, vcM, Ms.mk.injEq] at hmm
          obtain ⟨hkd, hfm, hvw, hin, hsq0, hre, hrs0, hvs0, hcs0, hps0⟩ := hmm
          replace hfm := hfm.symm
          replace hvs0 := hvs0.symm
          obtain rfl : cts = [] := List.map_eq_nil_iff.1 hcs0
          obtain rfl : pts = [] := List.map_eq_nil_iff.1 hps0
          subst hkd hvw hin hsq0 hre hrs0
          subst fm
          subst vs'
          clear hcs0 hps0
          have HZ := H4
          clear H3 H4 H9 d0 e0 e1 HP1 HP2 HE0 HE1 HQ x0 x1 x2 x3 x4 x5 x6 x7 x8 x9 z0 z1 z2 z3 z4 z5 z6 z7 z8 z9
          generalize World.setCell _ _ _ = y at *
          generalize w9.heap.size = qm at *
          obtain ⟨rq, hsq, -⟩ := HZ.out.side
          have hbq := hsq.blkAt 6 rfl
          have y2 : y.cell? ⟨qm, 2, none⟩ = some (.int .i64 (v + 1)) := cell_blk hbq 2 rfl
          have y7 : y.cell? ⟨qm, 7, none⟩ = some (.slice a2 vs.length c2) := cell_blk hbq 7 rfl
          have y8 : y.cell? ⟨qm, 8, none⟩ = some (.slice a3 0 c3) := cell_blk hbq 8 rfl
          have g0 : y.cell? ⟨q + 1, 0, none⟩ = some (.int .i64 f) := cell_blk (hsq.blkAt 13 rfl) 0 rfl
          have g1 : y.cell? ⟨q, 1, none⟩ = some (.pointer (some ⟨rn, 0, none⟩)) := cell_blk (hsq.blkAt 14 rfl) 1 rfl
          have HCH := Lib.hid (changed_true (W := y) (v := .slice a2 vs.length c2) (rn := rn) (vp := vp') (vt := vt') (l := l') f v vs hf1 hf2 (by omega) (by omega) HVL.out HRI.out (redR_out (hsq.get 4 rfl)) ⟨hsq.blkAt 10 rfl, owns_reads (ownR_owns (hsq.get 11 rfl)), owns_reads (ownR_owns (hsq.get 12 rfl))⟩ HOK.out (by omega) (fun q hq => (HCK.out q hq).1))
          have HU := Lib.hid (nd_upd HZ.out)
          clear hsq hbq HZ
          go_wp2_with fail
          refine HCH.out.mono ?_
          rintro e wq ⟨rfl, huq⟩
          have k8 := cell_upd huq y8
          have HU2 := Lib.hid (HU.out.trans huq)
          clear huq HCH HU y2 y7 y8 g0 g1
          go_wp2_with fail
          refine (wakes21_any _).mono ?_
          rintro e wz ⟨rfl, huz⟩
          have HU3 := Lib.hid (HU2.out.trans huz)
          clear huz
          go_wp2_with fail
          go_ret
          exact ⟨rfl, HU3.out⟩

end Go.Proofs.YtannckelmojkoaaGreat
