/- Parts of the proof, one behind the other. -/
import Derived.Test.YtannckelmojkoaaGreatMovB25

/- node: New, of any valid configuration. -/
namespace Go.Proofs.YtannckelmojkoaaGreat
open Go.RowKit Go.Heap

section
variable {B : Nat} {w0 w W W' : World} {ss : List Res}

set_option maxHeartbeats 4000000 in
set_option maxRecDepth 100000 in
theorem node_newN {c : Cf} (hc : CfOk c) (id : Int) (nt : Nat) (h0 : 0 ≤ id) (h2 : id < 3 * (c.f : Int) + 1) (h : Own B w0 W ss) :
    Calls Tryz.prog 32 #[.agg (cfA c), .int .i64 id, .pointer (some ⟨nt, 0, none⟩)] W fun e w' => ∃ (x : Np) (v : Nv), e = .returned (.tuple #[ptrV x.p, .int .i64 0]) ∧ x.nt = nt ∧ (∀ nm, NvOk { x with nm := nm } (newS c id) v) ∧ Own B w0 w' (nsR x (newS c id) v :: ss) := by
  have hf1 := hc.f1
  have hf2 := hc.f2
  have HCF := Lib.hid hc
  have HNO := Lib.hid (fun w => nodes_any (c.f : Int) w (by omega) (by omega))
  have H := Lib.hid h
  clear h
  go_enter Tryz.func32, Tryz.ntmps32
  go_wp2_with fail
  have hb := heap_alloc_new W (.cells (cfA c) 30)
  have H1 := Lib.hid (H.out.box (cfO c))
  generalize hq : W.heap.size = q at *
  generalize W.alloc (.cells (cfA c) 30) = w1 at *
  refine (cvalidC HCF.out _).mono ?_
  rintro e w2 ⟨rfl, hu⟩
  have H2 := Lib.hid (H1.out.upd0 hu)
  have hr : w2.rangeAt q 0 (cfA c).toList := range_upd hu (range_blk hb)
  have c0 : w2.cell? ⟨q, 0, none⟩ = some (.int .i64 c.f) := hr 0 _ rfl
  have HR := Lib.hid hr
  clear hu hb H1 H hr
  go_wp2_with fail
  refine (HNO.out _).mono ?_
  rintro e w' ⟨rfl, rfl⟩
  go_wp2_with fail
  have d0 : CfAt c w2.drew q := cfC_range HR.out
  have HC := Lib.hid (clock_new2 H2.out.drew)
  clear HR H2 c0
  go_region_held3 (fun w' => CfAt c w' q)
    (first | (with_reducible exact d0) | (with_reducible exact e0) | (with_reducible exact cfC_alloc e0))
    (first | (go_at_call 81; refine HC.out.mono ?_; rintro e w3 ⟨t, rfl, hu3, h3⟩; have H3 := Lib.hid h3; have e0 := cfC_upd hu3 d0; clear h3 hu3))
  go_wp2_with fail
  have H4 := Lib.hid (nwmk_start (own_toSeg (T := 141) (cs := (mkC c id nt t nilS nilP nilP nilP nilP nilP nilS nilS nilS nilS).toArray) ((H3.out.box _).perm (by exact List.Perm.cons _ (List.Perm.swap _ _ _))) rfl))
  clear H3 e0 d0 HC
  generalize hp : w3.heap.size = p at *
  generalize w3.alloc _ = w4 at *
  clear hp
  obtain ⟨i0, hi, hz0, hz1, hz2⟩ := info_parts Tryz.infoPi
  obtain ⟨j0, hj, hy0, hy1, hy2⟩ := info_parts Tryz.infoSi
  go_loopw [9] (fun n wr => ∃ k : Nat, k ≤ c.f + 1 ∧ n = .int .i64 k ∧ Hid (NwMk c B w0 wr p q id nt t k ss)) (fun n _ => c.f + 1 - (intOf n).toNat)
  case atStart => exact ⟨0, by omega, rfl, H4⟩
  case round =>
    clear H4
    obtain ⟨k, hk, rfl, HM⟩ := hrel
    obtain ⟨rs, a1, a2, a3, c1, c2, c3, hok, hown⟩ := HM.out
    have HOK := Lib.hid hok
    have HO := Lib.hid hown
    obtain ⟨q0, -⟩ := blk_at' hown 4 (b := q) (T := 30) (cs := (cfA c)) rfl 0 (v := .int .i64 c.f) rfl
    obtain ⟨q3, -⟩ := blk_at' hown 4 (b := q) (T := 30) (cs := (cfA c)) rfl 3 (v := .int .i64 c.ah) rfl
    clear hok hown HM
    by_cases hlt : k < c.f + 1
    · have hkI : (k : Int) ≤ (c.f : Int) := by omega
      have HN := Lib.hid (ins_new c.f k c.ah hf1 hf2 (by omega) (by omega) HCF.out.ah1 HCF.out.ah2 HO.out)
      go_wp2_with fail
      refine HN.out.mono ?_
      rintro e w5 ⟨x, rfl, hx, h5⟩
      have HX := Lib.hid hx
      have H5 := Lib.hid h5
      obtain ⟨p18, z18⟩ := seg_at h5 1 rfl 18 rfl
      have HW := Lib.hid (ownR_owns ((h5.alloc (.cells #[x.ptr] 142)).get 2 rfl))
      clear hx h5 HN HO q0 q3
      go_wp2_with (at_builtin; refine wpList_append_lies _ rfl (.tmp 51) (.tmp 53) 132 rfl 0 142 i0 (.pointer none) 1 8 Tryz.underlying132 hi hz0 hz1 hz2 rfl (by decide) _ k _ rfl HW.out ⟨w5.heap.size, 0, none⟩ 1 1 [x.ptr] rfl rfl ?c1 ?c2 (by decide) ?c3 ?c4 (Nat.zero_le _) _ rfl ?c6)
      case c1 => exact World.news_of_block (heap_alloc_new w5 _)
      case c2 => intro u hu; simp at hu; subst hu; rfl
      case c3 => unfold maxLen; omega
      case c4 => omega
      case c6 =>
        intro g cap2 w6 hown hgrow hat hlt6
        have h6 := (H5.out.alloc (.cells #[x.ptr] 142)).growAt 2 rfl hgrow (by simpa using hat) hown
        have H6 := Lib.hid h6
        obtain ⟨p18, z18⟩ := seg_at h6 1 rfl 18 rfl
        clear hown hgrow hat hlt6 h6 H5 HW
        have hmk := run_make_i17
        go_wp2_with fail
        have H7 := Lib.hid (H6.out.putAt 1 rfl 18 (.slice (some ⟨g, 0, none⟩) (k + 1) cap2))
        clear H6 p18 z18
        generalize w6.setCell ⟨p, 18, none⟩ (.slice (some ⟨g, 0, none⟩) (k + 1) cap2) = w7 at *
        have hd := (((H7.out.box z17O).alloc (.cells #[.slice (some ⟨w7.heap.size, 0, none⟩) 17 17] 69))).drew
        obtain ⟨d26, -⟩ := seg_at H7.out.drew 1 rfl 26 rfl
        have HF1 : Hid (∀ o, (w7.alloc o).drew.cell? ⟨p, 26, none⟩ = some (.slice a2 k c2)) := Lib.hid (fun o => cell_allocd (w := w7) d26)
        have HF2 : Hid (∀ o o', ((w7.alloc o).alloc o').drew.cell? ⟨p, 26, none⟩ = some (.slice a2 k c2)) := Lib.hid (fun o o' => cell_allocd (cell_allocd (w := w7) d26))
        have HD := Lib.hid hd
        have HNW := Lib.hid (news2 (w := w7) (o := z17O) (v := .slice (some ⟨w7.heap.size, 0, none⟩) 17 17) (T := 69))
        have HON := Lib.hid (one_one (v := .slice (some ⟨w7.heap.size, 0, none⟩) 17 17) rfl)
        have HMX := Lib.hid (small_max (k := k) (by omega))
        have HM4 := Lib.hid (small_24 (k := k) (by omega))
        have HW := Lib.hid (ownR_owns (hd.get 4 rfl))
        clear hd
        refine Held.wp_held [(p, 26, [.slice a2 k c2])] [(4, 0)] [10] [(6, true), (2, true)] (by kernel_rfl) (by kernel_rfl) ⟨⟨d26, trivial⟩, trivial⟩ ?_
        simp only [Held.cutAt, Held.walk, List.take_succ_cons, List.take_zero, List.drop_succ_cons, List.drop_zero]
        go_wp2_with fail
        refine ⟨⟨⟨HF1.out _, trivial⟩, trivial⟩, ?_⟩
        go_wp2_with (at_builtin; refine wpList_append_lies _ rfl (.tmp 61) (.tmp 63) 139 rfl 0 69 j0 (.slice none 0 0) 1 24 Tryz.underlying139 hj hy0 hy1 hy2 rfl (by decide) _ k _ rfl HW.out ⟨w7.heap.size + 1, 0, none⟩ 1 1 [.slice (some ⟨w7.heap.size, 0, none⟩) 17 17] rfl rfl HNW.out HON.out (by decide) HMX.out HM4.out (Nat.zero_le _) (w7.heap.size + 2) size2 ?_)
        intro g2 cap3 w8 hown hgrow hat hlt8
        have h8 := HD.out.growAt 4 rfl hgrow (by simpa using hat) hown
        have H8 := Lib.hid h8
        obtain ⟨e26, z26⟩ := seg_at h8 2 rfl 26 rfl
        clear hown hgrow hat hlt8 h8 HD HW
        go_wp2_with fail
        refine ⟨⟨⟨e26, trivial⟩, trivial⟩, ?_⟩
        go_wp2_with fail
        refine ⟨trivial, by rfl, ⟨⟨rfl, .inl ⟨by kernel_rfl, rfl⟩⟩, trivial⟩, ?_⟩
        go_wp2_with fail
        have H9 := Lib.hid (H8.out.putAt 2 rfl 26 (.slice (some ⟨g2, 0, none⟩) (k + 1) cap3))
        clear H8 HF1 HF2 HNW HON d26 e26 z26 H7
        generalize w8.setCell ⟨p, 26, none⟩ (.slice (some ⟨g2, 0, none⟩) (k + 1) cap3) = w9 at *
        generalize w7.heap.size = ra at *
        have hd := ((H9.out.box z17O).alloc (.cells #[.slice (some ⟨w9.heap.size, 0, none⟩) 17 17] 69)).drew
        obtain ⟨d27, -⟩ := seg_at H9.out.drew 2 rfl 27 rfl
        have HF1 : Hid (∀ o, (w9.alloc o).drew.cell? ⟨p, 27, none⟩ = some (.slice a3 k c3)) := Lib.hid (fun o => cell_allocd (w := w9) d27)
        have HD := Lib.hid hd
        have HNW := Lib.hid (news2 (w := w9) (o := z17O) (v := .slice (some ⟨w9.heap.size, 0, none⟩) 17 17) (T := 69))
        have HON := Lib.hid (one_one (v := .slice (some ⟨w9.heap.size, 0, none⟩) 17 17) rfl)
        have HW := Lib.hid (ownR_owns (hd.get 6 rfl))
        clear hd
        refine Held.wp_held [(p, 27, [.slice a3 k c3])] [(4, 0)] [10] [(6, true), (2, true)] (by kernel_rfl) (by kernel_rfl) ⟨⟨d27, trivial⟩, trivial⟩ ?_
        simp only [Held.cutAt, Held.walk, List.take_succ_cons, List.take_zero, List.drop_succ_cons, List.drop_zero]
        go_wp2_with fail
        refine ⟨⟨⟨HF1.out _, trivial⟩, trivial⟩, ?_⟩
        go_wp2_with (at_builtin; refine wpList_append_lies _ rfl (.tmp 71) (.tmp 73) 139 rfl 0 69 j0 (.slice none 0 0) 1 24 Tryz.underlying139 hj hy0 hy1 hy2 rfl (by decide) _ k _ rfl HW.out ⟨w9.heap.size + 1, 0, none⟩ 1 1 [.slice (some ⟨w9.heap.size, 0, none⟩) 17 17] rfl rfl HNW.out HON.out (by decide) HMX.out HM4.out (Nat.zero_le _) (w9.heap.size + 2) size2 ?_)
        intro g3 cap4 wa hown hgrow hat hlt8
        have h8 := HD.out.growAt 6 rfl hgrow (by simpa using hat) hown
        have H8 := Lib.hid h8
        obtain ⟨e27, z27⟩ := seg_at h8 3 rfl 27 rfl
        clear hown hgrow hat hlt8 h8 HD HW
        go_wp2_with fail
        refine ⟨⟨⟨e27, trivial⟩, trivial⟩, ?_⟩
        go_wp2_with fail
        refine ⟨trivial, by rfl, ⟨⟨rfl, .inl ⟨by kernel_rfl, rfl⟩⟩, trivial⟩, ?_⟩
        go_wp2_with fail
        have HZ := Lib.hid (H8.out.putAt 3 rfl 27 (.slice (some ⟨g3, 0, none⟩) (k + 1) cap4))
        clear H8 HF1 HNW HON d27 e27 z27 H9
        go_roundw
        case rel =>
          refine ⟨k + 1, by omega, by go_num, Lib.hid ⟨rs ++ [⟨x, ra, w9.heap.size⟩], some ⟨g, 0, none⟩, some ⟨g2, 0, none⟩, some ⟨g3, 0, none⟩, cap2, cap3, cap4, HOK.out.add _ HX.out, ?_⟩⟩
          have h1 := HZ.out.perm (perm_more _ _ _ [_, _, _, _, _, _] _ _)
          simp only [List.map_append, List.map_cons, List.map_nil, List.flatMap_append, List.flatMap_cons, List.flatMap_nil, List.append_nil]
          exact h1
        case measure => simp [intOf]; omega
    · have hk2 : k = c.f + 1 := by omega
      have hkI : decide ((k : Int) ≤ (c.f : Int)) = false := by simp; omega
      obtain ⟨q1, -⟩ := blk_at' HO.out 4 (b := q) (T := 30) (cs := (cfA c)) rfl 1 (v := .int .i64 c.cl) rfl
      subst hk2
      have HC := Lib.hid (prop_newN HCF.out HO.out)
      clear HO
      go_wp2_with fail
      refine HC.out.mono ?_
      rintro e w5 ⟨tb, rfl, h5⟩
      obtain ⟨p19, z19⟩ := seg_at h5 1 rfl 19 rfl
      have HP := Lib.hid (h5.putAt 1 rfl 19 (ptrV tb))
      clear h5 HC q0 q1 q3
      go_upto_region 12 with fail
      clear p19 z19
      generalize w5.setCell ⟨p, 19, none⟩ (ptrV tb) = w5 at *
      have HP1 := HP
      clear HP
      obtain ⟨q0, -⟩ := blk_at' HP1.out 5 (b := q) (T := 30) (cs := (cfA c)) rfl 0 (v := .int .i64 c.f) rfl
      have HC := Lib.hid (change_newN HCF.out HP1.out)
      clear HP1
      go_wp2_with fail
      refine HC.out.mono ?_
      rintro e w5 ⟨vt, vg, rfl, h5⟩
      obtain ⟨p20, z20⟩ := seg_at h5 3 rfl 20 rfl
      have HP := Lib.hid (h5.putAt 3 rfl 20 (ptrV vt))
      clear h5 HC q0
      go_upto_region 13 with fail
      clear p20 z20
      generalize w5.setCell ⟨p, 20, none⟩ (ptrV vt) = w5 at *
      have HP2 := HP
      clear HP
      obtain ⟨q5, -⟩ := blk_at' HP2.out 7 (b := q) (T := 30) (cs := (cfA c)) rfl 5 (v := .int .i64 c.fl) rfl
      obtain ⟨q6, -⟩ := blk_at' HP2.out 7 (b := q) (T := 30) (cs := (cfA c)) rfl 6 (v := .int .i64 c.sh) rfl
      have HC := Lib.hid (flood_newF c.fl c.sh HCF.out.fl1 HCF.out.fl2 HCF.out.sh1 HCF.out.sh2 HP2.out)
      clear HP2
      go_wp2_with fail
      refine HC.out.mono ?_
      rintro e w5 ⟨gd, rfl, h5⟩
      obtain ⟨p21, z21⟩ := seg_at h5 4 rfl 21 rfl
      have HP := Lib.hid (h5.putAt 4 rfl 21 (ptrV gd))
      clear h5 HC q5 q6
      go_upto_region 14 with fail
      clear p21 z21
      generalize w5.setCell ⟨p, 21, none⟩ (ptrV gd) = w5 at *
      have HP3 := HP
      clear HP
      obtain ⟨q1, -⟩ := blk_at' HP3.out 8 (b := q) (T := 30) (cs := (cfA c)) rfl 1 (v := .int .i64 c.cl) rfl
      have HC := Lib.hid (ledger_newN HCF.out HP3.out)
      clear HP3
      go_wp2_with fail
      refine HC.out.mono ?_
      rintro e w5 ⟨bk, rfl, hbk, hlp, h5⟩
      have HBK := Lib.hid hbk
      have HLP := Lib.hid hlp
      clear hbk hlp
      obtain ⟨p22, z22⟩ := seg_at h5 9 rfl 22 rfl
      have HP := Lib.hid (h5.putAt 9 rfl 22 (ptrV bk.p))
      clear h5 HC q1
      go_upto_region 15 with fail
      clear p22 z22
      generalize w5.setCell ⟨p, 22, none⟩ (ptrV bk.p) = w5 at *
      have HP4 := HP
      clear HP
      obtain ⟨q0, -⟩ := blk_at' HP4.out 13 (b := q) (T := 30) (cs := (cfA c)) rfl 0 (v := .int .i64 c.f) rfl
      have HC := Lib.hid (meter_newN HCF.out HP4.out)
      clear HP4
      go_wp2_with fail
      refine HC.out.mono ?_
      rintro e w5 ⟨mt, mg, rfl, h5⟩
      obtain ⟨p23, z23⟩ := seg_at h5 11 rfl 23 rfl
      have HP := Lib.hid (h5.putAt 11 rfl 23 (ptrV mt))
      clear h5 HC q0
      go_upto_region 16 with fail
      clear p23 z23
      generalize w5.setCell ⟨p, 23, none⟩ (ptrV mt) = w5 at *
      have HP5 := HP
      clear HP
      obtain ⟨q0, -⟩ := blk_at' HP5.out 15 (b := q) (T := 30) (cs := (cfA c)) rfl 0 (v := .int .i64 c.f) rfl
      obtain ⟨p24, z24⟩ := seg_at (HP5.out.alloc (ptON c.f)) 11 rfl 24 rfl
      have hmk := run_make_ptN hf1 hf2
      go_wp2_with fail
      refine (HNO.out _).mono ?_
      rintro e w' ⟨rfl, rfl⟩
      have HP6 := Lib.hid ((HP5.out.box (ptON c.f)).putAt 12 rfl 24 (slI w5.heap.size (3 * c.f + 1) (3 * c.f + 1)))
      clear HP5 q0
      go_upto_region 17 with fail
      clear p24 z24 hmk
      generalize w5.heap.size = pt at *
      generalize World.setCell _ ⟨p, 24, none⟩ _ = w6 at *
      have HP7 := Lib.hid ((HP6.out.box (bgON c.f)).putAt 13 rfl 25 (slI w6.heap.size (c.f + 1) (c.f + 1)))
      obtain ⟨q0, -⟩ := blk_at' HP6.out 16 (b := q) (T := 30) (cs := (cfA c)) rfl 0 (v := .int .i64 c.f) rfl
      obtain ⟨p25, z25⟩ := seg_at (HP6.out.alloc (bgON c.f)) 12 rfl 25 rfl
      have hmk := run_make_bgN hf1 hf2
      clear HP6
      go_wp2_with fail
      go_ret2
      obtain ⟨x, v, rfl, h2, h3, h4⟩ := nw_fin HCF.out HBK.out HLP.out HOK.out HP7.out
      exact ⟨x, v, rfl, h2, h3, h4⟩

end
end Go.Proofs.YtannckelmojkoaaGreat

/- psephoslaw21.start; what a node tells of itself. -/
namespace Go.Proofs.YtannckelmojkoaaGreat
open Go.RowKit Go.Heap

/-- The usual configuration. -/
def stdC (f : Nat) : Cf := ⟨f, 2, 2, 4, 64, 8, 8, 8, 1, 2, 12, 8, 6, 2, 6⟩
theorem stdC_ok {f : Nat} (h1 : 1 ≤ f) (h2 : f ≤ 4) : CfOk (stdC f) := by constructor <;> simp only [stdC] <;> omega
theorem tabOk_nil (cl : Int) : TabOk cl [] := ⟨by simp, by simp⟩
theorem vsok0 : VsOk (st0.map Prod.snd) := by
  unfold VsOk
  decide +kernel
theorem newS_ok {c : Cf} (hc : CfOk c) {id : Int} (h0 : 0 ≤ id) (h1 : id ≤ 3 * c.f) : NsOk (newS c id) where
  c := hc
  id0 := h0
  id1 := h1
  now0 := by simp [newS]
  now1 := by simp [newS]
  ins := by simp [newS]
  insk := fun k hk => by
    simp only [newS, List.length_map, List.length_range] at hk
    simp only [newS, List.getElem_map, List.getElem_range]
    exact ⟨rfl, rfl, rfl, new_sm _ _ _⟩
  tab := tabOk_nil _
  vo := by simp [newS]
  gd := by simp [newS]
  mt := by simp [newS]
  mtn := fun k h1 h2 => by
    simp only [newS, List.getElem_replicate]
    omega
  pts := by simp [newS]
  bg := by simp [newS]
  pre := by simp [newS]
  pre2 := fun l hl => by simp only [newS] at hl; rw [List.eq_of_mem_replicate hl]; simp
  com := by simp [newS]
  com2 := fun l hl => by simp only [newS] at hl; rw [List.eq_of_mem_replicate hl]; simp
  bkc := by simp only [newS, newL]; have := hc.cl1; omega
  bkn := by simp [newS, newL]
  bks := by simp [newS, newL]
  bkv := vsok0
  bke := by simp [newS, newL]
  run0 := by simp [newS]
  run1 := by simp [newS]
  view0 := by simp [newS]
  view1 := by simp [newS]
  voted0 := by simp [newS]
  voted1 := by simp [newS]
  since0 := by simp [newS]
  since1 := by simp [newS]
  start0 := by simp [newS]
  start1 := by simp [newS]
  used0 := by simp [newS]
  bad0 := by simp [newS]
  stale0 := by simp [newS]
  shut0 := by simp [newS]
  full0 := by simp [newS]

section
variable {B : Nat} {w0 w W W' : World} {ss rs : List Res} {x : Np} {s s' : Ns} {l l' : Nt}

theorem stdAny (f : Nat) (w : World) : Calls Tryz.prog 46 #[.int .i64 f] w fun e w' => e = .returned (.agg (cfA (stdC f))) ∧ Upd [] w w' := by
  go_enter Tryz.func46, Tryz.ntmps46
  go_wp2_with fail
  refine bodyPost_ret (v := .agg (cfA (stdC f))) (by simp [results, Tryz.results46, go_sem, stdC]) rfl ⟨rfl, (Upd.refl _ _).alloc _⟩

theorem nview_any (h : NdIs B w0 W x s l ss) : Calls Tryz.prog 24 #[ptrV x.p] W fun e w' => e = .returned (.int .i64 s.view) ∧ W = w' := by
  have c := h.cell 29 rfl (by decide)
  clear h
  go_enter Tryz.func24, Tryz.ntmps24
  go_wp2_with fail
  go_ret
  exact ⟨rfl, rfl⟩
theorem nvoted_any (h : NdIs B w0 W x s l ss) : Calls Tryz.prog 40 #[ptrV x.p] W fun e w' => e = .returned (.int .i64 s.voted) ∧ W = w' := by
  have c := h.cell 30 rfl (by decide)
  clear h
  go_enter Tryz.func40, Tryz.ntmps40
  go_wp2_with fail
  go_ret
  exact ⟨rfl, rfl⟩

set_option maxHeartbeats 2000000 in
/-- What goes out, and then nothing any more. -/
theorem nout_any (h : NdIs B w0 W x s l ss) : Calls Tryz.prog 26 #[ptrV x.p] W fun e w' => ∃ (a : Option Addr) (k : Nat) (os : List Sd), e = .returned (.slice a os.length k) ∧ os.map Sd.p = s.out ∧ NdIs B w0 w' x { s with out := [] } l (redR (.slice a os.length k) 2 os.length (os.flatMap sdC) :: sdsR os :: ss) := by
  obtain ⟨v, rr, c, d, g⟩ := h.outs
  obtain ⟨a, k, hv⟩ := c.ov
  rw [hv] at d
  obtain ⟨c34, z34⟩ := seg_at d 0 rfl 34 rfl
  have h1 := d.putAt 0 rfl 34 (.slice none 0 0)
  have h2 : Own B w0 (W.setCell ⟨x.p, 34, none⟩ (.slice none 0 0)) (segR x.p 141 (nsC x s (.slice none 0 0)) :: ownR 62 2 (.slice none 0 0) 0 [] :: sdsR [] :: (([redR (.slice a v.os.length k) 2 v.os.length (v.os.flatMap sdC), sdsR v.os] ++ ss) ++ rr)) := by
    have h3 : Own B w0 (W.setCell ⟨x.p, 34, none⟩ (.slice none 0 0)) (segR x.p 141 (nsC x s (.slice none 0 0)) :: redR (.slice a v.os.length k) 2 v.os.length (v.os.flatMap sdC) :: sdsR v.os :: (ss ++ rr)) := (Own.toRed h1.swap).swap
    have h4 := (h3.mkSds (l := []) (by simp)).row0 (E := 62) (sz := 2)
    exact h4.rot
  have HF := Lib.hid (g _ (.slice none 0 0) [] ([redR (.slice a v.os.length k) 2 v.os.length (v.os.flatMap sdC), sdsR v.os] ++ ss) ⟨none, 0, rfl⟩ h2)
  have HO := Lib.hid c.os
  clear h d g h1 h2
  go_enter Tryz.func26, Tryz.ntmps26
  go_wp2_with fail
  go_ret
  exact ⟨a, k, v.os, rfl, HO.out, HF.out⟩

end
end Go.Proofs.YtannckelmojkoaaGreat

/- psephoslaw21.start: a node of a usual cluster, and notaries. -/
namespace Go.Proofs.YtannckelmojkoaaGreat
open Go.RowKit Go.Heap

abbrev zTwo : Obj := .cells #[.pointer none, .pointer none] 28 (0, 0)
abbrev zCfg : Obj := .cells #[.int .i64 0, .int .i64 0, .int .i64 0, .int .i64 0, .int .i64 0, .int .i64 0, .int .i64 0, .int .i64 0, .int .i64 0, .int .i64 0, .int .i64 0, .int .i64 0, .int .i64 0, .int .i64 0, .int .i64 0] 30 (0, 0)

section
variable {B : Nat} {w0 w W W' : World} {ss rs : List Res} {x : Np} {s s' : Ns} {l l' : Nt}

theorem own_bne {i j a b : Nat} {o o' : Obj} (h : Own B w0 W rs) (e1 : rs[i]? = some (blk a o)) (e2 : rs[j]? = some (blk b o')) (hij : i < j) : a ≠ b := fun e => by
  obtain ⟨h1, h1'⟩ := List.getElem?_eq_some_iff.1 e1
  obtain ⟨h2, h2'⟩ := List.getElem?_eq_some_iff.1 e2
  have := List.pairwise_iff_getElem.1 h.apart i j h1 h2 hij
  rw [h1', h2'] at this
  exact this a (by simp [blk]) (by simp [blk, e])
theorem own_15 {b : Nat} {T : TypeId} {c0 c1 c2 c3 c4 c5 c6 c7 c8 c9 c10 c11 c12 c13 c14 v0 v1 v2 v3 v4 v5 v6 v7 v8 v9 v10 v11 v12 v13 v14 : Value} (h : Own B w0 W (blk b (.cells #[c0, c1, c2, c3, c4, c5, c6, c7, c8, c9, c10, c11, c12, c13, c14] T (0, 0)) :: rs)) : Own B w0 (((((((((((((((W.setCell ⟨b, 0, none⟩ v0).setCell ⟨b, 1, none⟩ v1).setCell ⟨b, 2, none⟩ v2).setCell ⟨b, 3, none⟩ v3).setCell ⟨b, 4, none⟩ v4).setCell ⟨b, 5, none⟩ v5).setCell ⟨b, 6, none⟩ v6).setCell ⟨b, 7, none⟩ v7).setCell ⟨b, 8, none⟩ v8).setCell ⟨b, 9, none⟩ v9).setCell ⟨b, 10, none⟩ v10).setCell ⟨b, 11, none⟩ v11).setCell ⟨b, 12, none⟩ v12).setCell ⟨b, 13, none⟩ v13).setCell ⟨b, 14, none⟩ v14) (blk b (.cells #[v0, v1, v2, v3, v4, v5, v6, v7, v8, v9, v10, v11, v12, v13, v14] T (0, 0)) :: rs) := by
  have h0 := Own.storeTo h 0 v0 (o' := .cells #[v0, c1, c2, c3, c4, c5, c6, c7, c8, c9, c10, c11, c12, c13, c14] T (0, 0)) rfl
  have h1 := Own.storeTo h0 1 v1 (o' := .cells #[v0, v1, c2, c3, c4, c5, c6, c7, c8, c9, c10, c11, c12, c13, c14] T (0, 0)) rfl
  have h2 := Own.storeTo h1 2 v2 (o' := .cells #[v0, v1, v2, c3, c4, c5, c6, c7, c8, c9, c10, c11, c12, c13, c14] T (0, 0)) rfl
  have h3 := Own.storeTo h2 3 v3 (o' := .cells #[v0, v1, v2, v3, c4, c5, c6, c7, c8, c9, c10, c11, c12, c13, c14] T (0, 0)) rfl
  have h4 := Own.storeTo h3 4 v4 (o' := .cells #[v0, v1, v2, v3, v4, c5, c6, c7, c8, c9, c10, c11, c12, c13, c14] T (0, 0)) rfl
  have h5 := Own.storeTo h4 5 v5 (o' := .cells #[v0, v1, v2, v3, v4, v5, c6, c7, c8, c9, c10, c11, c12, c13, c14] T (0, 0)) rfl
  have h6 := Own.storeTo h5 6 v6 (o' := .cells #[v0, v1, v2, v3, v4, v5, v6, c7, c8, c9, c10, c11, c12, c13, c14] T (0, 0)) rfl
  have h7 := Own.storeTo h6 7 v7 (o' := .cells #[v0, v1, v2, v3, v4, v5, v6, v7, c8, c9, c10, c11, c12, c13, c14] T (0, 0)) rfl
  have h8 := Own.storeTo h7 8 v8 (o' := .cells #[v0, v1, v2, v3, v4, v5, v6, v7, v8, c9, c10, c11, c12, c13, c14] T (0, 0)) rfl
  have h9 := Own.storeTo h8 9 v9 (o' := .cells #[v0, v1, v2, v3, v4, v5, v6, v7, v8, v9, c10, c11, c12, c13, c14] T (0, 0)) rfl
  have h10 := Own.storeTo h9 10 v10 (o' := .cells #[v0, v1, v2, v3, v4, v5, v6, v7, v8, v9, v10, c11, c12, c13, c14] T (0, 0)) rfl
  have h11 := Own.storeTo h10 11 v11 (o' := .cells #[v0, v1, v2, v3, v4, v5, v6, v7, v8, v9, v10, v11, c12, c13, c14] T (0, 0)) rfl
  have h12 := Own.storeTo h11 12 v12 (o' := .cells #[v0, v1, v2, v3, v4, v5, v6, v7, v8, v9, v10, v11, v12, c13, c14] T (0, 0)) rfl
  have h13 := Own.storeTo h12 13 v13 (o' := .cells #[v0, v1, v2, v3, v4, v5, v6, v7, v8, v9, v10, v11, v12, v13, c14] T (0, 0)) rfl
  have h14 := Own.storeTo h13 14 v14 (o' := .cells #[v0, v1, v2, v3, v4, v5, v6, v7, v8, v9, v10, v11, v12, v13, v14] T (0, 0)) rfl
  exact h14
theorem own_2 {b : Nat} {T : TypeId} {c0 c1 v0 v1 : Value} (h : Own B w0 W (blk b (.cells #[c0, c1] T (0, 0)) :: rs)) : Own B w0 ((W.setCell ⟨b, 0, none⟩ v0).setCell ⟨b, 1, none⟩ v1) (blk b (.cells #[v0, v1] T (0, 0)) :: rs) := Own.storeTo (Own.storeTo h 0 v0 rfl) 1 v1 rfl

/-- A new node beside its notary. -/
theorem nd_made {nm nt : Nat} {c : Cf} (hc : CfOk c) {id : Int} (h0 : 0 ≤ id) (h1 : id ≤ 3 * c.f) {x : Np} {v : Nv} (hnt : x.nt = nt) (hv : ∀ nm, NvOk { x with nm := nm } (newS c id) v) (h : Own B w0 W (nsR x (newS c id) v :: blk nt (noB nm) :: ntR nm [] :: ss)) : NdIs B w0 W { x with nm := nm } (newS c id) [] ss := by
  subst hnt
  exact ⟨newS_ok hc h0 h1, ⟨List.nodup_nil, by simp⟩, v, hv nm, h⟩

set_option maxHeartbeats 4000000 in
set_option maxRecDepth 100000 in
theorem start_any (fA idA : Int) (f : Nat) (hf1 : 1 ≤ f) (hf2 : f ≤ 4) (hf : 1 + fA % 4 = f) (h : Own B w0 W ss) :
    Calls Tryz.prog 15 #[.int .i64 fA, .int .i64 idA] W fun e w' => ∃ (x : Np) (rn : Nat), e = .returned (.tuple #[ptrV x.p, .agg (twA x.nt rn), .agg (cfA (stdC f)), .bool true]) ∧
      NdIs B w0 w' x (newS (stdC f) (idA % (3 * (f : Int) + 1))) [] (rnR rn (.slice none 0 0) (.slice none 0 0) [] ss) := by
  have h1 := (h.box zTwo).boxAt zCfg (n := W.heap.size + 1) (by simp)
  have H1 := Lib.hid h1
  have HW := Lib.hid (fun w => Within_any fA 4 w (by omega) (by omega))
  have HS := Lib.hid (fun w => stdAny f w)
  have hfI : 1 ≤ (f : Int) := by omega
  have hf4 : (f : Int) ≤ 4 := by omega
  have hm := emod_in fA 4 (by omega)
  have HF := Lib.hid hf
  obtain ⟨k, hk⟩ : ∃ k, k = fA % 4 := ⟨_, rfl⟩
  rw [← hk] at HW hm HF
  clear h h1 hf hk
  go_enter Tryz.func15, Tryz.ntmps15
  go_wp2_with fail
  refine (HW.out _).mono ?_
  rintro e w' ⟨rfl, rfl⟩
  go_wp2_with fail
  rw [HF.out]
  refine (HS.out _).mono ?_
  rintro e w2 ⟨rfl, hu⟩
  have H2 := Lib.hid (H1.out.upd0 hu)
  clear hu H1 HW HS HF hm
  generalize W.heap.size = q at *
  have H3 := Lib.hid (H2.out.box (.cells (cfA (stdC f)) 30 (0, 0)))
  have HN := Lib.hid (notary_new H3.out)
  clear H2
  go_wp2_with fail
  refine HN.out.mono ?_
  rintro e w4 ⟨nt, nm, rfl, h4⟩
  have H5 := Lib.hid ((h4.box (rnO (.slice none 0 0) (.slice none 0 0))).boxAt (twO nt w4.heap.size) (n := w4.heap.size + 1) (by simp))
  clear h4 HN H3
  have HNo := Lib.hid (fun w => rnodes_any (f : Int) w hfI hf4)
  have HWi := Lib.hid (fun w => Within_any idA (3 * (f : Int) + 1) w (by omega) (by omega))
  have hid := emod_in idA (3 * (f : Int) + 1) (by omega)
  obtain ⟨hi0, hi1⟩ := hid
  obtain ⟨id, hide⟩ : ∃ id, id = idA % (3 * (f : Int) + 1) := ⟨_, rfl⟩
  have HID := Lib.hid hide
  rw [← hide] at HWi hi0 hi1
  have HI0 := Lib.hid hi0
  have HI1 := Lib.hid hi1
  clear hide
  have HNN := Lib.hid (node_newN (stdC_ok hf1 hf2) id nt HI0.out (by have := HI1.out; exact this) H5.out.drew)
  have hb8 := H5.out.drew.blkAt 4 rfl
  have hb9 := H5.out.drew.blkAt 0 rfl
  have a0 := cell_blk hb8 0 rfl
  have a1 := cell_blk hb8 1 rfl
  have a2 := cell_blk hb8 2 rfl
  have a3 := cell_blk hb8 3 rfl
  have a4 := cell_blk hb8 4 rfl
  have a5 := cell_blk hb8 5 rfl
  have a6 := cell_blk hb8 6 rfl
  have a7 := cell_blk hb8 7 rfl
  have a8 := cell_blk hb8 8 rfl
  have a9 := cell_blk hb8 9 rfl
  have a10 := cell_blk hb8 10 rfl
  have a11 := cell_blk hb8 11 rfl
  have a12 := cell_blk hb8 12 rfl
  have a13 := cell_blk hb8 13 rfl
  have a14 := cell_blk hb8 14 rfl
  have n0 := cell_blk hb9 0 rfl
  clear hb8 hb9 hi0 hi1
  generalize w2.heap.size = bc at *
  go_upto_region 5 with fail
  refine Held.wp_held [(bc, 0, [.int .i64 f, .int .i64 2, .int .i64 2, .int .i64 4, .int .i64 64, .int .i64 8, .int .i64 8, .int .i64 8, .int .i64 1, .int .i64 2, .int .i64 12, .int .i64 8, .int .i64 6, .int .i64 2, .int .i64 6]), (bc, 0, [.int .i64 f]), (w4.heap.size + 1, 0, [ptrV nt])] [(0, 0), (3, 1), (7, 2)] [8] [(5, true), (1, true), (3, false)] (by kernel_rfl) (by kernel_rfl) ⟨⟨a0, a1, a2, a3, a4, a5, a6, a7, a8, a9, a10, a11, a12, a13, a14, trivial⟩, ⟨a0, trivial⟩, ⟨n0, trivial⟩, trivial⟩ ?_
  simp only [Held.cutAt, Held.walk, List.take_succ_cons, List.take_zero, List.drop_succ_cons, List.drop_zero]
  go_wp2_with fail
  refine (HNo.out _).mono ?_
  rintro e w' ⟨rfl, rfl⟩
  go_wp2_with fail
  refine ⟨⟨⟨a0, a1, a2, a3, a4, a5, a6, a7, a8, a9, a10, a11, a12, a13, a14, trivial⟩, ⟨a0, trivial⟩, ⟨n0, trivial⟩, trivial⟩, ?_⟩
  go_wp2_with fail
  refine (HWi.out _).mono ?_
  rintro e w' ⟨rfl, rfl⟩
  go_wp2_with fail
  refine ⟨⟨⟨a0, a1, a2, a3, a4, a5, a6, a7, a8, a9, a10, a11, a12, a13, a14, trivial⟩, ⟨a0, trivial⟩, ⟨n0, trivial⟩, trivial⟩, ?_⟩
  go_wp2_with fail
  refine HNN.out.mono ?_
  rintro e w6 ⟨x, v, rfl, hxn, hv, h6⟩
  go_wp2_with fail
  refine ⟨trivial, ?_⟩
  go_wp2_with fail
  refine ⟨trivial, by rfl, ⟨⟨rfl, .inr ⟨by kernel_rfl, by kernel_rfl⟩⟩, ⟨rfl, .inl ⟨by kernel_rfl, rfl⟩⟩, ⟨rfl, .inl ⟨by kernel_rfl, rfl⟩⟩, trivial⟩, ?_⟩
  have H6 := Lib.hid h6
  have hb1 := h6.blkAt 1 rfl
  have hb5 := h6.blkAt 5 rfl
  have hb6 := h6.blkAt 6 rfl
  have hb7 := h6.blkAt 7 rfl
  clear a0 a1 a2 a3 a4 a5 a6 a7 a8 a9 a10 a11 a12 a13 a14 n0 h6 HNN H5 HNo HWi
  have a0 : w6.cell? ⟨bc, 0, none⟩ = _ := cell_blk hb5 0 rfl
  have a1 : w6.cell? ⟨bc, 1, none⟩ = _ := cell_blk hb5 1 rfl
  have a2 : w6.cell? ⟨bc, 2, none⟩ = _ := cell_blk hb5 2 rfl
  have a3 : w6.cell? ⟨bc, 3, none⟩ = _ := cell_blk hb5 3 rfl
  have a4 : w6.cell? ⟨bc, 4, none⟩ = _ := cell_blk hb5 4 rfl
  have a5 : w6.cell? ⟨bc, 5, none⟩ = _ := cell_blk hb5 5 rfl
  have a6 : w6.cell? ⟨bc, 6, none⟩ = _ := cell_blk hb5 6 rfl
  have a7 : w6.cell? ⟨bc, 7, none⟩ = _ := cell_blk hb5 7 rfl
  have a8 : w6.cell? ⟨bc, 8, none⟩ = _ := cell_blk hb5 8 rfl
  have a9 : w6.cell? ⟨bc, 9, none⟩ = _ := cell_blk hb5 9 rfl
  have a10 : w6.cell? ⟨bc, 10, none⟩ = _ := cell_blk hb5 10 rfl
  have a11 : w6.cell? ⟨bc, 11, none⟩ = _ := cell_blk hb5 11 rfl
  have a12 : w6.cell? ⟨bc, 12, none⟩ = _ := cell_blk hb5 12 rfl
  have a13 : w6.cell? ⟨bc, 13, none⟩ = _ := cell_blk hb5 13 rfl
  have a14 : w6.cell? ⟨bc, 14, none⟩ = _ := cell_blk hb5 14 rfl
  have t0 : w6.cell? ⟨w4.heap.size + 1, 0, none⟩ = _ := cell_blk hb1 0 rfl
  have t1 : w6.cell? ⟨w4.heap.size + 1, 1, none⟩ = _ := cell_blk hb1 1 rfl
  have q0 := cell_blk hb7 0 rfl
  have q1 := cell_blk hb7 1 rfl
  have qz := block_frozen hb7
  have p0 := cell_blk hb6 0 rfl
  have p1 := cell_blk hb6 1 rfl
  have p2 := cell_blk hb6 2 rfl
  have p3 := cell_blk hb6 3 rfl
  have p4 := cell_blk hb6 4 rfl
  have p5 := cell_blk hb6 5 rfl
  have p6 := cell_blk hb6 6 rfl
  have p7 := cell_blk hb6 7 rfl
  have p8 := cell_blk hb6 8 rfl
  have p9 := cell_blk hb6 9 rfl
  have p10 := cell_blk hb6 10 rfl
  have p11 := cell_blk hb6 11 rfl
  have p12 := cell_blk hb6 12 rfl
  have p13 := cell_blk hb6 13 rfl
  have p14 := cell_blk hb6 14 rfl
  have pz := block_frozen hb6
  have n1 := own_bne H6.out (i := 5) (j := 7) rfl rfl (by omega)
  have n2 := own_bne H6.out (i := 5) (j := 6) rfl rfl (by omega)
  have n3 := own_bne H6.out (i := 1) (j := 7) rfl rfl (by omega)
  have n4 := own_bne H6.out (i := 1) (j := 6) rfl rfl (by omega)
  have m1 := n1.symm
  have m2 := n2.symm
  have m3 := n3.symm
  have m4 := n4.symm
  have h7 := own_2 (H6.out.front 7 rfl rfl) (v0 := ptrV nt) (v1 := ptrV w4.heap.size)
  dsimp only [List.eraseIdx] at h7
  have h8 := own_15 (h7.front 7 rfl rfl) (v0 := .int .i64 (stdC f).f) (v1 := .int .i64 (stdC f).cl) (v2 := .int .i64 (stdC f).bt) (v3 := .int .i64 (stdC f).ah) (v4 := .int .i64 (stdC f).qu) (v5 := .int .i64 (stdC f).fl) (v6 := .int .i64 (stdC f).sh) (v7 := .int .i64 (stdC f).pe) (v8 := .int .i64 (stdC f).nu) (v9 := .int .i64 (stdC f).de) (v10 := .int .i64 (stdC f).la) (v11 := .int .i64 (stdC f).om) (v12 := .int .i64 (stdC f).wa) (v13 := .int .i64 (stdC f).ag) (v14 := .int .i64 (stdC f).re)
  dsimp only [List.eraseIdx] at h8
  have H8 := Lib.hid h8.drew
  clear h7 h8
  go_upto_region 6 with fail
  go_region
  all_goals
    (clear a0 a1 a2 a3 a4 a5 a6 a7 a8 a9 a10 a11 a12 a13 a14 t0 t1 q0 q1 qz p0 p1 p2 p3 p4 p5 p6 p7 p8 p9 p10 p11 p12 p13 p14 pz
     generalize World.drew (World.setCell (World.setCell _ _ _) _ _) = w9 at *
     have hd0 := H8.out.blkAt 0 rfl
     have hd1 := H8.out.blkAt 1 rfl
     have g0 := cell_blk hd1 0 rfl
     have g1 := cell_blk hd1 1 rfl
     have u0 := cell_blk hd0 0 rfl
     have u1 := cell_blk hd0 1 rfl
     have u2 := cell_blk hd0 2 rfl
     have u3 := cell_blk hd0 3 rfl
     have u4 := cell_blk hd0 4 rfl
     have u5 := cell_blk hd0 5 rfl
     have u6 := cell_blk hd0 6 rfl
     have u7 := cell_blk hd0 7 rfl
     have u8 := cell_blk hd0 8 rfl
     have u9 := cell_blk hd0 9 rfl
     have u10 := cell_blk hd0 10 rfl
     have u11 := cell_blk hd0 11 rfl
     have u12 := cell_blk hd0 12 rfl
     have u13 := cell_blk hd0 13 rfl
     have u14 := cell_blk hd0 14 rfl
     clear hd0 hd1
     go_wp2_with fail
     refine bodyPost_ret (v := .tuple #[ptrV x.p, .agg #[ptrV nt, ptrV w4.heap.size], .agg #[.int .i64 (stdC f).f, .int .i64 (stdC f).cl, .int .i64 (stdC f).bt, .int .i64 (stdC f).ah, .int .i64 (stdC f).qu, .int .i64 (stdC f).fl, .int .i64 (stdC f).sh, .int .i64 (stdC f).pe, .int .i64 (stdC f).nu, .int .i64 (stdC f).de, .int .i64 (stdC f).la, .int .i64 (stdC f).om, .int .i64 (stdC f).wa, .int .i64 (stdC f).ag, .int .i64 (stdC f).re], .bool true]) (by simp [results, Tryz.results15, go_sem, g0, g1, u0, u1, u2, u3, u4, u5, u6, u7, u8, u9, u10, u11, u12, u13, u14]) rfl ?_
     have k1 := ((((H8.out.drop.drop).dropAt 1 (by simp)).dropAt 4 (by simp)).front 3 rfl rfl)
     dsimp only [List.eraseIdx] at k1
     have k2 := ((own_ntR0 k1).row0 (E := 3) (sz := 1)).row0 (E := 9) (sz := 1)
     have k3 := k2.front 1 rfl rfl
     dsimp only [List.eraseIdx] at k3
     have k4 := k3.front 4 rfl rfl
     dsimp only [List.eraseIdx] at k4
     have k5 := k4.front 3 rfl rfl
     dsimp only [List.eraseIdx] at k5
     have k6 := k5.front 5 rfl rfl
     dsimp only [List.eraseIdx] at k6
     have k7 := k6.front 5 rfl rfl
     dsimp only [List.eraseIdx] at k7
     refine ⟨{ x with nm := nm }, w4.heap.size, by rw [← hxn], by rw [← HID.out]; exact nd_made (stdC_ok hf1 hf2) HI0.out (by have := HI1.out; simp only [stdC]; omega) hxn hv k7⟩)

end
end Go.Proofs.YtannckelmojkoaaGreat

/- psephoslaw21.kinds: which messages go out. -/
namespace Go.Proofs.YtannckelmojkoaaGreat
open Go.RowKit Go.Heap

/-- How many of each kind. -/
def kindsGo : List Int → List Int → List Int
  | [], c => c
  | k :: ks, c => kindsGo ks (c.set k.toNat (c.getD k.toNat 0 + 1))
def kindsL (ks : List Int) : List Int := kindsGo ks (List.replicate 11 0)
abbrev elO (c : List Int) : Obj := .cells (intC c).toArray 84 (0, 0)

section
variable {B : Nat} {w0 w W W' : World} {ss rs : List Res} {x : Np} {s s' : Ns} {l l' : Nt}

theorem rd_sd {os : List Sd} {o : Sd} (ho : o ∈ os) (hm : sdsR os ∈ ss) (h : Own B w0 W rs) (hr : ∀ r ∈ ss, r ∈ rs) : RdOk w0 B o.v o.b ss := by
  have hb : ∀ {W : World} {rs : List Res}, Own B w0 W rs → (∀ r ∈ ss, r ∈ rs) → Byt W o.v o.b := fun hO hs => by
    obtain ⟨D, ⟨h1, -⟩, -⟩ := hO.fr (hs _ hm)
    exact ⟨(h1 o ho).r.1, (h1 o ho).lt⟩
  obtain ⟨D, ⟨h1, -⟩, -⟩ := h.fr (hr _ hm)
  exact ⟨hb, byt_form (hb h hr), (h1 o ho).n⟩

theorem kd_ad {b o q : Nat} {v u t : Value} {ob : Obj} (h : w.drew.cell? ⟨b, o, none⟩ = some v ∧ w.drew.cell? ⟨q, 0, none⟩ = some u ∧ w.drew.cell? ⟨q, 1, none⟩ = some t) : (w.alloc ob).drew.cell? ⟨b, o, none⟩ = some v ∧ (w.alloc ob).drew.cell? ⟨q, 0, none⟩ = some u ∧ (w.alloc ob).drew.cell? ⟨q, 1, none⟩ = some t := ⟨cell_allocd (w := w) h.1, cell_allocd (w := w) h.2.1, cell_allocd (w := w) h.2.2⟩
theorem len11 {c : List Int} (h : c.length = 11) : ∃ c0 c1 c2 c3 c4 c5 c6 c7 c8 c9 c10, c = [c0, c1, c2, c3, c4, c5, c6, c7, c8, c9, c10] := by
  match c, h with
  | [c0, c1, c2, c3, c4, c5, c6, c7, c8, c9, c10], _ => exact ⟨c0, c1, c2, c3, c4, c5, c6, c7, c8, c9, c10, rfl⟩
theorem el_set (c : List Int) (k : Nat) (v : Int) : setIn k (.int .i64 v) (elO c) = elO (c.set k v) := by
  unfold elO intC setIn
  simp [List.map_set]
theorem el_cell {b k : Nat} {c : List Int} (h : W.heap[b]? = some (elO c)) (hk : k < c.length) : W.cell? ⟨b, k, none⟩ = some (.int .i64 c[k]) := by
  rw [block_cell h]
  simp [intC, hk]

theorem kinds_step {ks c : List Int} {j kd : Nat} {v : Int} {R : List Int} (hj : j < ks.length) (hk : ks[j] = kd) {hkl : kd < c.length} (hv : c[kd] = v) (h : kindsGo (ks.drop j) c = R) : kindsGo (ks.drop (j + 1)) (c.set kd (v + 1)) = R := by
  rw [List.drop_eq_getElem_cons hj] at h
  simp only [kindsGo] at h
  rw [hk] at h
  rw [← h, Int.toNat_natCast, List.getD_eq_getElem?_getD, List.getElem?_eq_getElem hkl, Option.getD_some, hv]
theorem own_11 {b : Nat} {T : TypeId} {c0 c1 c2 c3 c4 c5 c6 c7 c8 c9 c10 v0 v1 v2 v3 v4 v5 v6 v7 v8 v9 v10 : Value} (h : Own B w0 W (blk b (.cells #[c0, c1, c2, c3, c4, c5, c6, c7, c8, c9, c10] T (0, 0)) :: rs)) : Own B w0 (((((((((((W.setCell ⟨b, 0, none⟩ v0).setCell ⟨b, 1, none⟩ v1).setCell ⟨b, 2, none⟩ v2).setCell ⟨b, 3, none⟩ v3).setCell ⟨b, 4, none⟩ v4).setCell ⟨b, 5, none⟩ v5).setCell ⟨b, 6, none⟩ v6).setCell ⟨b, 7, none⟩ v7).setCell ⟨b, 8, none⟩ v8).setCell ⟨b, 9, none⟩ v9).setCell ⟨b, 10, none⟩ v10) (blk b (.cells #[v0, v1, v2, v3, v4, v5, v6, v7, v8, v9, v10] T (0, 0)) :: rs) := by
  have h0 := Own.storeTo h 0 v0 (o' := .cells #[v0, c1, c2, c3, c4, c5, c6, c7, c8, c9, c10] T (0, 0)) rfl
  have h1 := Own.storeTo h0 1 v1 (o' := .cells #[v0, v1, c2, c3, c4, c5, c6, c7, c8, c9, c10] T (0, 0)) rfl
  have h2 := Own.storeTo h1 2 v2 (o' := .cells #[v0, v1, v2, c3, c4, c5, c6, c7, c8, c9, c10] T (0, 0)) rfl
  have h3 := Own.storeTo h2 3 v3 (o' := .cells #[v0, v1, v2, v3, c4, c5, c6, c7, c8, c9, c10] T (0, 0)) rfl
  have h4 := Own.storeTo h3 4 v4 (o' := .cells #[v0, v1, v2, v3, v4, c5, c6, c7, c8, c9, c10] T (0, 0)) rfl
  have h5 := Own.storeTo h4 5 v5 (o' := .cells #[v0, v1, v2, v3, v4, v5, c6, c7, c8, c9, c10] T (0, 0)) rfl
  have h6 := Own.storeTo h5 6 v6 (o' := .cells #[v0, v1, v2, v3, v4, v5, v6, c7, c8, c9, c10] T (0, 0)) rfl
  have h7 := Own.storeTo h6 7 v7 (o' := .cells #[v0, v1, v2, v3, v4, v5, v6, v7, c8, c9, c10] T (0, 0)) rfl
  have h8 := Own.storeTo h7 8 v8 (o' := .cells #[v0, v1, v2, v3, v4, v5, v6, v7, v8, c9, c10] T (0, 0)) rfl
  have h9 := Own.storeTo h8 9 v9 (o' := .cells #[v0, v1, v2, v3, v4, v5, v6, v7, v8, v9, c10] T (0, 0)) rfl
  have h10 := Own.storeTo h9 10 v10 (o' := .cells #[v0, v1, v2, v3, v4, v5, v6, v7, v8, v9, v10] T (0, 0)) rfl
  exact h10

set_option maxHeartbeats 8000000 in
set_option maxRecDepth 100000 in
theorem kinds_any {a : Option Addr} {k : Nat} {os : List Sd} {ks : List Int} (hl : ks.length = os.length) (hks : ∀ (j : Nat) (hj : j < os.length) (hj2 : j < ks.length), ∃ (m : Ms) (sl : Int), openP l s.c.f s.c.cl os[j].b = some (m, sl) ∧ m.kind = ks[j] ∧ 0 ≤ ks[j] ∧ ks[j] ≤ 10) (hn : os.length ≤ 1000000000)
    (h : NdIs B w0 W x s l (redR (.slice a os.length k) 2 os.length (os.flatMap sdC) :: sdsR os :: ss)) :
    Calls Tryz.prog 39 #[.slice a os.length k, .agg (cfA s.c), ptrV x.nt] W fun e w' => e = .returned (.agg (intC (kindsL ks)).toArray) ∧ NdIs B w0 w' x s l (redR (.slice a os.length k) 2 os.length (os.flatMap sdC) :: sdsR os :: ss) := by
  have h1 := ((h.box (.cells (cfA s.c) 30 (0, 0))).box (elO (List.replicate 11 0))).box (elO (List.replicate 11 0))
  simp only [hs_alloc] at h1
  have H1 := Lib.hid h1
  obtain ⟨r0, hs0, -⟩ := h.side
  obtain ⟨ao', cap', hv', hcap, -⟩ := red_reads (k := 0) hs0 rfl
  have hcI : (os.length : Int) ≤ (k : Int) := by
    simp only [Value.slice.injEq] at hv'
    omega
  have HKS := Lib.hid hks
  clear h h1 hs0 hv' hcap hks
  go_enter Tryz.func39, Tryz.ntmps39
  go_wp2_with fail
  go_loopw [14] (fun i wr => ∃ (j : Nat) (c : List Int), j ≤ os.length ∧ i = .int .i64 j ∧ c.length = 11 ∧ Hid (kindsGo (ks.drop j) c = kindsL ks) ∧ Hid (∀ v ∈ c, 0 ≤ v ∧ v ≤ j) ∧ Hid (NdIs B w0 wr x s l (blk (W.heap.size + 1 + 1) (elO c) :: blk (W.heap.size + 1) (elO (List.replicate 11 0)) :: blk W.heap.size (.cells (cfA s.c) 30 (0, 0)) :: redR (.slice a os.length k) 2 os.length (os.flatMap sdC) :: sdsR os :: ss))) (fun i _ => os.length - (intOf i).toNat)
  case atStart => exact ⟨0, List.replicate 11 0, by omega, rfl, by simp, Lib.hid rfl, Lib.hid (fun v hv => by rw [List.eq_of_mem_replicate hv]; simp), H1⟩
  case round =>
    clear H1
    obtain ⟨j, c, hj, rfl, hc, HG, HV, H1⟩ := hrel
    by_cases hlt : j < os.length
    · have hjI : (j : Int) < (os.length : Int) := by omega
      have hj0 : (0 : Int) ≤ (j : Int) := by omega
      obtain ⟨m, sl, ho, hmk, hk0, hk1⟩ := HKS.out j hlt (by omega)
      obtain ⟨kd, hkd⟩ : ∃ kd : Nat, ks[j] = kd := ⟨ks[j].toNat, by omega⟩
      have HKD := Lib.hid hkd
      rw [hkd] at hmk hk0 hk1
      obtain ⟨r1, hs1, -⟩ := H1.out.side
      obtain ⟨ao, cap, hv, -, -, -, -, hcl⟩ := red_reads (k := 3) hs1 rfl
      simp only [Value.slice.injEq] at hv
      obtain ⟨b, o, hao, hbl, hcell⟩ := hcl (by omega)
      rw [← hv.1] at hao
      subst hao
      have hrd := rd_sd (o := os[j]) (List.getElem_mem hlt) (ss := (blk (W.heap.size + 1 + 1) (elO c) :: blk (W.heap.size + 1) (elO (List.replicate 11 0)) :: blk W.heap.size (.cells (cfA s.c) 30 (0, 0)) :: redR (.slice (some ⟨b, o, none⟩) os.length k) 2 os.length (os.flatMap sdC) :: sdsR os :: ss)) (by simp) hs1 (fun r hr => by simp only [List.mem_append]; exact .inl hr)
      obtain ⟨bo, bk, hbv, -, -⟩ := hrd.f
      have hcv : wr.cell? ⟨b, o + j * 2 + 1, none⟩ = some (.slice bo os[j].b.length bk) := by
        have h1 := hcell (j * 2 + 1) (by omega)
        rw [flat_at sdC 2 (fun _ => rfl) os j 1 hlt (by omega)] at h1
        rw [← hbv, Nat.add_assoc]
        exact h1.trans rfl
      have HRD := Lib.hid hrd
      have HO := Lib.hid ho
      rw [hbv] at hrd
      have f0 : wr.cell? ⟨W.heap.size, 0, none⟩ = some (.int .i64 s.c.f) := cell_blk (hs1.blkAt 2 rfl) 0 rfl
      have f1 : wr.cell? ⟨W.heap.size, 1, none⟩ = some (.int .i64 s.c.cl) := cell_blk (hs1.blkAt 2 rfl) 1 rfl
      have HP1 := Lib.hid (nopen_some H1.out.drew hrd HO.out)
      have HP2 := Lib.hid (nopen_some (H1.out.box (.cells #[.int .i64 0, .int .i64 0, .int .i64 0, .int .i64 0, .int .i64 0, .int .i64 0, .slice none 0 0, .slice none 0 0, .slice none 0 0, .slice none 0 0] 47 (0, 0))).drew (hrd.sub (fun q hq => List.mem_cons_of_mem _ hq)) HO.out)
      have HMK := Lib.hid hmk
      generalize os[j].b.length = bl at *
      have HC := Lib.hid hcv
      have HQ : Hid (∀ (w' : World) (hd : List Res), NdIs B w0 w' x s l (hd ++ (blk (W.heap.size + 1 + 1) (elO c) :: blk (W.heap.size + 1) (elO (List.replicate 11 0)) :: blk W.heap.size (.cells (cfA s.c) 30 (0, 0)) :: redR (.slice (some ⟨b, o, none⟩) os.length k) 2 os.length (os.flatMap sdC) :: sdsR os :: ss)) → w'.cell? ⟨b, o + j * 2 + 1, none⟩ = some (.slice bo bl bk) ∧ w'.cell? ⟨W.heap.size, 0, none⟩ = some (.int .i64 s.c.f) ∧ w'.cell? ⟨W.heap.size, 1, none⟩ = some (.int .i64 s.c.cl)) := Lib.hid (fun w' hd h => by
        obtain ⟨r', hs', -⟩ := h.side
        have e : ∀ (i : Nat) (r : Res), (blk (W.heap.size + 1 + 1) (elO c) :: blk (W.heap.size + 1) (elO (List.replicate 11 0)) :: blk W.heap.size (.cells (cfA s.c) 30 (0, 0)) :: redR (.slice (some ⟨b, o, none⟩) os.length k) 2 os.length (os.flatMap sdC) :: sdsR os :: ss)[i]? = some r → ((hd ++ (blk (W.heap.size + 1 + 1) (elO c) :: blk (W.heap.size + 1) (elO (List.replicate 11 0)) :: blk W.heap.size (.cells (cfA s.c) 30 (0, 0)) :: redR (.slice (some ⟨b, o, none⟩) os.length k) 2 os.length (os.flatMap sdC) :: sdsR os :: ss)) ++ [r'])[hd.length + i]? = some r := fun i r he => by
          rw [List.append_assoc, List.getElem?_append_right (by omega), Nat.add_sub_cancel_left, List.getElem?_append_left (List.getElem?_eq_some_iff.1 he).1]
          exact he
        have hb := hs'.blkAt (hd.length + 2) (e 2 _ rfl)
        obtain ⟨ao1, cap1, hv1, -, -, -, -, hcl1⟩ := red_reads hs' (e 3 _ rfl)
        simp only [Value.slice.injEq] at hv1
        obtain ⟨b1, o1, hao1, -, hcell1⟩ := hcl1 (by omega)
        rw [← hv1.1] at hao1
        simp only [Option.some.injEq, Addr.mk.injEq] at hao1
        obtain ⟨rfl, rfl, -⟩ := hao1
        refine ⟨?_, cell_blk hb 0 rfl, cell_blk hb 1 rfl⟩
        have h1 := hcell1 (j * 2 + 1) (by omega)
        rw [flat_at sdC 2 (fun _ => rfl) os j 1 hlt (by omega)] at h1
        rw [← hbv, Nat.add_assoc]
        exact h1.trans rfl)
      have HE0 : Hid (∀ (w' : World) (mm : Mm), NdIs B w0 w' x s l (mmR mm (blk (W.heap.size + 1 + 1) (elO c) :: blk (W.heap.size + 1) (elO (List.replicate 11 0)) :: blk W.heap.size (.cells (cfA s.c) 30 (0, 0)) :: redR (.slice (some ⟨b, o, none⟩) os.length k) 2 os.length (os.flatMap sdC) :: sdsR os :: ss)) → _) := Lib.hid (fun w' mm h => HQ.out w' [_, _, _, _, _, _] h)
      have HE1 : Hid (∀ (w' : World) (mm : Mm), NdIs B w0 w' x s l (mmR mm (blk wr.heap.size (.cells #[.int .i64 0, .int .i64 0, .int .i64 0, .int .i64 0, .int .i64 0, .int .i64 0, .slice none 0 0, .slice none 0 0, .slice none 0 0, .slice none 0 0] 47 (0, 0)) :: (blk (W.heap.size + 1 + 1) (elO c) :: blk (W.heap.size + 1) (elO (List.replicate 11 0)) :: blk W.heap.size (.cells (cfA s.c) 30 (0, 0)) :: redR (.slice (some ⟨b, o, none⟩) os.length k) 2 os.length (os.flatMap sdC) :: sdsR os :: ss))) → _) := Lib.hid (fun w' mm h => HQ.out w' [_, _, _, _, _, _, _] h)
      have HE2 : Hid (∀ (w' : World) (mm : Mm) (q : Nat) (ob : Obj), NdIs B w0 w' x s l (mmR mm (blk q ob :: (blk (W.heap.size + 1 + 1) (elO c) :: blk (W.heap.size + 1) (elO (List.replicate 11 0)) :: blk W.heap.size (.cells (cfA s.c) 30 (0, 0)) :: redR (.slice (some ⟨b, o, none⟩) os.length k) 2 os.length (os.flatMap sdC) :: sdsR os :: ss))) → _) := Lib.hid (fun w' mm q ob h => HQ.out w' [_, _, _, _, _, _, _] h)
      clear hcell hv hcl hrd ho hkd hs1 hbv hmk HRD
      have d0 : wr.drew.cell? ⟨b, o + j * 2 + 1, none⟩ = some (.slice bo bl bk) ∧ wr.drew.cell? ⟨W.heap.size, 0, none⟩ = some (.int .i64 s.c.f) ∧ wr.drew.cell? ⟨W.heap.size, 1, none⟩ = some (.int .i64 s.c.cl) := ⟨hcv, f0, f1⟩
      go_wp2_with fail
      go_region_held3 (fun w' => w'.cell? ⟨b, o + j * 2 + 1, none⟩ = some (.slice bo bl bk) ∧ w'.cell? ⟨W.heap.size, 0, none⟩ = some (.int .i64 s.c.f) ∧ w'.cell? ⟨W.heap.size, 1, none⟩ = some (.int .i64 s.c.cl))
        (first | (with_reducible exact d0) | (with_reducible exact e0) | (with_reducible exact ⟨cell_allocd d0.1, cell_allocd d0.2.1, cell_allocd d0.2.2⟩) | (with_reducible exact ⟨cell_allocd e0.1, cell_allocd e0.2.1, cell_allocd e0.2.2⟩) | (with_reducible exact e1) | (with_reducible exact kd_ad d0) | (with_reducible exact kd_ad e0))
        (first | (go_at_call 27; refine HP1.out.mono ?_; rintro e w3 ⟨mm, rfl, hmm, -, h3⟩; have e0 := HE0.out w3 mm h3; obtain ⟨kind, fm, view, inst, seq, res, a1, rs, c1, a2, vs, c2, a3, cts, c3, a4, pts, c4, rfl⟩ := mm_lit h3; have H3 := Lib.hid h3; clear h3) | (go_at_call 27; refine HP2.out.mono ?_; rintro e w3 ⟨mm, rfl, hmm, -, h3⟩; have e0 := HE1.out w3 mm h3; obtain ⟨kind, fm, view, inst, seq, res, a1, rs, c1, a2, vs, c2, a3, cts, c3, a4, pts, c4, rfl⟩ := mm_lit h3; have H3 := Lib.hid h3; clear h3; obtain ⟨r3, hs3, -⟩ := H3.out.side; have b0 := hs3.blkAt 6 rfl; have x0 := cell_blk b0 0 rfl; have z0 := block_frozen b0 0; have x1 := cell_blk b0 1 rfl; have z1 := block_frozen b0 1; have x2 := cell_blk b0 2 rfl; have z2 := block_frozen b0 2; have x3 := cell_blk b0 3 rfl; have z3 := block_frozen b0 3; have x4 := cell_blk b0 4 rfl; have z4 := block_frozen b0 4; have x5 := cell_blk b0 5 rfl; have z5 := block_frozen b0 5; have x6 := cell_blk b0 6 rfl; have z6 := block_frozen b0 6; have x7 := cell_blk b0 7 rfl; have z7 := block_frozen b0 7; have x8 := cell_blk b0 8 rfl; have z8 := block_frozen b0 8; have x9 := cell_blk b0 9 rfl; have z9 := block_frozen b0 9; have H4 := Lib.hid (nd_ten (v0 := .int .i64 kind) (v1 := .int .i64 fm) (v2 := .int .i64 view) (v3 := .int .i64 inst) (v4 := .int .i64 seq) (v5 := .int .i64 res) (v6 := .slice a1 rs.length c1) (v7 := .slice a2 vs.length c2) (v8 := .slice a3 cts.length c3) (v9 := .slice a4 pts.length c4) H3.out); have e1 := HE2.out _ _ _ _ H4.out; clear b0 hs3))
      · have HZ : Hid (NdIs B w0 (w3.alloc (mmO ⟨kind, fm, view, inst, seq, res, .slice a1 rs.length c1, rs, .slice a2 vs.length c2, vs, .slice a3 cts.length c3, cts, .slice a4 pts.length c4, pts⟩)) x s l (mmR ⟨kind, fm, view, inst, seq, res, .slice a1 rs.length c1, rs, .slice a2 vs.length c2, vs, .slice a3 cts.length c3, cts, .slice a4 pts.length c4, pts⟩ (blk w3.heap.size (mmO ⟨kind, fm, view, inst, seq, res, .slice a1 rs.length c1, rs, .slice a2 vs.length c2, vs, .slice a3 cts.length c3, cts, .slice a4 pts.length c4, pts⟩) :: (blk (W.heap.size + 1 + 1) (elO c) :: blk (W.heap.size + 1) (elO (List.replicate 11 0)) :: blk W.heap.size (.cells (cfA s.c) 30 (0, 0)) :: redR (.slice (some ⟨b, o, none⟩) os.length k) 2 os.length (os.flatMap sdC) :: sdsR os :: ss)))) := Lib.hid ((H3.out.box (mmO ⟨kind, fm, view, inst, seq, res, .slice a1 rs.length c1, rs, .slice a2 vs.length c2, vs, .slice a3 cts.length c3, cts, .slice a4 pts.length c4, pts⟩)).perm ((List.perm_append_comm (l₁ := [_]) (l₂ := [_, _, _, _, _, _])).append_right _))
        clear H3 H1 d0 e0 HP1 HP2 HE0 HE1 HE2 HQ HC HO
        generalize World.alloc w3 _ = y at *
        generalize w3.heap.size = q at *
        obtain ⟨rq, hsq, hkq⟩ := HZ.out.side
        have hbq := hsq.blkAt 6 rfl
        have hbc := hsq.blkAt 7 rfl
        have y0 : y.cell? ⟨q, 0, none⟩ = some (.int .i64 kd) := by
          have := cell_blk hbq 0 rfl
          have hkk : kind = (kd : Int) := by have h := HMK.out; rw [← hmm] at h; exact h
          rw [← hkk]; exact this
        have hkl : kd < c.length := by omega
        have cc := el_cell hbc hkl
        have zc := block_frozen hbc kd
        obtain ⟨hc0, hc1⟩ := HV.out c[kd] (List.getElem_mem hkl)
        obtain ⟨v, hv⟩ : ∃ v, c[kd] = v := ⟨_, rfl⟩
        rw [hv] at hc0 hc1 cc
        have h7 := (hsq.front 7 rfl rfl).store kd (.int .i64 (v + 1))
        dsimp only [List.eraseIdx, List.cons_append] at h7
        rw [el_set] at h7
        have h8 := h7.dropAt 1 (by simp)
        dsimp only [List.eraseIdx] at h8
        have h9 := h8.dropAt 1 (by simp)
        dsimp only [List.eraseIdx] at h9
        have h10 := h9.dropAt 1 (by simp)
        dsimp only [List.eraseIdx] at h10
        have h11 := h10.dropAt 1 (by simp)
        dsimp only [List.eraseIdx] at h11
        have h12 := h11.dropAt 1 (by simp)
        dsimp only [List.eraseIdx] at h12
        have h13 := h12.dropAt 1 (by simp)
        dsimp only [List.eraseIdx] at h13
        have h14 := h13.dropAt 1 (by simp)
        dsimp only [List.eraseIdx] at h14
        have HX := Lib.hid (hkq _ (blk (W.heap.size + 1 + 1) (elO (c.set kd (v + 1))) :: blk (W.heap.size + 1) (elO (List.replicate 11 0)) :: blk W.heap.size (.cells (cfA s.c) 30 (0, 0)) :: redR (.slice (some ⟨b, o, none⟩) os.length k) 2 os.length (os.flatMap sdC) :: sdsR os :: ss) h14)
        have HVV := Lib.hid hv
        clear hsq hkq hbq hbc h7 h8 h9 h10 h11 h12 h13 h14 HZ hv HMK hmm
        generalize rs.length = n1 at *
        go_wp2_with fail
        refine ⟨⟨j + 1, c.set kd (v + 1), by omega, by simp, by simp [hc], Lib.hid (kinds_step (by omega) HKD.out HVV.out HG.out), Lib.hid (fun u hu => ?_), HX⟩, by simp [intOf]; omega⟩
        rcases List.mem_or_eq_of_mem_set hu with hu | rfl
        · have := HV.out u hu
          omega
        · omega
      · have HZ := H4
        clear H3 H4 H1 d0 e0 e1 HP1 HP2 HE0 HE1 HE2 HQ HC HO x0 x1 x2 x3 x4 x5 x6 x7 x8 x9 z0 z1 z2 z3 z4 z5 z6 z7 z8 z9
        generalize World.setCell _ _ _ = y at *
        generalize wr.heap.size = q at *
        obtain ⟨rq, hsq, hkq⟩ := HZ.out.side
        have hbq := hsq.blkAt 6 rfl
        have hbc := hsq.blkAt 7 rfl
        have y0 : y.cell? ⟨q, 0, none⟩ = some (.int .i64 kd) := by
          have := cell_blk hbq 0 rfl
          have hkk : kind = (kd : Int) := by have h := HMK.out; rw [← hmm] at h; exact h
          rw [← hkk]; exact this
        have hkl : kd < c.length := by omega
        have cc := el_cell hbc hkl
        have zc := block_frozen hbc kd
        obtain ⟨hc0, hc1⟩ := HV.out c[kd] (List.getElem_mem hkl)
        obtain ⟨v, hv⟩ : ∃ v, c[kd] = v := ⟨_, rfl⟩
        rw [hv] at hc0 hc1 cc
        have h7 := (hsq.front 7 rfl rfl).store kd (.int .i64 (v + 1))
        dsimp only [List.eraseIdx, List.cons_append] at h7
        rw [el_set] at h7
        have h8 := h7.dropAt 1 (by simp)
        dsimp only [List.eraseIdx] at h8
        have h9 := h8.dropAt 1 (by simp)
        dsimp only [List.eraseIdx] at h9
        have h10 := h9.dropAt 1 (by simp)
        dsimp only [List.eraseIdx] at h10
        have h11 := h10.dropAt 1 (by simp)
        dsimp only [List.eraseIdx] at h11
        have h12 := h11.dropAt 1 (by simp)
        dsimp only [List.eraseIdx] at h12
        have h13 := h12.dropAt 1 (by simp)
        dsimp only [List.eraseIdx] at h13
        have h14 := h13.dropAt 1 (by simp)
        dsimp only [List.eraseIdx] at h14
        have HX := Lib.hid (hkq _ (blk (W.heap.size + 1 + 1) (elO (c.set kd (v + 1))) :: blk (W.heap.size + 1) (elO (List.replicate 11 0)) :: blk W.heap.size (.cells (cfA s.c) 30 (0, 0)) :: redR (.slice (some ⟨b, o, none⟩) os.length k) 2 os.length (os.flatMap sdC) :: sdsR os :: ss) h14)
        have HVV := Lib.hid hv
        clear hsq hkq hbq hbc h7 h8 h9 h10 h11 h12 h13 h14 HZ hv HMK hmm
        generalize rs.length = n1 at *
        go_wp2_with fail
        refine ⟨⟨j + 1, c.set kd (v + 1), by omega, by simp, by simp [hc], Lib.hid (kinds_step (by omega) HKD.out HVV.out HG.out), Lib.hid (fun u hu => ?_), HX⟩, by simp [intOf]; omega⟩
        rcases List.mem_or_eq_of_mem_set hu with hu | rfl
        · have := HV.out u hu
          omega
        · omega
    · have hje : j = os.length := by omega
      subst hje
      have hg := HG.out
      rw [List.drop_of_length_le (by omega)] at hg
      simp only [kindsGo] at hg
      subst hg
      obtain ⟨c0, c1, c2, c3, c4, c5, c6, c7, c8, c9, c10, hce⟩ := len11 hc
      rw [hce] at H1 ⊢
      clear HV HKS HG
      obtain ⟨r1, hs1, hk1⟩ := H1.out.side
      have hbq := hs1.blkAt 0 rfl
      have hbr := hs1.blkAt 1 rfl
      have y0 : wr.cell? ⟨W.heap.size + 1 + 1, 0, none⟩ = some (.int .i64 c0) := cell_blk hbq 0 rfl
      have y1 : wr.cell? ⟨W.heap.size + 1 + 1, 1, none⟩ = some (.int .i64 c1) := cell_blk hbq 1 rfl
      have y2 : wr.cell? ⟨W.heap.size + 1 + 1, 2, none⟩ = some (.int .i64 c2) := cell_blk hbq 2 rfl
      have y3 : wr.cell? ⟨W.heap.size + 1 + 1, 3, none⟩ = some (.int .i64 c3) := cell_blk hbq 3 rfl
      have y4 : wr.cell? ⟨W.heap.size + 1 + 1, 4, none⟩ = some (.int .i64 c4) := cell_blk hbq 4 rfl
      have y5 : wr.cell? ⟨W.heap.size + 1 + 1, 5, none⟩ = some (.int .i64 c5) := cell_blk hbq 5 rfl
      have y6 : wr.cell? ⟨W.heap.size + 1 + 1, 6, none⟩ = some (.int .i64 c6) := cell_blk hbq 6 rfl
      have y7 : wr.cell? ⟨W.heap.size + 1 + 1, 7, none⟩ = some (.int .i64 c7) := cell_blk hbq 7 rfl
      have y8 : wr.cell? ⟨W.heap.size + 1 + 1, 8, none⟩ = some (.int .i64 c8) := cell_blk hbq 8 rfl
      have y9 : wr.cell? ⟨W.heap.size + 1 + 1, 9, none⟩ = some (.int .i64 c9) := cell_blk hbq 9 rfl
      have y10 : wr.cell? ⟨W.heap.size + 1 + 1, 10, none⟩ = some (.int .i64 c10) := cell_blk hbq 10 rfl
      have t0 : wr.cell? ⟨W.heap.size + 1, 0, none⟩ = some (.int .i64 0) := cell_blk hbr 0 rfl
      have t1 : wr.cell? ⟨W.heap.size + 1, 1, none⟩ = some (.int .i64 0) := cell_blk hbr 1 rfl
      have t2 : wr.cell? ⟨W.heap.size + 1, 2, none⟩ = some (.int .i64 0) := cell_blk hbr 2 rfl
      have t3 : wr.cell? ⟨W.heap.size + 1, 3, none⟩ = some (.int .i64 0) := cell_blk hbr 3 rfl
      have t4 : wr.cell? ⟨W.heap.size + 1, 4, none⟩ = some (.int .i64 0) := cell_blk hbr 4 rfl
      have t5 : wr.cell? ⟨W.heap.size + 1, 5, none⟩ = some (.int .i64 0) := cell_blk hbr 5 rfl
      have t6 : wr.cell? ⟨W.heap.size + 1, 6, none⟩ = some (.int .i64 0) := cell_blk hbr 6 rfl
      have t7 : wr.cell? ⟨W.heap.size + 1, 7, none⟩ = some (.int .i64 0) := cell_blk hbr 7 rfl
      have t8 : wr.cell? ⟨W.heap.size + 1, 8, none⟩ = some (.int .i64 0) := cell_blk hbr 8 rfl
      have t9 : wr.cell? ⟨W.heap.size + 1, 9, none⟩ = some (.int .i64 0) := cell_blk hbr 9 rfl
      have t10 : wr.cell? ⟨W.heap.size + 1, 10, none⟩ = some (.int .i64 0) := cell_blk hbr 10 rfl
      have z0 := block_frozen hbr 0
      have z1 := block_frozen hbr 1
      have z2 := block_frozen hbr 2
      have z3 := block_frozen hbr 3
      have z4 := block_frozen hbr 4
      have z5 := block_frozen hbr 5
      have z6 := block_frozen hbr 6
      have z7 := block_frozen hbr 7
      have z8 := block_frozen hbr 8
      have z9 := block_frozen hbr 9
      have z10 := block_frozen hbr 10
      have h7 := own_11 (T := 84) (c0 := .int .i64 0) (c1 := .int .i64 0) (c2 := .int .i64 0) (c3 := .int .i64 0) (c4 := .int .i64 0) (c5 := .int .i64 0) (c6 := .int .i64 0) (c7 := .int .i64 0) (c8 := .int .i64 0) (c9 := .int .i64 0) (c10 := .int .i64 0) (hs1.front 1 rfl rfl) (v0 := .int .i64 c0) (v1 := .int .i64 c1) (v2 := .int .i64 c2) (v3 := .int .i64 c3) (v4 := .int .i64 c4) (v5 := .int .i64 c5) (v6 := .int .i64 c6) (v7 := .int .i64 c7) (v8 := .int .i64 c8) (v9 := .int .i64 c9) (v10 := .int .i64 c10)
      dsimp only [List.eraseIdx, List.cons_append] at h7
      have HU := Lib.hid h7
      have HF := Lib.hid (hk1 _ (redR (.slice a os.length k) 2 os.length (os.flatMap sdC) :: sdsR os :: ss) h7.drop.drop.drop)
      have HCE := Lib.hid hce
      clear hs1 hk1 hbq hbr h7 H1 hce hc hl
      go_wp2_with fail
      clear t0 t1 t2 t3 t4 t5 t6 t7 t8 t9 t10 y0 y1 y2 y3 y4 y5 y6 y7 y8 y9 y10 z0 z1 z2 z3 z4 z5 z6 z7 z8 z9 z10
      generalize World.setCell _ _ _ = w9 at *
      have hbu := HU.out.blkAt 0 rfl
      have u0 := cell_blk hbu 0 rfl
      have u1 := cell_blk hbu 1 rfl
      have u2 := cell_blk hbu 2 rfl
      have u3 := cell_blk hbu 3 rfl
      have u4 := cell_blk hbu 4 rfl
      have u5 := cell_blk hbu 5 rfl
      have u6 := cell_blk hbu 6 rfl
      have u7 := cell_blk hbu 7 rfl
      have u8 := cell_blk hbu 8 rfl
      have u9 := cell_blk hbu 9 rfl
      have u10 := cell_blk hbu 10 rfl
      refine bodyPost_ret (v := .agg #[.int .i64 c0, .int .i64 c1, .int .i64 c2, .int .i64 c3, .int .i64 c4, .int .i64 c5, .int .i64 c6, .int .i64 c7, .int .i64 c8, .int .i64 c9, .int .i64 c10]) (by simp [results, Tryz.results39, go_sem, u0, u1, u2, u3, u4, u5, u6, u7, u8, u9, u10]) rfl ?_
      exact ⟨by rw [HCE.out]; rfl, HF.out⟩

end
end Go.Proofs.YtannckelmojkoaaGreat
