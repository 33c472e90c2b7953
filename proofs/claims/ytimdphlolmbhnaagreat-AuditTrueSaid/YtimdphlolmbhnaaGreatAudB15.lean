/- Parts of the proof, one behind the other. -/
import Derived.Test.YtimdphlolmbhnaaGreatAudB14

/- The document's cluster, when it is new: it is made without a fault. -/
namespace Go.Proofs.YtimdphlolmbhnaaGreat
open Go.RowKit Go.Heap

abbrev rcCs (fv : Value) (nt : Nat) (v3 v4 v5 v6 : Value) : List Value := [.int .i64 1, .int .i64 2, .int .i64 2, .int .i64 4, .int .i64 64, .int .i64 8, .int .i64 8, .int .i64 8, .int .i64 1, .int .i64 2, .int .i64 12, .int .i64 8, .int .i64 6, .int .i64 2, .int .i64 6,
  fv, ptrV nt, v3, v4, v5, v6, .int .i64 0]
/-- The document's cluster that is being made. -/
def RcMk (B : Nat) (w0 w : World) (p q n k m m' : Nat) (ss : List Res) : Prop :=
  ∃ (fv : Value) (nt : Nat) (a3 a4 a5 a6 : Option Addr) (c3 c4 c5 c6 : Nat) (x3 x4 x5 x6 : List Value),
    Own B w0 w (segR p 124 (rcCs fv nt (.slice a3 n c3) (.slice a4 k c4) (.slice a5 m c5) (.slice a6 m' c6)) ::
      ownR 125 1 (.slice a3 n c3) n x3 :: ownR 128 1 (.slice a4 k c4) k x4 :: ownR 132 2 (.slice a5 m c5) m x5 :: ownR 216 1 (.slice a6 m' c6) m' x6 :: blk q cfgO :: ss)

section
variable {B : Nat} {w0 w W W' : World} {ss rs : List Res}

theorem Tryz.infoRn : (Tryz.prog.info? 125).map (fun i => (i.zero, i.size, i.bytes)) = some (some (.pointer none), 1, 8) := by kernel_rfl
theorem Tryz.infoRc : (Tryz.prog.info? 128).map (fun i => (i.zero, i.size, i.bytes)) = some (some (.pointer none), 1, 8) := by kernel_rfl
theorem Tryz.infoR2 : (Tryz.prog.info? 132).map (fun i => (i.zero, i.size, i.bytes)) = some (some (.agg #[.int .i64 0, .int .i64 0]), 2, 16) := by kernel_rfl
theorem Tryz.infoRb : (Tryz.prog.info? 216).map (fun i => (i.zero, i.size, i.bytes)) = some (some (.slice none 0 0), 1, 24) := by kernel_rfl

set_option maxHeartbeats 4000000 in
set_option maxRecDepth 100000 in
theorem rcluster_new (h : Own B w0 W ss) :
    Calls Tryz.prog 34 #[cfgV, .slice none 0 0] W fun e w' => ∃ p, e = .returned (.tuple #[.pointer (some ⟨p, 0, none⟩), .int .i64 0]) ∧ Own B w0 w' ss := by
  have H := Lib.hid h
  clear h
  go_enter Tryz.func34, Tryz.ntmps34
  go_wp2_with fail
  have hb := heap_alloc_new W (.cells cfgCs 57)
  have H1 := Lib.hid (H.out.box cfgO)
  generalize hq : W.heap.size = q at *
  generalize W.alloc (.cells cfgCs 57) = w1 at *
  clear hq
  refine (rvalid _).mono ?_
  rintro e w2 ⟨rfl, hu⟩
  have H2 := Lib.hid (H1.out.upd0 hu)
  have HR := Lib.hid (range_upd hu (range_blk hb))
  clear hu hb H1 H
  go_wp2_with fail
  go_loop [6, 21] (fun m n => m = .int .i64 0 ∧ n = .int .i64 0) (fun _ _ => 0)
  case atStart => exact ⟨rfl, rfl⟩
  case round =>
    obtain ⟨rfl, rfl⟩ := hrel
    have q0 := range_get HR.out 0 rfl
    go_upto_region 14 with fail
    have hr : w2.drew.rangeAt q 0 cfgCs.toList := HR.out
    have d0 : CfgAt w2.drew q := cfg_range hr
    have d1 : CfgAt (w2.alloc (.cells #[.slice none 0 0, .slice none 0 0] 118 (0, 0))) q := cfg_range (range_alloc HR.out)
    have H3 := H2
    clear hr H2 HR q0
    go_region
    clear d0 d1
    go_upto_region 15 with fail
    have hs := H3.out.alloc (.cells #[.slice none 0 0, .slice none 0 0] 118)
    have H5 := Lib.hid (own_toSeg (T := 124) (vals := rcCs (.slice none 0 0) (w2.heap.size) nilS nilS nilS nilS) (hs.boxAt (.cells (rcCs (.slice none 0 0) (w2.heap.size) nilS nilS nilS nilS).toArray 124) (n := w2.heap.size + 1) (by simp)) rfl).drew
    clear H3 hs
    generalize hp : w2.heap.size + 1 = p at *
    clear hp
    generalize w2.heap.size = nt at *
    generalize ((w2.alloc _).alloc _).drew = w5 at *
    have hl := ((((H5.out.row0 (E := 216) (sz := 1)).row0 (E := 132) (sz := 2)).row0 (E := 128) (sz := 1)).row0 (E := 125) (sz := 1)).bring 4 rfl
    have HL : Hid (RcMk B w0 w5 p q 0 0 0 0 ss) := Lib.hid ⟨.slice none 0 0, nt, none, none, none, none, 0, 0, 0, 0, [], [], [], [], hl⟩
    clear hl H5
    obtain ⟨n0, hn, hx0, hx1, hx2⟩ := info_parts Tryz.infoRn
    obtain ⟨c0, hc, hy0, hy1, hy2⟩ := info_parts Tryz.infoRc
    go_wp2_with fail
    go_loopw [9] (fun n wr => ∃ k : Nat, k ≤ 4 ∧ n = .int .i64 k ∧ Hid (RcMk B w0 wr p q k 0 0 0 ss)) (fun n _ => 4 - (intOf n).toNat)
    case atStart => exact ⟨0, by omega, rfl, HL⟩
    case round =>
      clear HL
      obtain ⟨k, hk4, rfl, HM⟩ := hrel
      obtain ⟨fv, xnt, a3, a4, a5, a6, c3, c4, c5, c6, x3, x4, x5, x6, ho⟩ := HM.out
      have HO := Lib.hid ho
      clear ho HM
      obtain ⟨q0, -⟩ := blk_at' HO.out 5 (b := q) (T := 57) (cs := cfgCs) rfl 0 (v := .int .i64 1) rfl
      go_wp2_with fail
      refine (rnodes_one _).mono ?_
      rintro e w' ⟨rfl, rfl⟩
      by_cases hlt : k < 4
      · have hkI : (k : Int) < 4 := by omega
        clear q0
        go_wp2_with fail
        refine (rin_nil _ _).mono ?_
        rintro e w' ⟨rfl, rfl⟩
        have hD := HO.out.drew
        have d0 : CfgAt wr.drew q := cfg_range (range_blk (hD.blkAt 5 (b := q) (o := cfgO) rfl))
        obtain ⟨p16, -⟩ := seg_at hD 0 (b := p) rfl 16 (v := ptrV xnt) rfl
        have HC := Lib.hid (rnode_new (k : Int) (by omega) (by omega) xnt hD)
        clear hD
        go_upto_region 20 with fail
        refine Mix.wp_text2 (by kernel_rfl) (by kernel_rfl) ?_
        go_wp2_with fail
        clear d0 p16
        refine HC.out.mono ?_
        rintro e w8 ⟨y, rfl, h8⟩
        have H8 := Lib.hid h8
        clear h8 HC HO
        go_wp2_with fail
        refine ⟨by rfl, ?_⟩
        obtain ⟨p18, -⟩ := seg_at H8.out 0 (b := p) rfl 17 (v := .slice a3 k c3) rfl
        have hd := H8.out.alloc (.cells #[ptrV y] 125)
        have HD := Lib.hid hd
        have HW := Lib.hid (ownR_owns (hd.get 1 rfl))
        clear hd
        have HNW : Hid (∀ j u, [ptrV y][j]? = some u → (w8.alloc (.cells #[ptrV y] 125 (0, 0))).cell? ((⟨w8.heap.size, 0, none⟩ : Addr).add j) = some u) := Lib.hid (World.news_of_block (heap_alloc_new w8 (.cells #[ptrV y] 125 (0, 0))))
        have HON := Lib.hid (one_one (v := ptrV y) rfl)
        have HMX := Lib.hid (small_max (k := k) (by omega))
        have HM4 := Lib.hid (small_8 (k := k) (by omega))
        go_wp2_with (at_builtin; refine wpList_append_lies _ rfl (.tmp 85) (.tmp 87) 119 rfl 0 125 n0 (.pointer none) 1 8 Tryz.underlying119 hn hx0 hx1 hx2 rfl (by decide) _ k _ rfl HW.out ⟨w8.heap.size, 0, none⟩ 1 1 [ptrV y] rfl rfl HNW.out HON.out (by decide) HMX.out HM4.out (Nat.zero_le _) _ rfl ?_)
        intro g cap w9 hown hgrow hat hlt5
        have h6 := HD.out.growAt 1 rfl hgrow (by simpa using hat) hown
        have H6 := Lib.hid h6
        obtain ⟨p18, z18⟩ := seg_at h6 0 (b := p) rfl 17 rfl
        clear hown hgrow hat hlt5 h6 HD HW H8 HNW HON HMX HM4
        go_wp2_with fail
        have h7 := H6.out.putAt 0 rfl 17 (.slice (some ⟨g, 0, none⟩) (k + 1) cap)
        have HZ : Hid (RcMk B w0 (w9.setCell ⟨p, 17, none⟩ (.slice (some ⟨g, 0, none⟩) (k + 1) cap)) p q (k + 1) 0 0 0 ss) := Lib.hid ⟨fv, xnt, some ⟨g, 0, none⟩, a4, a5, a6, cap, c4, c5, c6, _, x4, x5, x6, h7⟩
        clear h7 H6 p18 z18
        go_roundw
        case rel => exact ⟨k + 1, by omega, by go_num, HZ⟩
        case measure => simp [intOf]; omega
      · have hk2 : k = 4 := by omega
        have hkI : decide ((k : Int) < 4) = false := by simp; omega
        subst hk2
        rw [show ((4 : Nat) : Int) = 4 from rfl]
        have HZ : Hid (RcMk B w0 wr p q 4 0 0 0 ss) := Lib.hid ⟨fv, xnt, a3, a4, a5, a6, c3, c4, c5, c6, x3, x4, x5, x6, HO.out⟩
        clear HO q0
        go_wp2_with fail
        go_loopw [11] (fun n wr => ∃ k : Nat, k ≤ 2 ∧ n = .int .i64 k ∧ Hid (RcMk B w0 wr p q 4 k 0 0 ss)) (fun n _ => 2 - (intOf n).toNat)
        case atStart => exact ⟨0, by omega, rfl, HZ⟩
        case round =>
          clear HZ
          obtain ⟨k, hk4, rfl, HM⟩ := hrel
          obtain ⟨fv, xnt, a3, a4, a5, a6, c3, c4, c5, c6, x3, x4, x5, x6, ho⟩ := HM.out
          have HO := Lib.hid ho
          clear ho HM
          obtain ⟨q1, -⟩ := blk_at' HO.out 5 (b := q) (T := 57) (cs := cfgCs) rfl 1 (v := .int .i64 2) rfl
          by_cases hlt : k < 2
          · have hkI : (k : Int) < 2 := by omega
            go_wp2_with fail
            clear q1
            refine (rin_nil _ _).mono ?_
            rintro e w' ⟨rfl, rfl⟩
            have hD := HO.out.drew
            have d0 : CfgAt wr.drew q := cfg_range (range_blk (hD.blkAt 5 (b := q) (o := cfgO) rfl))
            obtain ⟨p16, -⟩ := seg_at hD 0 (b := p) rfl 16 (v := ptrV xnt) rfl
            clear hD
            go_upto_region 27 with fail
            refine Mix.wp_text2 (by kernel_rfl) (by kernel_rfl) ?_
            go_wp2_with fail
            clear d0 p16
            refine (rclient_new (k : Int) (by omega) (by omega) xnt _).mono ?_
            rintro e w8 ⟨y, rfl, hu⟩
            have H8 := Lib.hid (HO.out.drew.upd0 hu)
            clear HO hu
            go_wp2_with fail
            refine ⟨by rfl, ?_⟩
            obtain ⟨p19, -⟩ := seg_at H8.out 0 (b := p) rfl 18 (v := .slice a4 k c4) rfl
            have hd := H8.out.alloc (.cells #[ptrV y] 128)
            have HD := Lib.hid hd
            have HW := Lib.hid (ownR_owns (hd.get 2 rfl))
            clear hd
            have HNW : Hid (∀ j u, [ptrV y][j]? = some u → (w8.alloc (.cells #[ptrV y] 128 (0, 0))).cell? ((⟨w8.heap.size, 0, none⟩ : Addr).add j) = some u) := Lib.hid (World.news_of_block (heap_alloc_new w8 (.cells #[ptrV y] 128 (0, 0))))
            have HON := Lib.hid (one_one (v := ptrV y) rfl)
            have HMX := Lib.hid (small_max (k := k) (by omega))
            have HM4 := Lib.hid (small_8 (k := k) (by omega))
            go_wp2_with (at_builtin; refine wpList_append_lies _ rfl (.tmp 116) (.tmp 118) 120 rfl 0 128 c0 (.pointer none) 1 8 Tryz.underlying120 hc hy0 hy1 hy2 rfl (by decide) _ k _ rfl HW.out ⟨w8.heap.size, 0, none⟩ 1 1 [ptrV y] rfl rfl HNW.out HON.out (by decide) HMX.out HM4.out (Nat.zero_le _) _ rfl ?_)
            intro g cap w9 hown hgrow hat hlt5
            have h6 := HD.out.growAt 2 rfl hgrow (by simpa using hat) hown
            have H6 := Lib.hid h6
            obtain ⟨p19, z19⟩ := seg_at h6 0 (b := p) rfl 18 rfl
            clear hown hgrow hat hlt5 h6 HD HW H8 HNW HON HMX HM4
            go_wp2_with fail
            have h7 := H6.out.putAt 0 rfl 18 (.slice (some ⟨g, 0, none⟩) (k + 1) cap)
            have HZ : Hid (RcMk B w0 (w9.setCell ⟨p, 18, none⟩ (.slice (some ⟨g, 0, none⟩) (k + 1) cap)) p q 4 (k + 1) 0 0 ss) := Lib.hid ⟨fv, xnt, a3, some ⟨g, 0, none⟩, a5, a6, c3, cap, c5, c6, x3, _, x5, x6, h7⟩
            clear h7 H6 p19 z19
            go_roundw
            case rel => exact ⟨k + 1, by omega, by go_num, HZ⟩
            case measure => simp [intOf]; omega
          · have hk2 : k = 2 := by omega
            have hkI : decide ((k : Int) < 2) = false := by simp; omega
            subst hk2
            rw [show ((2 : Nat) : Int) = 2 from rfl]
            have d0 : CfgAt wr q := cfg_range (range_blk (HO.out.blkAt 5 (b := q) (o := cfgO) rfl))
            have HP := Lib.hid (rparties HO.out)
            clear q1
            go_wp2_with fail
            clear d0
            refine HP.out.mono ?_
            rintro e w8 ⟨al, cl, xl, rfl, hxl, h8⟩
            obtain ⟨g, rfl, hcl, -⟩ := row_some h8 0 (E := 3) (n := 6) (cap := cl) (a := al) rfl (by decide)
            have hlx : xl.length = 6 := by simpa using (ownR_owns (h8.get 0 rfl)).1
            have h9 := h8.perm (List.perm_middle (l₁ := [_, _, _, _, _, _])).symm
            obtain ⟨s2, hs2⟩ : ∃ s2 : List Res, s2 = ownR 3 1 (.slice (some ⟨g, 0, none⟩) 6 cl) 6 xl :: ss := ⟨_, rfl⟩
            have HZ : Hid (RcMk B w0 w8 p q 4 2 0 0 s2) := Lib.hid ⟨fv, xnt, a3, a4, a5, a6, c3, c4, c5, c6, x3, x4, x5, x6, by rw [hs2]; exact h9⟩
            have HXL : Hid (∀ i, i < 6 → ∃ z, xl[i]? = some (Value.int .i64 z)) := Lib.hid (fun i hi => by
              have hil : i < xl.length := by omega
              obtain ⟨z, hz⟩ := hxl xl[i] (List.getElem_mem hil)
              exact ⟨z, by rw [List.getElem?_eq_getElem hil, hz]⟩)
            have HS2 := Lib.hid hs2
            clear h8 h9 HO HP hxl hlx hs2
            obtain ⟨e0, he, hp0, hp1, hp2⟩ := info_parts Tryz.infoR2
            obtain ⟨b0, hb, hq0, hq1, hq2⟩ := info_parts Tryz.infoRb
            go_wp2_with fail
            go_loopw [126] (fun n wr => ∃ i m : Nat, i ≤ 6 ∧ m ≤ 6 * i ∧ n = .int .i64 i ∧ Hid (RcMk B w0 wr p q 4 2 m m s2)) (fun n _ => 6 - (intOf n).toNat)
            case atStart => exact ⟨0, 0, by omega, by omega, rfl, HZ⟩
            case round =>
              clear HZ
              obtain ⟨i, m, hi6, hm, rfl, HM⟩ := hrel
              by_cases hlt : i < 6
              · have hiI : (i : Int) < 6 := by omega
                go_wp2_with fail
                go_loopw [131] (fun n wr => ∃ j m : Nat, j ≤ 6 ∧ m ≤ 6 * i + j ∧ n = .int .i64 j ∧ Hid (RcMk B w0 wr p q 4 2 m m s2)) (fun n _ => 6 - (intOf n).toNat)
                case atStart => exact ⟨0, m, by omega, by omega, rfl, HM⟩
                case round =>
                  clear HM hm
                  obtain ⟨j, m, hj6, hm, rfl, HM⟩ := hrel
                  by_cases hltj : j < 6
                  · have hjI : (j : Int) < 6 := by omega
                    by_cases hij : i = j
                    · have hne : ((i : Int) != (j : Int)) = false := by simp; omega
                      go_wp2_with fail
                      go_roundw
                      case rel => exact ⟨j + 1, m, by omega, by omega, by go_num, HM⟩
                      case measure => simp [intOf]; omega
                    · have hne : ((i : Int) != (j : Int)) = true := by simp; omega
                      obtain ⟨fv, xnt, a3, a4, a5, a6, c3, c4, c5, c6, x3, x4, x5, x6, ho⟩ := HM.out
                      rw [HS2.out] at ho
                      have hD := ho.drew
                      have HDD := Lib.hid hD
                      obtain ⟨z1, hz1⟩ := HXL.out i hlt
                      obtain ⟨z2, hz2⟩ := HXL.out j hltj
                      have E1 := Lib.hid hz1
                      have E2 := Lib.hid hz2
                      have g1 := row_cell hD 6 (E := 3) (g := g) (n := 6) (cap := cl) (xs := xl) rfl i (v := .int .i64 z1) E1.out
                      have g2 := row_cell hD 6 (E := 3) (g := g) (n := 6) (cap := cl) (xs := xl) rfl j (v := .int .i64 z2) E2.out
                      obtain ⟨p19, z19⟩ := seg_at hD 0 (b := p) rfl 19 (v := .slice a5 m c5) rfl
                      go_upto_region 37 with fail
                      refine Held.wp_held [(p, 19, [.slice a5 m c5]), (g, i, [.int .i64 z1]), (g, j, [.int .i64 z2])] [(4, 0), (8, 1), (12, 2)] [18] [(16, true)] (by kernel_rfl) (by kernel_rfl) ⟨⟨p19, trivial⟩, ⟨g1, trivial⟩, ⟨g2, trivial⟩, trivial⟩ ?_
                      simp only [Held.cutAt, Held.walk, List.take_succ_cons, List.take_zero, List.drop_succ_cons, List.drop_zero]
                      have hd := hD.alloc (.cells #[.int .i64 z1, .int .i64 z2] 132)
                      have HD := Lib.hid hd
                      have HW := Lib.hid (ownR_owns (hd.get 3 rfl))
                      clear hd hD ho hz1 hz2
                      have HNW : Hid (∀ j u, [Value.int .i64 z1, .int .i64 z2][j]? = some u → (wr.drew.alloc (.cells #[.int .i64 z1, .int .i64 z2] 132 (0, 0))).cell? ((⟨wr.drew.heap.size, 0, none⟩ : Addr).add j) = some u) := Lib.hid (World.news_of_block (heap_alloc_new wr.drew (.cells #[.int .i64 z1, .int .i64 z2] 132 (0, 0))))
                      have HON : Hid (∀ u ∈ [Value.int .i64 z1, .int .i64 z2], u.oneCell' = true) := Lib.hid (by intro u hu; simp at hu; rcases hu with rfl | rfl <;> rfl)
                      have HMX := Lib.hid (small_max (k := m) (by omega))
                      have HM4 : Hid ((m + 1) * 16 ≤ 140737488355328) := Lib.hid (by omega)
                      go_wp2_with (at_builtin; refine wpList_append_lies _ rfl (.tmp 141) (.tmp 151) 121 rfl 0 132 e0 (.agg #[.int .i64 0, .int .i64 0]) 2 16 Tryz.underlying121 he hp0 hp1 hp2 rfl (by decide) _ m _ rfl HW.out ⟨wr.drew.heap.size, 0, none⟩ 1 1 [.int .i64 z1, .int .i64 z2] rfl rfl HNW.out HON.out (by decide) HMX.out HM4.out (Nat.zero_le _) _ rfl ?_)
                      clear p19 z19 g1 g2
                      intro g5 cap w9 hown hgrow hat hlt5
                      have h6 := HD.out.growAt 3 rfl hgrow (by simpa using hat) hown
                      have H6 := Lib.hid h6
                      obtain ⟨p19, z19⟩ := seg_at h6 0 (b := p) rfl 19 (v := .slice a5 m c5) rfl
                      have g1 := row_cell h6 6 (E := 3) (g := g) (n := 6) (cap := cl) (xs := xl) rfl i (v := .int .i64 z1) E1.out
                      have g2 := row_cell h6 6 (E := 3) (g := g) (n := 6) (cap := cl) (xs := xl) rfl j (v := .int .i64 z2) E2.out
                      clear hown hgrow hat hlt5 h6 HD HW HNW HON HM HDD
                      go_wp2_with fail
                      refine ⟨⟨⟨p19, trivial⟩, ⟨g1, trivial⟩, ⟨g2, trivial⟩, trivial⟩, ?_⟩
                      go_wp2_with fail
                      refine ⟨trivial, by rfl, ⟨⟨rfl, .inl ⟨by kernel_rfl, rfl⟩⟩, ⟨rfl, .inl ⟨by kernel_rfl, rfl⟩⟩, ⟨rfl, .inl ⟨by kernel_rfl, rfl⟩⟩, trivial⟩, ?_⟩
                      clear p19 z19 g1 g2
                      have H7 := Lib.hid (H6.out.putAt 0 rfl 19 (.slice (some ⟨g5, 0, none⟩) (m + 1) cap))
                      clear H6
                      go_upto_region 38 with fail
                      generalize w9.setCell ⟨p, 19, none⟩ (.slice (some ⟨g5, 0, none⟩) (m + 1) cap) = w10 at *
                      obtain ⟨p20, -⟩ := seg_at H7.out 0 (b := p) rfl 20 (v := .slice a6 m c6) rfl
                      have hd := H7.out.alloc (.cells #[.slice none 0 0] 216)
                      have HD := Lib.hid hd
                      have HW := Lib.hid (ownR_owns (hd.get 4 rfl))
                      clear hd
                      have HNW : Hid (∀ j u, [Value.slice none 0 0][j]? = some u → (w10.alloc (.cells #[.slice none 0 0] 216 (0, 0))).cell? ((⟨w10.heap.size, 0, none⟩ : Addr).add j) = some u) := Lib.hid (World.news_of_block (heap_alloc_new w10 (.cells #[.slice none 0 0] 216 (0, 0))))
                      have HON := Lib.hid (one_one (v := .slice none 0 0) rfl)
                      have HM24 : Hid ((m + 1) * 24 ≤ 140737488355328) := Lib.hid (by omega)
                      go_wp2_with (at_builtin; refine wpList_append_lies _ rfl (.tmp 159) (.tmp 160) 122 rfl 0 216 b0 (.slice none 0 0) 1 24 Tryz.underlying122 hb hq0 hq1 hq2 rfl (by decide) _ m _ rfl HW.out ⟨w10.heap.size, 0, none⟩ 1 1 [.slice none 0 0] rfl rfl HNW.out HON.out (by decide) HMX.out HM24.out (Nat.zero_le _) _ rfl ?_)
                      intro g6 cap6 w11 hown hgrow hat hlt5
                      have h8 := HD.out.growAt 4 rfl hgrow (by simpa using hat) hown
                      have H8 := Lib.hid h8
                      obtain ⟨p20, z20⟩ := seg_at h8 0 (b := p) rfl 20 rfl
                      clear hown hgrow hat hlt5 h8 HD HW HNW HON HMX HM4 HM24 H7
                      go_wp2_with fail
                      have h9 := H8.out.putAt 0 rfl 20 (.slice (some ⟨g6, 0, none⟩) (m + 1) cap6)
                      have HZ : Hid (RcMk B w0 (w11.setCell ⟨p, 20, none⟩ (.slice (some ⟨g6, 0, none⟩) (m + 1) cap6)) p q 4 2 (m + 1) (m + 1) s2) := Lib.hid ⟨fv, xnt, a3, a4, some ⟨g5, 0, none⟩, some ⟨g6, 0, none⟩, c3, c4, cap, cap6, x3, x4, _, _, by rw [HS2.out]; exact h9⟩
                      clear h9 H8 p20 z20
                      go_roundw
                      case rel => exact ⟨j + 1, m + 1, by omega, by omega, by go_num, HZ⟩
                      case measure => simp [intOf]; omega
                  · have hj2 : j = 6 := by omega
                    have hjI : decide ((j : Int) < 6) = false := by simp; omega
                    subst hj2
                    go_wp2_with fail
                    go_roundw
                    case rel => exact ⟨i + 1, m, by omega, by omega, by go_num, HM⟩
                    case measure => simp [intOf]; omega
              · have hi2 : i = 6 := by omega
                have hiI : decide ((i : Int) < 6) = false := by simp; omega
                subst hi2
                go_wp2_with fail
                go_ret2
                obtain ⟨fv, xnt, a3, a4, a5, a6, c3, c4, c5, c6, x3, x4, x5, x6, ho⟩ := HM.out
                rw [HS2.out] at ho
                exact ⟨p, rfl, ho.drop.drop.drop.drop.drop.drop.drop⟩

end
end Go.Proofs.YtimdphlolmbhnaaGreat

/- play: Config and Faulty of an empty script. -/
namespace Go.Proofs.YtimdphlolmbhnaaGreat
open Go.RowKit Go.Heap

section
variable {w : World}

theorem standard_one (w : World) : Calls Tryz.prog 54 #[.int .i64 1] w fun e w' => e = .returned cfgV ∧ Upd [] w w' := by
  go_enter Tryz.func54, Tryz.ntmps54
  go_wp2_with fail
  refine bodyPost_ret (v := cfgV) (by simp [results, Tryz.results54, go_sem]) rfl ⟨rfl, (Upd.refl _ _).alloc _⟩

set_option maxHeartbeats 4000000 in
set_option maxRecDepth 100000 in
theorem config_zero (w : World) : Calls Tryz.prog 31 #[.int .i64 0, .slice none 0 0, .int .i64 1] w fun e w' => e = .returned cfgV ∧ Upd [] w w' := by
  go_enter Tryz.func31, Tryz.ntmps31
  go_wp2_with fail
  refine (Within_any _ _ _ (by decide) (by decide)).mono ?_
  rintro e w' ⟨rfl, rfl⟩
  go_wp2_with fail
  refine (standard_one _).mono ?_
  rintro e w2 ⟨rfl, hu⟩
  have H2 := Lib.hid (((own_start w).box _ |>.upd0 hu).box cfgO)
  clear hu
  go_upto_region 2 with fail
  have d0 : CfgAt (w2.alloc cfgO) w2.heap.size := cfg_range (range_blk (H2.out.blkAt 0 (b := w2.heap.size) (o := cfgO) rfl))
  generalize w2.heap.size = c at *
  generalize w2.alloc cfgO = w3 at *
  go_upto_region 3 with fail
  have H3 := Lib.hid (H2.out.box (.cells #[.int .i64 2, .int .i64 2, .int .i64 4, .int .i64 64, .int .i64 8, .int .i64 8, .int .i64 8, .int .i64 1, .int .i64 2, .int .i64 12, .int .i64 8, .int .i64 6, .int .i64 2, .int .i64 6] 3))
  clear d0 H2
  generalize w3.heap.size = a at *
  generalize w3.alloc _ = w4 at *
  go_upto_region 5 with fail
  have H4 := Lib.hid ((H3.out.alloc (.cells #[.int .i64 1, .int .i64 1, .int .i64 1, .int .i64 1, .int .i64 1, .int .i64 1, .int .i64 2, .int .i64 0, .int .i64 1, .int .i64 2, .int .i64 0, .int .i64 2, .int .i64 1, .int .i64 1] 3)).alloc (.cells #[.int .i64 4, .int .i64 4, .int .i64 16, .int .i64 256, .int .i64 64, .int .i64 64, .int .i64 63, .int .i64 9, .int .i64 8, .int .i64 63, .int .i64 65, .int .i64 63, .int .i64 16, .int .i64 64] 3))
  clear H3
  generalize (w4.alloc _).alloc _ = w5 at *
  go_wp2_with fail
  go_loop [11] (fun n => n = .int .i64 0) (fun _ => 0)
  case atStart => rfl
  case round =>
    subst hrel
    go_upto_region 10 with fail
    obtain ⟨-, ea, -⟩ := blk_facts (H4.out.blkAt 0 rfl)
    have c0 := (blk_at' H4.out 1 (b := c) (T := 57) (cs := cfgCs) rfl 0 (v := .int .i64 1) rfl).1
    obtain ⟨hpl, ep, fp⟩ := blk_facts (H4.out.blkAt 2 rfl)
    refine Mix.wp_text2 (by kernel_rfl) (by kernel_rfl) ?_
    go_wp2_with fail
    refine ⟨by rfl, ?_⟩
    go_wp2_with fail
    have h5 := ((((((((((((((((H4.out.bring 2 rfl).store 0 (.int .i64 1)).store 1 (.int .i64 2)).store 2 (.int .i64 2)).store 3 (.int .i64 4)).store 4 (.int .i64 64)).store 5 (.int .i64 8)).store 6 (.int .i64 8)).store 7 (.int .i64 8)).store 8 (.int .i64 1)).store 9 (.int .i64 2)).store 10 (.int .i64 12)).store 11 (.int .i64 8)).store 12 (.int .i64 6)).store 13 (.int .i64 2)).store 14 (.int .i64 6)).drew
    have hb : (_ : World).heap[w.heap.size]? = some cfgO := h5.blk_out
    have HU := Lib.hid (upd_start h5)
    have HR := Lib.hid (cfg_range (range_blk hb))
    clear h5 hb H4 ea c0 hpl ep fp
    generalize (World.setCell _ _ _).drew = w6 at *
    have d0 : CfgAt w6 w.heap.size := HR.out
    refine bodyPost_ret (v := cfgV) (by simp [results, Tryz.results31, go_sem, d0]) rfl ⟨rfl, HU.out⟩

theorem faulty_nil (w : World) : Calls Tryz.prog 32 #[cfgV, .slice none 0 0] w fun e w' => e = .returned (.slice none 0 0) ∧ Upd [] w w' := by
  go_enter Tryz.func32, Tryz.ntmps32
  go_wp2_with fail
  refine (rnodes_one _).mono ?_
  rintro e w' ⟨rfl, rfl⟩
  go_wp2_with fail
  go_loop [5, 8] (fun v n => v = .slice none 0 0 ∧ n = .int .i64 0) (fun _ _ => 0)
  case atStart => exact ⟨rfl, rfl⟩
  case round =>
    obtain ⟨rfl, rfl⟩ := hrel
    go_wp2_with fail
    go_ret
    exact ⟨rfl, (Upd.refl _ _).alloc _⟩
end
end Go.Proofs.YtimdphlolmbhnaaGreat

/- play: Begin of an empty script; audit's example. -/
namespace Go.Proofs.YtimdphlolmbhnaaGreat
open Go.RowKit Go.Heap

section
variable {B : Nat} {w0 w W W' : World} {ss rs : List Res}

abbrev prCs (x p : Nat) : Array Value := #[.int .i64 1, .int .i64 2, .int .i64 2, .int .i64 4, .int .i64 64, .int .i64 8, .int .i64 8, .int .i64 8, .int .i64 1, .int .i64 2, .int .i64 12, .int .i64 8, .int .i64 6, .int .i64 2, .int .i64 6, ptrV x, ptrV p]

theorem results_cell {P : Program} {fn : Func} {t u : Tmp} {ty : TypeId} (h : fn.results = #[.cell t ty, .tmp u]) (tmps : Array Value) {w : World} {b : Nat} {cs : List Value} {d : TypeDesc} (hp : tmps.getD t undef = .pointer (some ⟨b, 0, none⟩)) {v : Value} (hv : tmps.getD u undef = v)
    (hc : w.rangeAt b 0 cs) (hu : P.underlying ty = some d) (hd : d.isRow = true) (hi : (P.info? ty).map (·.size) = some cs.length) : (results fn tmps).run P w = .ok (.tuple #[.agg cs.toArray, v]) w := by
  have hl := run_loadVar_mid (P := P) w b 0 ty cs d hc hu hd hi
  simp at hp hv
  simp [results, h, hp, hv, hl, asAddr]

set_option maxHeartbeats 1600000 in
set_option maxRecDepth 100000 in
theorem begin_zero (h : Own B w0 W ss) :
    Calls Tryz.prog 23 #[.agg #[.int .i64 0, .slice none 0 0, .slice none 0 0, .slice none 0 0], .int .i64 1] W fun e w' => ∃ (x : Cr) (p : Nat), e = .returned (.tuple #[.agg (prCs x.p p), .bool true]) ∧ CrOk x 4 2 ∧ Own B w0 w' (crL x ++ ss) := by
  have H := Lib.hid h
  clear h
  go_enter Tryz.func23, Tryz.ntmps23
  go_wp2_with fail
  refine (config_zero _).mono ?_
  rintro e w2 ⟨rfl, hu⟩
  have H2 := Lib.hid (((H.out.box _).boxAt _ (n := W.heap.size + 1) (by simp)).upd0 hu)
  clear hu H
  generalize W.heap.size = s0 at *
  go_upto_region 2 with fail
  have H3 := Lib.hid (H2.out.box cfgO)
  clear H2
  generalize w2.heap.size = c at *
  generalize w2.alloc _ = w3 at *
  obtain ⟨f2, -⟩ := blk_at' H3.out 2 (b := s0) rfl 2 (v := .slice none 0 0) rfl
  have d0 : CfgAt w3 c := cfg_range (range_blk (H3.out.blkAt 0 (b := c) (o := cfgO) rfl))
  go_wp2_with fail
  refine (faulty_nil _).mono ?_
  rintro e w4 ⟨rfl, hu⟩
  have H4 := Lib.hid (H3.out.upd0 hu)
  clear hu H3 d0 f2
  have d0 : CfgAt w4 c := cfg_range (range_blk (H4.out.blkAt 0 (b := c) (o := cfgO) rfl))
  have HC := Lib.hid (cluster_new H4.out)
  clear H4
  go_wp2_with fail
  clear d0
  refine HC.out.mono ?_
  rintro e w5 ⟨x, rfl, hx, h5⟩
  have H5 := Lib.hid (h5.perm (List.perm_append_comm_assoc (crL x) [_, _, _] ss))
  have HX := Lib.hid hx
  clear HC h5 hx
  have d0 : CfgAt w5 c := cfg_range (range_blk (H5.out.blkAt 0 (b := c) (o := cfgO) rfl))
  have HC := Lib.hid (rcluster_new H5.out)
  clear H5
  go_wp2_with fail
  clear d0
  refine HC.out.mono ?_
  rintro e w6 ⟨p, rfl, h6⟩
  have H7 := Lib.hid h6
  clear HC h6
  have d0 : CfgAt w6 c := cfg_range (range_blk (H7.out.blkAt 0 (b := c) (o := cfgO) rfl))
  obtain ⟨hpl, ep, fp⟩ := blk_facts (H7.out.blkAt 1 rfl)
  go_wp2_with fail
  have k0 : Own B w0 _ (blk (s0 + 1) (.cells #[.int .i64 1, .int .i64 2, .int .i64 2, .int .i64 4, .int .i64 0, .int .i64 0, .int .i64 0, .int .i64 0, .int .i64 0, .int .i64 0, .int .i64 0, .int .i64 0, .int .i64 0, .int .i64 0, .int .i64 0, nilP, nilP] 61 (0, 0)) :: _) := ((((H7.out.swap).store 0 (.int .i64 1)).store 1 (.int .i64 2)).store 2 (.int .i64 2)).store 3 (.int .i64 4)
  have k4 : Own B w0 _ (blk (s0 + 1) (.cells #[.int .i64 1, .int .i64 2, .int .i64 2, .int .i64 4, .int .i64 64, .int .i64 8, .int .i64 8, .int .i64 8, .int .i64 0, .int .i64 0, .int .i64 0, .int .i64 0, .int .i64 0, .int .i64 0, .int .i64 0, nilP, nilP] 61 (0, 0)) :: _) := ((((k0).store 4 (.int .i64 64)).store 5 (.int .i64 8)).store 6 (.int .i64 8)).store 7 (.int .i64 8)
  have k8 : Own B w0 _ (blk (s0 + 1) (.cells #[.int .i64 1, .int .i64 2, .int .i64 2, .int .i64 4, .int .i64 64, .int .i64 8, .int .i64 8, .int .i64 8, .int .i64 1, .int .i64 2, .int .i64 12, .int .i64 8, .int .i64 0, .int .i64 0, .int .i64 0, nilP, nilP] 61 (0, 0)) :: _) := ((((k4).store 8 (.int .i64 1)).store 9 (.int .i64 2)).store 10 (.int .i64 12)).store 11 (.int .i64 8)
  have k12 : Own B w0 _ (blk (s0 + 1) (.cells #[.int .i64 1, .int .i64 2, .int .i64 2, .int .i64 4, .int .i64 64, .int .i64 8, .int .i64 8, .int .i64 8, .int .i64 1, .int .i64 2, .int .i64 12, .int .i64 8, .int .i64 6, .int .i64 2, .int .i64 6, ptrV x.p, nilP] 61 (0, 0)) :: _) := ((((k8).store 12 (.int .i64 6)).store 13 (.int .i64 2)).store 14 (.int .i64 6)).store 15 (ptrV x.p)
  have k16 : Own B w0 _ (blk (s0 + 1) (.cells #[.int .i64 1, .int .i64 2, .int .i64 2, .int .i64 4, .int .i64 64, .int .i64 8, .int .i64 8, .int .i64 8, .int .i64 1, .int .i64 2, .int .i64 12, .int .i64 8, .int .i64 6, .int .i64 2, .int .i64 6, ptrV x.p, ptrV p] 61 (0, 0)) :: _) := (k12).store 16 (ptrV p)
  have h8 := k16
  clear k0 k4 k8 k12
  have hb : (_ : World).heap[s0 + 1]? = some (.cells (prCs x.p p) 61) := h8.blk_out
  have H8 := Lib.hid h8.drop.drop.drop
  have HR := Lib.hid (range_blk hb)
  clear h8 hb hpl ep fp d0 H7
  generalize World.setCell _ _ _ = w7 at *
  exact bodyPost_ret (results_cell (t := 4) (u := 5) (ty := 61) rfl _ rfl rfl HR.out Tryz.underlying61 rfl (by kernel_rfl)) rfl ⟨x, p, rfl, HX.out, H8.out⟩

end
end Go.Proofs.YtimdphlolmbhnaaGreat

/- audit's example: it returns true, and turns nothing. -/
namespace Go.Proofs.YtimdphlolmbhnaaGreat
open Go.RowKit Go.Heap

def zeroEn : En := ⟨⟨0, 0, 0, 0, 0, 0⟩, 0⟩

set_option maxHeartbeats 2000000 in
set_option maxRecDepth 100000 in
theorem wakes26_any (W : World) : Calls Tryz.prog 9 #[] W fun e w' => e = .returned (.bool true) ∧ Below W.heap.size W w' := by
  have HB := Lib.hid (begin_zero (own_start W))
  go_enter Tryz.func9, Tryz.ntmps9
  go_wp2_with fail
  refine HB.out.mono ?_
  rintro e w1 ⟨x, p, rfl, hx, h1⟩
  have H1 := Lib.hid h1
  have HX := Lib.hid hx
  clear h1 hx HB
  go_upto_region 2 with fail
  have H2 := Lib.hid (H1.out.alloc (.cells (prCs x.p p) 61))
  have H2b := Lib.hid (own_start (w1.alloc (.cells (prCs x.p p) 61 (0, 0))))
  have hb := heap_alloc_new w1 (.cells (prCs x.p p) 61 (0, 0))
  have d0 : CfgAt (w1.alloc (.cells (prCs x.p p) 61 (0, 0))) w1.heap.size := cfg_range (fun j v hj => range_blk hb j v (by
    have hj2 : j < 15 := (List.getElem?_eq_some_iff.1 hj).1
    have e : (prCs x.p p).toList = cfgCs.toList ++ [ptrV x.p, ptrV p] := rfl
    rw [e, List.getElem?_append_left (by exact hj2)]
    exact hj))
  have d15 := range_get (range_blk hb) 15 (v := ptrV x.p) rfl
  clear hb
  generalize w1.heap.size = q at *
  generalize w1.alloc _ = w2 at *
  have HC := Lib.hid (audit_cluster H2.out HX.out)
  clear H1 H2b
  go_wp2_with fail
  refine HC.out.mono ?_
  rintro e w3 ⟨rfl, h3⟩
  have H3 := Lib.hid h3
  clear h3 HC H2 d0 d15
  have HE : Hid (Ens (w3.alloc (enBox zeroEn)) (.slice (some ⟨w3.heap.size, 0, none⟩) 1 1) [zeroEn]) := Lib.hid ⟨_, _, rfl, by simp, by unfold maxLen; simp, rfl, (fun e => by cases e), fun _ => ⟨_, _, rfl, by simp, fun j hj => by rw [Nat.zero_add, block_cell (heap_alloc_new w3 (enBox zeroEn))]; simp [ensCells, enCells]⟩⟩
  have HG := Lib.hid (given_any _ [zeroEn] 0 (.slice none 0 0) [] _ (by simp) (by simp) HE.out (Reads.nil _ _))
  have H4 := Lib.hid (H3.out.alloc (enBox zeroEn))
  go_wp2_with fail
  refine HG.out.mono ?_
  rintro e w4 ⟨rfl, hu⟩
  have H5 := Lib.hid (H4.out.upd0 hu)
  have hg : givenB [zeroEn] 0 [] = false := by decide
  rw [hg]
  clear hu HG hg
  go_wp2_with fail
  go_ret
  exact ⟨rfl, H5.out.below⟩

end Go.Proofs.YtimdphlolmbhnaaGreat

/- The law AuditOrder, walked. -/
namespace Go.Proofs.YtimdphlolmbhnaaGreat
open Go.RowKit Go.Heap

theorem nat_in (v : Int) (n : Int) (h : 1 ≤ n) : ∃ k : Nat, v % n = (k : Int) ∧ (k : Int) < n := by
  obtain ⟨h1, h2⟩ := emod_in v n h
  exact ⟨(v % n).toNat, by omega, by omega⟩
theorem swapL_len (n : Nat) : (swapL n).length = n := by simp [swapL]
theorem swapL_next (n : Nat) : swapL (n + 1) = swapL n ++ [swapEn n] := by simp [swapL, List.range_succ]
theorem swapL_get {n k : Nat} (h : k < n) : (swapL n)[k]'(by rw [swapL_len]; exact h) = swapEn k := by simp [swapL]
theorem swapped_len (n i k : Nat) : (swapped n i k).length = n := by simp [swapped, swapL_len]

/-- The log so far. -/
def SwMk (B : Nat) (w0 w : World) (j : Nat) (v : Value) : Prop := ∃ a c, v = .slice a j c ∧ Own B w0 w [ownR 40 7 (.slice a j c) j (ensCells (swapL j))]

set_option maxHeartbeats 4000000 in
set_option maxRecDepth 100000 in
theorem order_any (n i k : Int) (W : World) : Calls Tryz.prog 4 #[.int .i64 n, .int .i64 i, .int .i64 k] W fun e w' => e = .returned (.bool true) ∧ Below W.heap.size W w' := by
  obtain ⟨N0, hN0, hN1⟩ := nat_in n 8 (by decide)
  obtain ⟨N, hN⟩ : ∃ N, N = 2 + N0 := ⟨_, rfl⟩
  obtain ⟨I, hI0, hI1⟩ := nat_in i (N : Int) (by omega)
  obtain ⟨K, hK0, hK1⟩ := nat_in k (N : Int) (by omega)
  have HN0 := Lib.hid hN0
  have HN : Hid ((2 : Int) + (N0 : Int) = (N : Int)) := Lib.hid (by omega)
  have HI0 := Lib.hid hI0
  have HK0 := Lib.hid hK0
  have hI : I < N := by omega
  have hK : K < N := by omega
  have hN2 : 2 ≤ N := by omega
  have hN9 : N < 10 := by omega
  have hN8 : N0 < 8 := by omega
  clear hN0 hN1 hI0 hI1 hK0 hK1 hN
  go_enter Tryz.func4, Tryz.ntmps4
  go_wp2_with fail
  refine (Within_any _ _ _ (by decide) (by decide)).mono ?_
  rintro e w1 ⟨rfl, rfl⟩
  rw [HN0.out]
  go_wp2_with fail
  rw [HN.out]
  clear hN8
  refine (Within_any _ _ _ (by omega) (by omega)).mono ?_
  rintro e w1 ⟨rfl, rfl⟩
  rw [HI0.out]
  go_wp2_with fail
  refine (Within_any _ _ _ (by omega) (by omega)).mono ?_
  rintro e w1 ⟨rfl, rfl⟩
  rw [HK0.out]
  go_wp2_with fail
  have H0 : Hid (SwMk W.heap.size W W 0 (.slice none 0 0)) := Lib.hid ⟨none, 0, rfl, (own_start W).row0⟩
  obtain ⟨i0, hi, hz0, hz1, hz2⟩ := info_parts Tryz.infoEn
  go_loopw [7, 8] (fun v j wr => ∃ m : Nat, m ≤ N ∧ j = .int .i64 m ∧ Hid (SwMk W.heap.size W wr m v)) (fun _ j _ => N - (intOf j).toNat)
  case atStart => exact ⟨0, by omega, rfl, H0⟩
  case round =>
    clear H0
    obtain ⟨m, hm, rfl, H0⟩ := hrel
    obtain ⟨a, c, rfl, ho⟩ := H0.out
    have H1 := Lib.hid ho
    clear ho H0
    by_cases hlt : m < N
    · have hlI : (m : Int) < (N : Int) := by omega
      have hd := H1.out.alloc (enBox (swapEn m))
      have HD := Lib.hid hd
      have HW := Lib.hid (ownR_owns (hd.get 0 rfl))
      have HNW : Hid (∀ j u, (enCells (swapEn m))[j]? = some u → (wr.alloc (enBox (swapEn m))).cell? ((⟨wr.heap.size, 0, none⟩ : Addr).add j) = some u) := Lib.hid (World.news_of_block (heap_alloc_new wr (enBox (swapEn m))))
      have HON : Hid (∀ u ∈ enCells (swapEn m), u.oneCell' = true) := Lib.hid (fun u hu => ens_one [swapEn m] u (by simpa [ensCells] using hu))
      have HMX := Lib.hid (small_max (k := m) (by omega))
      have HM4 : Hid ((m + 1) * 56 ≤ 140737488355328) := Lib.hid (by omega)
      clear hd
      go_wp2_with (at_builtin; refine wpList_append_lies _ rfl (.tmp 24) (.tmp 30) 29 rfl 0 40 i0 (.agg #[.int .i64 0, .int .i64 0, .int .i64 0, .int .i64 0, .int .i64 0, .int .i64 0, .int .i64 0]) 7 56 Tryz.underlying29 hi hz0 hz1 hz2 rfl (by decide) _ m _ rfl HW.out ⟨wr.heap.size, 0, none⟩ 1 1 (enCells (swapEn m)) rfl rfl HNW.out HON.out (by decide) HMX.out HM4.out (Nat.zero_le _) _ rfl ?_)
      intro g cap w9 hown hgrow hat hlt5
      have h6 := HD.out.growAt 0 rfl hgrow (by simpa using hat) hown
      have HZ : Hid (SwMk W.heap.size W w9 (m + 1) (.slice (some ⟨g, 0, none⟩) (m + 1) cap)) := Lib.hid ⟨_, _, rfl, by
        have e : ensCells (swapL (m + 1)) = ensCells (swapL m) ++ enCells (swapEn m) := by rw [swapL_next]; simp [ensCells]
        rw [e]; exact h6⟩
      clear hown hgrow hat hlt5 h6 HD HW HNW HON HMX HM4 H1
      go_wp2_with fail
      go_roundw
      case rel => exact ⟨m + 1, by omega, by go_num, HZ⟩
      case measure => simp [intOf]; omega
    · have hmN : m = N := by omega
      have hlI : decide ((m : Int) < (N : Int)) = false := by simp; omega
      subst hmN
      have HL := Lib.hid (swapL_len m)
      have HC := Lib.hid (copy_any (.slice a m c) (swapL m) (by rw [swapL_len]; omega) (own_ens (v := .slice a m c) (E := 40) (l := swapL m) H1.out 0 (by rw [swapL_len]; rfl)) H1.out)
      go_wp2_with fail
      refine HC.out.mono ?_
      rintro e w2 ⟨a2, c2, rfl, -, h2⟩
      rw [HL.out] at h2
      rw [HL.out]
      obtain ⟨g, rfl, hc1, hc2, h3⟩ := own_rowSeg h2 (by omega)
      have H3 := Lib.hid h3
      have HC2 := Lib.hid (And.intro hc1 hc2)
      clear h2 h3 hc1 hc2 HC H1
      go_upto_region 9 with fail
      have hIl : I < (swapL m).length := by rw [swapL_len]; omega
      have hKl : K < (swapL m).length := by rw [swapL_len]; omega
      have hIi : (I : Int) < (m : Int) := by omega
      have hKi : (K : Int) < (m : Int) := by omega
      have RK := ens_range H3.out.drew 0 rfl K hKl
      have RI := ens_range H3.out.drew 0 rfl I hIl
      rw [swapL_get (by omega)] at RK RI
      have h4 := own_putEn H3.out.drew I hIl (swapEn K)
      have hKl2 : K < ((swapL m).set I (swapEn K)).length := by rw [List.length_set]; exact hKl
      have h5 := own_putEn h4 K hKl2 (swapEn I)
      have TI := ens_there H3.out.drew 0 rfl I hIl
      have TK := ens_there h4 0 rfl K hKl2
      obtain ⟨cI, hcI⟩ : ∃ c, c = enCells (swapEn I) := ⟨_, rfl⟩
      obtain ⟨cK, hcK⟩ : ∃ c, c = enCells (swapEn K) := ⟨_, rfl⟩
      rw [← hcI] at RI h5
      rw [← hcK] at RK TK h5
      have SI : Hid ((Tryz.prog.info? 40).map (·.size) = some cI.length) := Lib.hid (by rw [hcI]; exact en_size _)
      have SK : Hid ((Tryz.prog.info? 40).map (·.size) = some cK.length) := Lib.hid (by rw [hcK]; exact en_size _)
      have SI' : Hid ((Tryz.prog.info? 40).map (·.size) = some cI.toArray.size) := Lib.hid (by rw [hcI]; exact en_size' _)
      have SK' : Hid ((Tryz.prog.info? 40).map (·.size) = some cK.toArray.size) := Lib.hid (by rw [hcK]; exact en_size' _)
      have AI : Hid (cI.toArray.all (·.oneCell') = true) := Lib.hid (by rw [hcI]; exact en_allone _)
      have AK : Hid (cK.toArray.all (·.oneCell') = true) := Lib.hid (by rw [hcK]; exact en_allone _)
      have TI : Hid (w2.drew.there g (I * 7) cK.toArray.size) := Lib.hid (by rw [hcK]; exact TI)
      have TK : Hid ((w2.drew.setCells g (I * 7) cK.toArray.toList).there g (K * 7) cI.toArray.size) := Lib.hid (by rw [hcI]; exact TK)
      have RI := Lib.hid RI
      have RK := Lib.hid RK
      have H5 := Lib.hid h5
      clear hIl hKl hKl2 hcI hcK h4 h5
      refine Mix.wp_text2 (by kernel_rfl) (by kernel_rfl) ?_
      go_wp2_with (first
        | (refine wpList_load_mid rfl 40 (.tmp 40) rfl g (K * 7) rfl cK _ RK.out Tryz.underlying40 rfl SK.out ?_)
        | (refine wpList_load_mid rfl 40 (.tmp 44) rfl g (I * 7) rfl cI _ RI.out Tryz.underlying40 rfl SI.out ?_)
        | (refine wpList_store_mid rfl 40 (.tmp 46) (.tmp 41) rfl g (I * 7) cK.toArray rfl rfl TI.out SK'.out AK.out ?_)
        | (refine wpList_store_mid rfl 40 (.tmp 47) (.tmp 45) rfl g (K * 7) cI.toArray rfl rfl TK.out SI'.out AI.out ?_))
      refine ⟨by rfl, ?_⟩
      clear TI TK RI RK SI SK SI' SK' AI AK H3 hIi hKi
      generalize (w2.drew.setCells g (I * 7) cK).setCells g (K * 7) cI = w3 at *
      have e1 : Ens w3 (.slice a m c) (swapL m) := own_ens (v := .slice a m c) (E := 40) (l := swapL m) H5.out 1 (by rw [swapL_len]; rfl)
      have e2 : Ens w3 (.slice (some ⟨g, 0, none⟩) m c2) (swapped m I K) := by
        have h := own_ensSeg (cap := c2) (l := swapped m I K) H5.out 0 rfl (by rw [swapped_len]; exact HC2.out.1) HC2.out.2
        rw [swapped_len] at h
        exact h
      have hL1 : (swapL m).length ≤ 100000 := by rw [swapL_len]; omega
      have hL2 : (swapped m I K).length ≤ 100000 := by rw [swapped_len]; omega
      obtain ⟨l1, l2, l3, l4⟩ := swap_law hN2 hN9 hI hK
      have C1 : Hid (∀ wx, Upd [] w3 wx → Calls Tryz.prog 12 #[.slice a m c, .slice (some ⟨g, 0, none⟩) m c2] wx fun e w' => e = .returned (.bool (decide (I = K))) ∧ Upd [] w3 w') := Lib.hid (fun wx hx => (kept_any _ _ _ _ wx hL1 hL2 (e1.upd hx (by simp)) (e2.upd hx (by simp))).mono (fun e w' ⟨h1, h2⟩ => ⟨by rw [h1, l1], hx.trans h2⟩))
      have C2 : Hid (∀ wx, Upd [] w3 wx → Calls Tryz.prog 12 #[.slice (some ⟨g, 0, none⟩) m c2, .slice a m c] wx fun e w' => e = .returned (.bool (decide (I = K))) ∧ Upd [] w3 w') := Lib.hid (fun wx hx => (kept_any _ _ _ _ wx hL2 hL1 (e2.upd hx (by simp)) (e1.upd hx (by simp))).mono (fun e w' ⟨h1, h2⟩ => ⟨by rw [h1, l2], hx.trans h2⟩))
      have C3 : Hid (∀ wx, Upd [] w3 wx → Calls Tryz.prog 14 #[.slice a m c] wx fun e w' => e = .returned (.bool true) ∧ Upd [] w3 w') := Lib.hid (fun wx hx => (once_any _ _ wx hL1 (e1.upd hx (by simp))).mono (fun e w' ⟨h1, h2⟩ => ⟨by rw [h1, l3], hx.trans h2⟩))
      have C4 : Hid (∀ wx, Upd [] w3 wx → Calls Tryz.prog 14 #[.slice (some ⟨g, 0, none⟩) m c2] wx fun e w' => e = .returned (.bool (decide (I = K))) ∧ Upd [] w3 w') := Lib.hid (fun wx hx => (once_any _ _ wx hL2 (e2.upd hx (by simp))).mono (fun e w' ⟨h1, h2⟩ => ⟨by rw [h1, l4], hx.trans h2⟩))
      have HB := Lib.hid H5.out.below
      clear e1 e2 hL1 hL2 l1 l2 l3 l4 H5 HC2 HL
      go_wp2_with fail
      refine (C1.out _ (Upd.refl _ _)).mono ?_
      rintro e w4 ⟨rfl, hu⟩
      by_cases hIK : I = K
      · have hd : decide (I = K) = true := decide_eq_true hIK
        have hdI : ((I : Int) == (K : Int)) = true := by simp [hIK]
        rw [hd]
        go_wp2_with fail
        refine (C2.out _ hu).mono ?_
        rintro e w5 ⟨rfl, hu5⟩
        rw [hd]
        go_wp2_with fail
        refine (C3.out _ hu5).mono ?_
        rintro e w6 ⟨rfl, hu6⟩
        go_wp2_with fail
        refine (C4.out _ hu6).mono ?_
        rintro e w7 ⟨rfl, hu7⟩
        rw [hd]
        go_wp2_with fail
        refine (wakes26_any _).mono ?_
        rintro e w8 ⟨rfl, hb8⟩
        go_wp2_with fail
        go_ret
        exact ⟨rfl, HB.out.trans ((hu7.below.trans (hb8.mono hu7.size)).mono HB.out.size)⟩
      · have hd : decide (I = K) = false := decide_eq_false hIK
        have hdI : ((I : Int) == (K : Int)) = false := by simp; omega
        rw [hd]
        go_wp2_with fail
        refine (C2.out _ hu).mono ?_
        rintro e w5 ⟨rfl, hu5⟩
        rw [hd]
        go_wp2_with fail
        refine (C3.out _ hu5).mono ?_
        rintro e w6 ⟨rfl, hu6⟩
        go_wp2_with fail
        refine (C4.out _ hu6).mono ?_
        rintro e w7 ⟨rfl, hu7⟩
        rw [hd]
        go_wp2_with fail
        refine (wakes26_any _).mono ?_
        rintro e w8 ⟨rfl, hb8⟩
        go_wp2_with fail
        go_ret
        exact ⟨rfl, HB.out.trans ((hu7.below.trans (hb8.mono hu7.size)).mono HB.out.size)⟩

end Go.Proofs.YtimdphlolmbhnaaGreat
