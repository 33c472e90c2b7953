/- Parts of the proof, one behind the other. -/
import Derived.Test.YtimdphlolmbhnaaGreatAudB9

/- node: New, of the usual cluster of four. -/
namespace Go.Proofs.YtimdphlolmbhnaaGreat
open Go.RowKit Go.Heap

abbrev cfgO : Obj := .cells cfgCs 57 (0, 0)
abbrev tabO : Obj := .cells #[.int .i64 1, .int .i64 2, .slice none 0 0] 257 (0, 0)
abbrev votO (g : Nat) : Obj := .cells #[.int .i64 1, .slice (some ⟨g, 0, none⟩) 4 4] 260 (0, 0)
abbrev vgO : Obj := .cells (madeCells #[.bool false, .int .i64 0, .int .i64 0] 12) 327 (0, 0)
abbrev grdO : Obj := .cells #[.int .i64 8, .int .i64 8, .slice none 0 0] 263 (0, 0)
abbrev mtO (g : Nat) : Obj := .cells #[.slice (some ⟨g, 0, none⟩) 2 2] 266 (0, 0)
abbrev mgO : Obj := .cells (madeCells #[.complex .f64 0 0] 2) 330 (0, 0)
abbrev ptO : Obj := .cells (madeCells #[.int .i64 0, .int .i64 0, .slice none 0 0, .slice none 0 0, .int .i64 0] 20) 309 (0, 0)
abbrev bgO : Obj := .cells (madeCells #[.int .i64 0, .int .i64 0, .int .i64 0, .int .i64 0, .int .i64 0, .int .i64 0, .int .i64 0, .slice none 0 0, .slice none 0 0, .slice none 0 0, .slice none 0 0] 22) 311 (0, 0)
abbrev z17O : Obj := .cells (madeCells #[.int .i64 0] 17) 3 (0, 0)

abbrev ndCs (id : Int) (nt t : Nat) (v1 tb vt gd bk mt pt bg v2 v3 : Value) : List Value := [.int .i64 1, .int .i64 2, .int .i64 2, .int .i64 4, .int .i64 64, .int .i64 8, .int .i64 8, .int .i64 8, .int .i64 1, .int .i64 2, .int .i64 12, .int .i64 8, .int .i64 6, .int .i64 2, .int .i64 6,
  .int .i64 id, .pointer (some ⟨nt, 0, none⟩), .pointer (some ⟨t, 0, none⟩), v1, tb, vt, gd, bk, mt, pt, bg, v2, v3, .int .i64 0, .int .i64 0, .int .i64 (-1), .int .i64 0, .int .i64 0, .bool false, .slice none 0 0, .int .i64 0, .int .i64 0, .int .i64 0, .int .i64 0, .int .i64 0]
abbrev ptrV (p : Nat) : Value := .pointer (some ⟨p, 0, none⟩)
abbrev nilS : Value := .slice none 0 0
abbrev nilP : Value := .pointer none

/-- What a round of New makes: an instance, two rows. -/
structure Rd where
  x : Ins
  a : Nat
  b : Nat
abbrev Rd.va (r : Rd) : Value := .slice (some ⟨r.a, 0, none⟩) 17 17
abbrev Rd.vb (r : Rd) : Value := .slice (some ⟨r.b, 0, none⟩) 17 17
def rdR (r : Rd) : List Res := [instR r.x, blk r.a z17O, blk r.b z17O]

def RdOk (rs : List Rd) (k : Nat) : Prop := rs.length = k ∧ ∀ (j : Nat) (r : Rd), rs[j]? = some r → r.x.st = newI 1 (j : Int) 4

theorem RdOk.add {rs : List Rd} {k : Nat} (h : RdOk rs k) (r : Rd) (hr : r.x.st = newI 1 (k : Int) 4) : RdOk (rs ++ [r]) (k + 1) := by
  obtain ⟨h1, h2⟩ := h
  refine ⟨by simp [h1], fun j q hq => ?_⟩
  rw [List.getElem?_append] at hq
  split at hq
  · exact h2 j q hq
  · have hj : j = k := by
      have := (List.getElem?_eq_some_iff.1 hq).1
      simp at this
      omega
    subst hj
    rw [h1] at hq
    simp at hq
    subst hq
    exact hr

/-- A node that is being made: k rounds. -/
def NdMk (B : Nat) (w0 w : World) (p q : Nat) (id : Int) (nt t : Nat) (k : Nat) (ss : List Res) : Prop :=
  ∃ (rs : List Rd) (a1 a2 a3 : Option Addr) (c1 c2 c3 : Nat), RdOk rs k ∧
    Own B w0 w (segR p 184 (ndCs id nt t (.slice a1 k c1) nilP nilP nilP nilP nilP nilS nilS (.slice a2 k c2) (.slice a3 k c3)) ::
      ownR 185 1 (.slice a1 k c1) k (rs.map fun r => r.x.ptr) :: ownR 64 1 (.slice a2 k c2) k (rs.map Rd.va) :: ownR 64 1 (.slice a3 k c3) k (rs.map Rd.vb) :: blk q cfgO :: blk t clockO :: (rs.flatMap rdR ++ ss))

/-- A node. -/
structure Nd where
  p : Nat
  q : Nat
  id : Int
  nt : Nat
  t : Nat
  a1 : Option Addr
  a2 : Option Addr
  a3 : Option Addr
  c1 : Nat
  c2 : Nat
  c3 : Nat
  rs : List Rd
  tb : Nat
  vt : Nat
  vg : Nat
  gd : Nat
  bk : Lg
  mt : Nat
  mg : Nat
  pt : Nat
  bg : Nat
abbrev Nd.cs (x : Nd) : List Value := ndCs x.id x.nt x.t (.slice x.a1 2 x.c1) (ptrV x.tb) (ptrV x.vt) (ptrV x.gd) (ptrV x.bk.p) (ptrV x.mt) (.slice (some ⟨x.pt, 0, none⟩) 4 4) (.slice (some ⟨x.bg, 0, none⟩) 2 2) (.slice x.a2 2 x.c2) (.slice x.a3 2 x.c3)
def ndL (x : Nd) : List Res := blk x.bg bgO :: blk x.pt ptO :: blk x.mt (mtO x.mg) :: blk x.mg mgO :: (lgL x.bk ++ (blk x.gd grdO :: blk x.vt (votO x.vg) :: blk x.vg vgO :: blk x.tb tabO ::
  segR x.p 184 x.cs :: ownR 185 1 (.slice x.a1 2 x.c1) 2 (x.rs.map fun r => r.x.ptr) :: ownR 64 1 (.slice x.a2 2 x.c2) 2 (x.rs.map Rd.va) :: ownR 64 1 (.slice x.a3 2 x.c3) 2 (x.rs.map Rd.vb) :: blk x.q cfgO :: blk x.t clockO :: x.rs.flatMap rdR))
def nodeR (x : Nd) : Res := joinR (ndL x)
structure NdOk (x : Nd) : Prop where
  rs : RdOk x.rs 2
  bk : LgOk x.bk
  lp : x.bk.lp = newL 2

section
variable {B : Nat} {w0 w W W' : World} {ss : List Res}

theorem perm_more (r1 r2 r3 : Res) (hd rows ss : List Res) : (r1 :: r2 :: r3 :: (hd ++ (rows ++ ss))).Perm (hd ++ ((rows ++ [r3, r2, r1]) ++ ss)) := by
  have h1 : (r1 :: r2 :: r3 :: (hd ++ (rows ++ ss))).Perm (r3 :: r2 :: r1 :: (hd ++ (rows ++ ss))) := (List.Perm.swap _ _ _).trans (((List.Perm.swap _ _ _).cons _).trans (List.Perm.swap _ _ _))
  refine h1.trans ?_
  have h2 := List.perm_append_comm_assoc [r3, r2, r1] (hd ++ rows) ss
  simp only [List.append_assoc, List.cons_append, List.nil_append] at h2 ⊢
  exact h2

theorem Tryz.infoPi : (Tryz.prog.info? 185).map (fun i => (i.zero, i.size, i.bytes)) = some (some (.pointer none), 1, 8) := by kernel_rfl
theorem Tryz.infoSi : (Tryz.prog.info? 64).map (fun i => (i.zero, i.size, i.bytes)) = some (some (.slice none 0 0), 1, 24) := by kernel_rfl

theorem seg_at {rs : List Res} (h : Own B w0 W rs) (k : Nat) {b : Nat} {T : TypeId} {vals : List Value} (e : rs[k]? = some (segR b T vals)) (i : Nat) {v : Value} (hv : vals[i]? = some v) : W.cell? ⟨b, i, none⟩ = some v ∧ W.frozen? ⟨b, i, none⟩ = false := by
  obtain ⟨-, q2, q3⟩ := segR_at (h.get k e)
  exact ⟨(q2 i (List.getElem?_eq_some_iff.1 hv).1).trans hv, q3 i⟩
theorem blk_at' {rs : List Res} (h : Own B w0 W rs) (k : Nat) {b : Nat} {T : TypeId} {cs : Array Value} (e : rs[k]? = some (blk b (.cells cs T (0, 0)))) (i : Nat) {v : Value} (hv : cs[i]? = some v) : W.cell? ⟨b, i, none⟩ = some v ∧ W.frozen? ⟨b, i, none⟩ = false := by
  have hb := h.blkAt k e
  exact ⟨(block_cell hb i).trans hv, block_frozen hb i⟩

theorem one_one {v : Value} (h : v.oneCell' = true) : ∀ u ∈ [v], u.oneCell' = true := by intro u hu; simp at hu; subst hu; exact h
theorem small_max {k : Nat} (h : k ≤ 1000) : k + 1 ≤ maxLen := by unfold maxLen; omega
theorem small_24 {k : Nat} (h : k ≤ 1000) : (k + 1) * 24 ≤ 140737488355328 := by omega
theorem size2 {w : World} {o o' : Obj} : ((w.alloc o).alloc o').drew.heap.size = w.heap.size + 2 := by simp
theorem news2 {w : World} {o : Obj} {v : Value} {T : TypeId} : ∀ j u, [v][j]? = some u → ((w.alloc o).alloc (.cells #[v] T (0, 0))).drew.cell? ((⟨w.heap.size + 1, 0, none⟩ : Addr).add j) = some u :=
  news_at (w := ((w.alloc o).alloc (.cells #[v] T (0, 0))).drew) (cs := #[v]) (T := T) (hp_new (w := w.alloc o) (by simp))

theorem ndmk_start {q p t : Nat} {id : Int} {nt : Nat} (h : Own B w0 W (segR p 184 (ndCs id nt t nilS nilP nilP nilP nilP nilP nilS nilS nilS nilS) :: blk q cfgO :: blk t clockO :: ss)) : NdMk B w0 W p q id nt t 0 ss := by
  refine ⟨[], none, none, none, 0, 0, 0, ⟨rfl, by simp⟩, ?_⟩
  exact ((h.row0 (E := 64) (sz := 1)).row0 (E := 64) (sz := 1)).swap.row0 (E := 185) (sz := 1) |>.perm (by
    refine List.Perm.trans (List.perm_middle (l₁ := [_, _, _])) (List.Perm.refl _) )

set_option maxHeartbeats 4000000 in
set_option maxRecDepth 100000 in
theorem node_new (id : Int) (nt : Nat) (h0 : 0 ≤ id) (h2 : id < 4) (h : Own B w0 W ss) :
    Calls Tryz.prog 62 #[cfgV, .int .i64 id, .pointer (some ⟨nt, 0, none⟩)] W fun e w' => ∃ x : Nd, e = .returned (.tuple #[.pointer (some ⟨x.p, 0, none⟩), .int .i64 0]) ∧ x.id = id ∧ x.nt = nt ∧ NdOk x ∧ Own B w0 w' (nodeR x :: ss) := by
  have H := Lib.hid h
  clear h
  go_enter Tryz.func62, Tryz.ntmps62
  go_wp2_with fail
  have hb := heap_alloc_new W (.cells cfgCs 57)
  have H1 := Lib.hid (H.out.box cfgO)
  generalize hq : W.heap.size = q at *
  generalize W.alloc (.cells cfgCs 57) = w1 at *
  refine (cvalid _).mono ?_
  rintro e w2 ⟨rfl, hu⟩
  have H2 := Lib.hid (H1.out.upd0 hu)
  have hr : w2.rangeAt q 0 cfgCs.toList := range_upd hu (range_blk hb)
  have c0 : w2.cell? ⟨q, 0, none⟩ = some (.int .i64 1) := hr 0 _ rfl
  have HR := Lib.hid hr
  clear hu hb H1 H hr
  go_wp2_with fail
  refine (nodes_one _).mono ?_
  rintro e w' ⟨rfl, rfl⟩
  go_wp2_with fail
  have d0 : CfgAt w2.drew q := cfg_range HR.out
  have HC := Lib.hid (clock_new2 H2.out.drew)
  clear HR H2 c0
  go_region_held3 (fun w' => CfgAt w' q)
    (first | (with_reducible exact d0) | (with_reducible exact e0) | (with_reducible exact cfg_alloc e0))
    (first | (go_at_call 86; refine HC.out.mono ?_; rintro e w3 ⟨t, rfl, hu3, h3⟩; have H3 := Lib.hid h3; have e0 := cfg_upd hu3 d0; clear h3 hu3))
  go_wp2_with fail
  have H4 := Lib.hid (ndmk_start (own_toSeg (T := 184) (cs := (ndCs id nt t nilS nilP nilP nilP nilP nilP nilS nilS nilS nilS).toArray) ((H3.out.box _).perm (by exact List.Perm.cons _ (List.Perm.swap _ _ _))) rfl))
  clear H3 e0 d0 HC
  generalize hp : w3.heap.size = p at *
  generalize w3.alloc _ = w4 at *
  clear hp
  obtain ⟨i0, hi, hz0, hz1, hz2⟩ := info_parts Tryz.infoPi
  obtain ⟨j0, hj, hy0, hy1, hy2⟩ := info_parts Tryz.infoSi
  go_loopw [9] (fun n wr => ∃ k : Nat, k ≤ 2 ∧ n = .int .i64 k ∧ Hid (NdMk B w0 wr p q id nt t k ss)) (fun n _ => 2 - (intOf n).toNat)
  case atStart => exact ⟨0, by omega, rfl, H4⟩
  case round =>
    clear H4
    obtain ⟨k, hk, rfl, HM⟩ := hrel
    obtain ⟨rs, a1, a2, a3, c1, c2, c3, hok, hown⟩ := HM.out
    have HOK := Lib.hid hok
    have HO := Lib.hid hown
    obtain ⟨q0, -⟩ := blk_at' hown 4 (b := q) (T := 57) (cs := cfgCs) rfl 0 (v := .int .i64 1) rfl
    obtain ⟨q3, -⟩ := blk_at' hown 4 (b := q) (T := 57) (cs := cfgCs) rfl 3 (v := .int .i64 4) rfl
    clear hok hown HM
    by_cases hlt : k < 2
    · have hkI : (k : Int) ≤ 1 := by omega
      have HN := Lib.hid (ins_new 1 k 4 (by omega) (by omega) (by omega) (by omega) (by omega) (by omega) HO.out)
      go_wp2_with fail
      refine HN.out.mono ?_
      rintro e w5 ⟨x, rfl, hx, h5⟩
      have HX := Lib.hid hx
      have H5 := Lib.hid h5
      obtain ⟨p18, z18⟩ := seg_at h5 1 rfl 18 rfl
      have HW := Lib.hid (ownR_owns ((h5.alloc (.cells #[x.ptr] 185)).get 2 rfl))
      clear hx h5 HN HO q0 q3
      go_wp2_with (at_builtin; refine wpList_append_lies _ rfl (.tmp 51) (.tmp 53) 172 rfl 0 185 i0 (.pointer none) 1 8 Tryz.underlying172 hi hz0 hz1 hz2 rfl (by decide) _ k _ rfl HW.out ⟨w5.heap.size, 0, none⟩ 1 1 [x.ptr] rfl rfl ?c1 ?c2 (by decide) ?c3 ?c4 (Nat.zero_le _) _ rfl ?c6)
      case c1 => exact World.news_of_block (heap_alloc_new w5 _)
      case c2 => intro u hu; simp at hu; subst hu; rfl
      case c3 => unfold maxLen; omega
      case c4 => omega
      case c6 =>
        intro g cap2 w6 hown hgrow hat hlt6
        have h6 := (H5.out.alloc (.cells #[x.ptr] 185)).growAt 2 rfl hgrow (by simpa using hat) hown
        have H6 := Lib.hid h6
        obtain ⟨p18, z18⟩ := seg_at h6 1 rfl 18 rfl
        clear hown hgrow hat hlt6 h6 H5 HW
        have hmk := run_make_i17
        go_wp2_with fail
        have H7 := Lib.hid (H6.out.putAt 1 rfl 18 (.slice (some ⟨g, 0, none⟩) (k + 1) cap2))
        clear H6 p18 z18
        generalize w6.setCell ⟨p, 18, none⟩ (.slice (some ⟨g, 0, none⟩) (k + 1) cap2) = w7 at *
        have hd := (((H7.out.box z17O).alloc (.cells #[.slice (some ⟨w7.heap.size, 0, none⟩) 17 17] 64))).drew
        obtain ⟨d26, -⟩ := seg_at H7.out.drew 1 rfl 26 rfl
        have HF1 : Hid (∀ o, (w7.alloc o).drew.cell? ⟨p, 26, none⟩ = some (.slice a2 k c2)) := Lib.hid (fun o => cell_allocd (w := w7) d26)
        have HF2 : Hid (∀ o o', ((w7.alloc o).alloc o').drew.cell? ⟨p, 26, none⟩ = some (.slice a2 k c2)) := Lib.hid (fun o o' => cell_allocd (cell_allocd (w := w7) d26))
        have HD := Lib.hid hd
        have HNW := Lib.hid (news2 (w := w7) (o := z17O) (v := .slice (some ⟨w7.heap.size, 0, none⟩) 17 17) (T := 64))
        have HON := Lib.hid (one_one (v := .slice (some ⟨w7.heap.size, 0, none⟩) 17 17) rfl)
        have HMX := Lib.hid (small_max (k := k) (by omega))
        have HM4 := Lib.hid (small_24 (k := k) (by omega))
        have HW := Lib.hid (ownR_owns (hd.get 4 rfl))
        clear hd
        refine Held.wp_held [(p, 26, [.slice a2 k c2])] [(4, 0)] [10] [(6, true), (2, true)] (by kernel_rfl) (by kernel_rfl) ⟨⟨d26, trivial⟩, trivial⟩ ?_
        simp only [Held.cutAt, Held.walk, List.take_succ_cons, List.take_zero, List.drop_succ_cons, List.drop_zero]
        go_wp2_with fail
        refine ⟨⟨⟨HF1.out _, trivial⟩, trivial⟩, ?_⟩
        go_wp2_with (at_builtin; refine wpList_append_lies _ rfl (.tmp 61) (.tmp 63) 179 rfl 0 64 j0 (.slice none 0 0) 1 24 Tryz.underlying179 hj hy0 hy1 hy2 rfl (by decide) _ k _ rfl HW.out ⟨w7.heap.size + 1, 0, none⟩ 1 1 [.slice (some ⟨w7.heap.size, 0, none⟩) 17 17] rfl rfl HNW.out HON.out (by decide) HMX.out HM4.out (Nat.zero_le _) (w7.heap.size + 2) size2 ?_)
        intro g2 cap3 w8 hown hgrow hat hlt8
        have h8 := HD.out.growAt 4 rfl hgrow (by simpa using hat) hown
        have H8 := Lib.hid h8
        obtain ⟨e26, z26⟩ := seg_at h8 2 rfl 26 rfl
        clear hown hgrow hat hlt8 h8 HD HW
        go_wp2_with fail
        refine ⟨⟨⟨e26, trivial⟩, trivial⟩, ?_⟩
        go_wp2_with fail
        refine ⟨trivial, by rfl, ⟨⟨rfl, .inl ⟨by kernel_rfl, rfl⟩⟩, trivial⟩, ?_⟩
        go_wp2_with fail
        have H9 := Lib.hid (H8.out.putAt 2 rfl 26 (.slice (some ⟨g2, 0, none⟩) (k + 1) cap3))
        clear H8 HF1 HF2 HNW HON d26 e26 z26 H7
        generalize w8.setCell ⟨p, 26, none⟩ (.slice (some ⟨g2, 0, none⟩) (k + 1) cap3) = w9 at *
        generalize w7.heap.size = ra at *
        have hd := ((H9.out.box z17O).alloc (.cells #[.slice (some ⟨w9.heap.size, 0, none⟩) 17 17] 64)).drew
        obtain ⟨d27, -⟩ := seg_at H9.out.drew 2 rfl 27 rfl
        have HF1 : Hid (∀ o, (w9.alloc o).drew.cell? ⟨p, 27, none⟩ = some (.slice a3 k c3)) := Lib.hid (fun o => cell_allocd (w := w9) d27)
        have HD := Lib.hid hd
        have HNW := Lib.hid (news2 (w := w9) (o := z17O) (v := .slice (some ⟨w9.heap.size, 0, none⟩) 17 17) (T := 64))
        have HON := Lib.hid (one_one (v := .slice (some ⟨w9.heap.size, 0, none⟩) 17 17) rfl)
        have HW := Lib.hid (ownR_owns (hd.get 6 rfl))
        clear hd
        refine Held.wp_held [(p, 27, [.slice a3 k c3])] [(4, 0)] [10] [(6, true), (2, true)] (by kernel_rfl) (by kernel_rfl) ⟨⟨d27, trivial⟩, trivial⟩ ?_
        simp only [Held.cutAt, Held.walk, List.take_succ_cons, List.take_zero, List.drop_succ_cons, List.drop_zero]
        go_wp2_with fail
        refine ⟨⟨⟨HF1.out _, trivial⟩, trivial⟩, ?_⟩
        go_wp2_with (at_builtin; refine wpList_append_lies _ rfl (.tmp 71) (.tmp 73) 179 rfl 0 64 j0 (.slice none 0 0) 1 24 Tryz.underlying179 hj hy0 hy1 hy2 rfl (by decide) _ k _ rfl HW.out ⟨w9.heap.size + 1, 0, none⟩ 1 1 [.slice (some ⟨w9.heap.size, 0, none⟩) 17 17] rfl rfl HNW.out HON.out (by decide) HMX.out HM4.out (Nat.zero_le _) (w9.heap.size + 2) size2 ?_)
        intro g3 cap4 wa hown hgrow hat hlt8
        have h8 := HD.out.growAt 6 rfl hgrow (by simpa using hat) hown
        have H8 := Lib.hid h8
        obtain ⟨e27, z27⟩ := seg_at h8 3 rfl 27 rfl
        clear hown hgrow hat hlt8 h8 HD HW
        go_wp2_with fail
        refine ⟨⟨⟨e27, trivial⟩, trivial⟩, ?_⟩
        go_wp2_with fail
        refine ⟨trivial, by rfl, ⟨⟨rfl, .inl ⟨by kernel_rfl, rfl⟩⟩, trivial⟩, ?_⟩
        go_wp2_with fail
        have HZ := Lib.hid (H8.out.putAt 3 rfl 27 (.slice (some ⟨g3, 0, none⟩) (k + 1) cap4))
        clear H8 HF1 HNW HON d27 e27 z27 H9
        go_roundw
        case rel =>
          refine ⟨k + 1, by omega, by go_num, Lib.hid ⟨rs ++ [⟨x, ra, w9.heap.size⟩], some ⟨g, 0, none⟩, some ⟨g2, 0, none⟩, some ⟨g3, 0, none⟩, cap2, cap3, cap4, HOK.out.add _ HX.out, ?_⟩⟩
          have h1 := HZ.out.perm (perm_more _ _ _ [_, _, _, _, _, _] _ _)
          simp only [List.map_append, List.map_cons, List.map_nil, List.flatMap_append, List.flatMap_cons, List.flatMap_nil, List.append_nil]
          exact h1
        case measure => simp [intOf]; omega
    · have hk2 : k = 2 := by omega
      have hkI : (1 : Int) < (k : Int) := by omega
      obtain ⟨q1, -⟩ := blk_at' HO.out 4 (b := q) (T := 57) (cs := cfgCs) rfl 1 (v := .int .i64 2) rfl
      subst hk2
      have HC := Lib.hid (prop_new HO.out)
      clear HO
      go_wp2_with fail
      refine HC.out.mono ?_
      rintro e w5 ⟨tb, rfl, h5⟩
      obtain ⟨p19, z19⟩ := seg_at h5 1 rfl 19 rfl
      have HP := Lib.hid (h5.putAt 1 rfl 19 (ptrV tb))
      clear h5 HC q0 q1 q3
      go_upto_region 12 with fail
      clear p19 z19
      generalize w5.setCell ⟨p, 19, none⟩ (ptrV tb) = w5 at *
      have HP1 := HP
      clear HP
      obtain ⟨q0, -⟩ := blk_at' HP1.out 5 (b := q) (T := 57) (cs := cfgCs) rfl 0 (v := .int .i64 1) rfl
      have HC := Lib.hid (change_new HP1.out)
      clear HP1
      go_wp2_with fail
      refine HC.out.mono ?_
      rintro e w5 ⟨vt, vg, rfl, h5⟩
      obtain ⟨p20, z20⟩ := seg_at h5 3 rfl 20 rfl
      have HP := Lib.hid (h5.putAt 3 rfl 20 (ptrV vt))
      clear h5 HC q0
      go_upto_region 13 with fail
      clear p20 z20
      generalize w5.setCell ⟨p, 20, none⟩ (ptrV vt) = w5 at *
      have HP2 := HP
      clear HP
      obtain ⟨q5, -⟩ := blk_at' HP2.out 7 (b := q) (T := 57) (cs := cfgCs) rfl 5 (v := .int .i64 8) rfl
      obtain ⟨q6, -⟩ := blk_at' HP2.out 7 (b := q) (T := 57) (cs := cfgCs) rfl 6 (v := .int .i64 8) rfl
      have HC := Lib.hid (flood_new HP2.out)
      clear HP2
      go_wp2_with fail
      refine HC.out.mono ?_
      rintro e w5 ⟨gd, rfl, h5⟩
      obtain ⟨p21, z21⟩ := seg_at h5 4 rfl 21 rfl
      have HP := Lib.hid (h5.putAt 4 rfl 21 (ptrV gd))
      clear h5 HC q5 q6
      go_upto_region 14 with fail
      clear p21 z21
      generalize w5.setCell ⟨p, 21, none⟩ (ptrV gd) = w5 at *
      have HP3 := HP
      clear HP
      obtain ⟨q1, -⟩ := blk_at' HP3.out 8 (b := q) (T := 57) (cs := cfgCs) rfl 1 (v := .int .i64 2) rfl
      have HC := Lib.hid (ledger_new 2 (by omega) (by omega) HP3.out)
      clear HP3
      go_wp2_with fail
      refine HC.out.mono ?_
      rintro e w5 ⟨bk, rfl, hbk, hlp, h5⟩
      have HBK := Lib.hid hbk
      have HLP := Lib.hid hlp
      clear hbk hlp
      obtain ⟨p22, z22⟩ := seg_at h5 9 rfl 22 rfl
      have HP := Lib.hid (h5.putAt 9 rfl 22 (ptrV bk.p))
      clear h5 HC q1
      go_upto_region 15 with fail
      clear p22 z22
      generalize w5.setCell ⟨p, 22, none⟩ (ptrV bk.p) = w5 at *
      have HP4 := HP
      clear HP
      obtain ⟨q0, -⟩ := blk_at' HP4.out 13 (b := q) (T := 57) (cs := cfgCs) rfl 0 (v := .int .i64 1) rfl
      have HC := Lib.hid (meter_new HP4.out)
      clear HP4
      go_wp2_with fail
      refine HC.out.mono ?_
      rintro e w5 ⟨mt, mg, rfl, h5⟩
      obtain ⟨p23, z23⟩ := seg_at h5 11 rfl 23 rfl
      have HP := Lib.hid (h5.putAt 11 rfl 23 (ptrV mt))
      clear h5 HC q0
      go_upto_region 16 with fail
      clear p23 z23
      generalize w5.setCell ⟨p, 23, none⟩ (ptrV mt) = w5 at *
      have HP5 := HP
      clear HP
      obtain ⟨q0, -⟩ := blk_at' HP5.out 15 (b := q) (T := 57) (cs := cfgCs) rfl 0 (v := .int .i64 1) rfl
      obtain ⟨p24, z24⟩ := seg_at (HP5.out.alloc ptO) 11 rfl 24 rfl
      have hmk := run_make_pt
      go_wp2_with fail
      refine (nodes_one _).mono ?_
      rintro e w' ⟨rfl, rfl⟩
      have HP6 := Lib.hid ((HP5.out.box ptO).putAt 12 rfl 24 (.slice (some ⟨w5.heap.size, 0, none⟩) 4 4))
      clear HP5 q0
      go_upto_region 17 with fail
      clear p24 z24 hmk
      generalize w5.heap.size = pt at *
      generalize World.setCell _ ⟨p, 24, none⟩ _ = w6 at *
      have HP7 := Lib.hid ((HP6.out.box bgO).putAt 13 rfl 25 (.slice (some ⟨w6.heap.size, 0, none⟩) 2 2))
      obtain ⟨q0, -⟩ := blk_at' HP6.out 16 (b := q) (T := 57) (cs := cfgCs) rfl 0 (v := .int .i64 1) rfl
      obtain ⟨p25, z25⟩ := seg_at (HP6.out.alloc bgO) 12 rfl 25 rfl
      have hmk := run_make_bg
      clear HP6
      go_wp2_with fail
      go_ret2
      refine ⟨⟨p, q, id, nt, t, a1, a2, a3, c1, c2, c3, rs, tb, vt, vg, gd, bk, mt, mg, pt, w6.heap.size⟩, rfl, rfl, rfl, ⟨HOK.out, HBK.out, HLP.out⟩, ?_⟩
      exact Own.shut (rs := ndL ⟨p, q, id, nt, t, a1, a2, a3, c1, c2, c3, rs, tb, vt, vg, gd, bk, mt, mg, pt, w6.heap.size⟩) HP7.out

end
end Go.Proofs.YtimdphlolmbhnaaGreat

/- Clones of what is new: clocks, tables, votes, guards, meters; ledgers. -/
namespace Go.Proofs.YtimdphlolmbhnaaGreat
open Go.RowKit Go.Heap

section
variable {B : Nat} {w0 W W' : World} {ss : List Res} {x : Lg}

theorem own_back (hd : List Res) {l : List Res} (h : Own B w0 W (hd ++ (l ++ ss))) : Own B w0 W (l ++ (hd ++ ss)) := h.perm (List.perm_append_comm_assoc _ _ _)

theorem own_five {r1 r2 r3 r4 r5 : Res} {l : List Res} (h : Own B w0 W (r1 :: r4 :: r5 :: (l ++ (r3 :: r2 :: ss)))) : Own B w0 W ([r1, r2, r3, r4, r5] ++ (l ++ ss)) := by
  have h1 := own_back [r1, r4, r5] h
  have h2 := own_back l (l := [r1, r4, r5, r3, r2]) h1
  exact h2.perm (List.Perm.append_right _ (List.Perm.cons _ ((List.perm_append_comm (l₁ := [_, _]) (l₂ := [_, _])).trans (List.Perm.swap _ _ _))))

set_option maxHeartbeats 1600000 in
theorem ledger_clone (h : Own B w0 W (lgL x ++ ss)) (hk : LgOk x) :
    Calls Tryz.prog 96 #[.pointer (some ⟨x.p, 0, none⟩)] W fun e w' => ∃ y : Lg, e = .returned (.pointer (some ⟨y.p, 0, none⟩)) ∧ LgOk y ∧ y.lp = x.lp ∧ Own B w0 w' (lgL y ++ (lgL x ++ ss)) := by
  obtain ⟨c0, c1, c2, c3⟩ := lg_cells h
  have HA := Lib.hid (ledger_all h.drew hk)
  clear h
  go_enter Tryz.func96, Tryz.ntmps96
  go_upto_region 1 with fail
  have d0 : W.drew.cell? ⟨x.p, 0, none⟩ = some (.int .i64 x.clients) := c0
  have d2 : W.drew.cell? ⟨x.p, 2, none⟩ = some (.pointer (some ⟨x.s, 0, none⟩)) := c2
  have d3 : W.drew.cell? ⟨x.p, 3, none⟩ = some (.pointer (some ⟨x.c, 0, none⟩)) := c3
  clear c0 c1 c2 c3
  go_region_held3 (fun w' => w'.cell? ⟨x.p, 0, none⟩ = some (.int .i64 x.clients) ∧ w'.cell? ⟨x.p, 2, none⟩ = some (.pointer (some ⟨x.s, 0, none⟩)) ∧ w'.cell? ⟨x.p, 3, none⟩ = some (.pointer (some ⟨x.c, 0, none⟩)))
    (first | (with_reducible exact ⟨d0, d2, d3⟩) | (with_reducible exact ⟨e0, e2, e3⟩) | (with_reducible exact ⟨f0, f2, f3⟩) | (with_reducible exact ⟨j0, j2, j3⟩) | (with_reducible exact ⟨cell_allocd j0, cell_allocd j2, cell_allocd j3⟩))
    (first
      | (go_at_call 72; refine HA.out.mono ?_; rintro e w1 ⟨v1, rfl, h1⟩; obtain ⟨ao1, cap1, rfl⟩ := row_shape (ownR_owns h1.head); have H1 := Lib.hid (own_back (l := lgL x) [enR (.slice ao1 x.es.length cap1) x.es] h1); clear h1; obtain ⟨e0, -, e2, e3⟩ := lg_cells H1.out)
      | (go_at_call 108; refine (store_clone H1.out hk).mono ?_; rintro e w2 ⟨s2, rfl, h2⟩; have H2 := Lib.hid (own_back (l := lgL x) [stR s2 x.st] h2); clear h2; obtain ⟨f0, -, f2, f3⟩ := lg_cells H2.out)
      | (go_at_call 109; refine (cache_clone H2.out hk).mono ?_; rintro e w3 ⟨p3, g3, cap3, rfl, hc3, hd3, h3⟩; have H3 := Lib.hid h3; have HC := Lib.hid hc3; have HD := Lib.hid hd3; clear h3 hc3 hd3; obtain ⟨j0, -, j2, j3⟩ := lg_cells (own_back (l := lgL x) [blk p3 (chO g3 x.rp.length cap3), rpR g3 x.rp] H3.out)))
  go_wp2_with fail
  go_ret
  refine ⟨⟨w3.heap.size, s2, p3, g3, cap3, .slice ao1 x.es.length cap1, x.clients, x.es, x.st, x.rp⟩, rfl, ⟨hk.st, hk.rp1, hk.rp4, ⟨HC.out, HD.out⟩, hk.es⟩, rfl, ?_⟩
  exact own_five (H3.out.boxAt (lgO x.clients (.slice ao1 x.es.length cap1) s2 p3) rfl)

end
end Go.Proofs.YtimdphlolmbhnaaGreat
