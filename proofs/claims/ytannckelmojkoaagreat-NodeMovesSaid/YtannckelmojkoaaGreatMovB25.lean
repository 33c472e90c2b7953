/- Parts of the proof, one behind the other. -/
import Derived.Test.YtannckelmojkoaaGreatMovB24

/- node: Take of a message that opens. -/
namespace Go.Proofs.YtannckelmojkoaaGreat
open Go.RowKit Go.Heap

theorem bump_ok {m t c x : Int} (hm : 1 ≤ m) : ∀ {ps : List Peer}, (∀ q ∈ ps, 0 ≤ q.bad ∧ q.bad ≤ m) → ∀ q ∈ bumpP m t c x ps, 0 ≤ q.bad ∧ q.bad ≤ m
  | [], _, q, hq => by
    simp only [bumpP, List.mem_singleton] at hq
    subst hq
    simp only; omega
  | p :: ps, h, q, hq => by
    unfold bumpP at hq
    have hp := h p (by simp)
    split at hq
    · simp only [List.mem_cons] at hq
      rcases hq with hq | hq
      · split at hq <;> (subst hq; simp only; omega)
      · exact h q (by simp [hq])
    · simp only [List.mem_cons] at hq
      rcases hq with rfl | hq
      · exact hp
      · exact bump_ok hm (fun q hq => h q (by simp [hq])) q hq

section
variable {B : Nat} {w0 w W W' : World} {ss rs : List Res} {x : Np} {s s' : Ns} {l l' : Nt}

/-- What Open needs of a node. -/
abbrev NoAt (p nt f : Nat) (cl : Int) (w : World) : Prop := w.cell? ⟨p, 0, none⟩ = some (.int .i64 f) ∧ w.cell? ⟨p, 1, none⟩ = some (.int .i64 cl) ∧ w.cell? ⟨p, 16, none⟩ = some (ptrV nt)
theorem NdIs.noAt (h : NdIs B w0 W x s l ss) : NoAt x.p x.nt s.c.f s.c.cl W := ⟨h.cell 0 rfl (by decide), h.cell 1 rfl (by decide), h.cell 16 rfl (by decide)⟩
theorem noat_alloc {p nt f : Nat} {cl : Int} {o : Obj} (h : NoAt p nt f cl w) : NoAt p nt f cl (w.alloc o) := ⟨cell_allocd h.1, cell_allocd h.2.1, cell_allocd h.2.2⟩
theorem noat_ad {p nt f : Nat} {cl : Int} {o : Obj} (h : NoAt p nt f cl w.drew) : NoAt p nt f cl (w.alloc o).drew := noat_alloc (w := w) h

/-- A message's slices. -/
theorem mm_lit {m : Mm} (h : NdIs B w0 W x s l (mmR m ss)) : ∃ (kind fm view inst seq res : Int) (a1 : Option Addr) (rs : List Rq) (c1 : Nat) (a2 : Option Addr) (vs : Vs) (c2 : Nat) (a3 : Option Addr) (cts : List Ct) (c3 : Nat) (a4 : Option Addr) (pts : List Pt) (c4 : Nat),
    m = ⟨kind, fm, view, inst, seq, res, .slice a1 rs.length c1, rs, .slice a2 vs.length c2, vs, .slice a3 cts.length c3, cts, .slice a4 pts.length c4, pts⟩ := by
  obtain ⟨kind, fm, view, inst, seq, res, vb, rs, vv, vs, vc, cts, vp, pts⟩ := m
  obtain ⟨r0, hs0, -⟩ := h.side
  obtain ⟨a1, c1, rfl⟩ : ∃ a c, vb = .slice a rs.length c := let ⟨a, c, e, _⟩ := red_reads (k := 5) hs0 rfl; ⟨a, c, e⟩
  obtain ⟨a2, c2, rfl⟩ : ∃ a c, vv = .slice a vs.length c := let ⟨a, c, e, _⟩ := red_reads (k := 4) hs0 rfl; ⟨a, c, e⟩
  obtain ⟨a3, c3, rfl⟩ : ∃ a c, vc = .slice a cts.length c := let ⟨a, c, e, _⟩ := red_reads (k := 2) hs0 rfl; ⟨a, c, e⟩
  obtain ⟨a4, c4, rfl⟩ : ∃ a c, vp = .slice a pts.length c := let ⟨a, c, e, _⟩ := red_reads (k := 0) hs0 rfl; ⟨a, c, e⟩
  exact ⟨kind, fm, view, inst, seq, res, a1, rs, c1, a2, vs, c2, a3, cts, c3, a4, pts, c4, rfl⟩

theorem nd_ten {m : Mm} {q : Nat} {T : TypeId} {c0  c1  c2  c3  c4  c5  c6  c7  c8  c9 v0  v1  v2  v3  v4  v5  v6  v7  v8  v9 : Value} (h : NdIs B w0 W x s l (mmR m (blk q (.cells #[c0, c1, c2, c3, c4, c5, c6, c7, c8, c9] T (0, 0)) :: ss))) : NdIs B w0 ((((((((((W.setCell ⟨q, 0, none⟩ v0).setCell ⟨q, 1, none⟩ v1).setCell ⟨q, 2, none⟩ v2).setCell ⟨q, 3, none⟩ v3).setCell ⟨q, 4, none⟩ v4).setCell ⟨q, 5, none⟩ v5).setCell ⟨q, 6, none⟩ v6).setCell ⟨q, 7, none⟩ v7).setCell ⟨q, 8, none⟩ v8).setCell ⟨q, 9, none⟩ v9) x s l (mmR m (blk q (.cells #[v0, v1, v2, v3, v4, v5, v6, v7, v8, v9] T (0, 0)) :: ss)) := by
  have h1 : NdIs B w0 W x s l (blk q (.cells #[c0, c1, c2, c3, c4, c5, c6, c7, c8, c9] T (0, 0)) :: mmR m ss) := h.perm ((List.perm_append_comm (l₁ := [_, _, _, _, _, _]) (l₂ := [_])).append_right ss)
  obtain ⟨r, hs, hk⟩ := h1.side
  have h2 := hk _ (blk q (.cells #[v0, v1, v2, v3, v4, v5, v6, v7, v8, v9] T (0, 0)) :: mmR m ss) (own_ten hs)
  exact h2.perm ((List.perm_append_comm (l₁ := [_]) (l₂ := [_, _, _, _, _, _])).append_right ss)

theorem mm_drop {m : Mm} (h : NdIs B w0 W x s l (mmR m ss)) : NdIs B w0 W x s l ss := h.drop.drop.drop.drop.drop.drop

/-- A message that opens, beside a node. -/
theorem nopen_some {bv : Value} {bs : Bys} {m : Ms} {sl : Int} (h : NdIs B w0 W x s l ss) (hb : RdOk w0 B bv bs ss) (ho : openP l s.c.f s.c.cl bs = some (m, sl)) :
    Calls Tryz.prog 27 #[bv, .int .i64 s.c.f, .int .i64 s.c.cl, ptrV x.nt] W fun e w' => ∃ mm : Mm, e = .returned (.tuple #[.agg (mmA mm), .int .i64 sl, .int .i64 0]) ∧ mm.ms = m ∧ MsOk m ∧ NdIs B w0 w' x s l (mmR mm ss) := by
  have hok := h.ok.c
  obtain ⟨r, hs, hk⟩ := h.sideN
  have hnt : NtIn (blk x.nt (noB x.nm) :: ntR x.nm l :: (ss ++ [r])) x.nt x.nm l := ⟨by simp, by simp⟩
  have := open_any (f := s.c.f) (cl := s.c.cl) hok.f1 hok.f2 hok.cl1 hok.cl2 hs (hb.sub (fun q hq => by simp [hq])) hnt h.nok
  rw [ho] at this
  refine this.mono ?_
  rintro e w' ⟨mm, he, h1, h2, h3⟩
  refine ⟨mm, he, h1, h2, hk w' l (mmR mm ss) h.nok ?_⟩
  exact h3.perm ((List.perm_append_comm (l₁ := [_, _, _, _, _, _]) (l₂ := [_, _])).append_right _)

set_option maxHeartbeats 8000000 in
set_option maxRecDepth 100000 in
theorem nTake_some {src sl : Int} {bv : Value} {bs : Bys} {m : Ms} {v : Int} {p : NSt} (h : NdIs B w0 W x s l ss) (hb : RdOk w0 B bv bs ss) (hst : s.stop = false) (hg : s.gd.length ≤ 1000) (hsh : shutP s.gd src s.now = false) (ho : openP l s.c.f s.c.cl bs = some (m, sl))
    (HT : ∀ mm : Mm, mm.ms = m → TakeC B w0 x s l 98 mm sl (v, p)) (hv : v = 0 ∨ v = 1 ∨ v = 2 ∨ v = 3) (hfg : p.1.gd.length ≤ 1000)
    (hu : p.1.used ≤ 1000000000000) (hbd : p.1.bad ≤ 1000000000000) (hsl : p.1.stale ≤ 1000000000000) (hfu : p.1.full ≤ 1000000000000) :
    Calls Tryz.prog 34 #[ptrV x.p, .int .i64 src, bv] W fun e w' => e = .returned (.tuple #[]) ∧ NdIs B w0 w' x (countS src (v, p)).1 (countS src (v, p)).2 ss := by
  have HN := Lib.hid (nd_now h.drew)
  have HS := Lib.hid (nd_shut h.drew src s.now hg)
  rw [hsh] at HS
  have H := Lib.hid h
  have HB := Lib.hid hb
  have HO := Lib.hid ho
  have HTT := Lib.hid HT
  obtain ⟨ao, cap, rfl, -, -⟩ := hb.f
  have c17 := h.drew.cell 17 rfl (by decide)
  have c21 := h.drew.cell 21 rfl (by decide)
  have c33 : W.drew.cell? ⟨x.p, 33, none⟩ = some (.bool false) := by have := h.drew.cell 33 rfl (by decide); rw [hst] at this; exact this
  clear h hst hsh hb ho HT
  go_enter Tryz.func34, Tryz.ntmps34
  go_upto_region 0 with fail
  refine Held.wp_held [(x.p, 33, [.bool false]), (x.p, 21, [ptrV x.gd]), (x.p, 17, [ptrV x.t])] [(3, 0), (8, 1), (13, 2)] [15] [(15, true), (1, false)] (by kernel_rfl) (by kernel_rfl) ⟨⟨c33, trivial⟩, ⟨c21, trivial⟩, ⟨c17, trivial⟩, trivial⟩ ?_
  simp only [Held.cutAt, Held.walk, List.take_succ_cons, List.take_zero, List.drop_succ_cons, List.drop_zero]
  go_wp2_with fail
  refine HN.out.mono ?_
  rintro e w' ⟨rfl, rfl⟩
  go_wp2_with fail
  refine ⟨⟨⟨c33, trivial⟩, ⟨c21, trivial⟩, ⟨c17, trivial⟩, trivial⟩, ?_⟩
  go_wp2_with fail
  refine HS.out.mono ?_
  rintro e w1 ⟨rfl, hu1⟩
  have H1 := Lib.hid (H.out.drew.upd0 hu1)
  clear hu1 HS HN H
  go_wp2_with fail
  refine ⟨trivial, ?_⟩
  go_wp2_with fail
  refine ⟨trivial, by rfl, ⟨⟨rfl, .inl ⟨by kernel_rfl, rfl⟩⟩, ⟨rfl, .inl ⟨by kernel_rfl, rfl⟩⟩, ⟨rfl, .inl ⟨by kernel_rfl, rfl⟩⟩, trivial⟩, ?_⟩
  clear c17 c21 c33
  have d0 : NoAt x.p x.nt s.c.f s.c.cl w1.drew := H1.out.drew.noAt
  have HP1 := Lib.hid (nopen_some H1.out.drew HB.out HO.out)
  have HP2 := Lib.hid (nopen_some (H1.out.box (.cells #[.int .i64 0, .int .i64 0, .int .i64 0, .int .i64 0, .int .i64 0, .int .i64 0, .slice none 0 0, .slice none 0 0, .slice none 0 0, .slice none 0 0] 47 (0, 0))).drew (HB.out.sub (fun q hq => by simp [hq])) HO.out)
  go_upto_region 3 with fail
  go_region_held3 (fun w' => NoAt x.p x.nt s.c.f s.c.cl w')
    (first | (with_reducible exact d0) | (with_reducible exact e0) | (with_reducible exact noat_alloc d0) | (with_reducible exact noat_alloc e0) | (with_reducible exact e1) | (with_reducible exact noat_ad d0) | (with_reducible exact noat_ad e0))
    (first | (go_at_call 27; refine HP1.out.mono ?_; rintro e w3 ⟨mm, rfl, hmm, -, h3⟩; have e0 := h3.noAt; obtain ⟨kind, fm, view, inst, seq, res, a1, rs, c1, a2, vs, c2, a3, cts, c3, a4, pts, c4, rfl⟩ := mm_lit h3; have H3 := Lib.hid h3; clear h3) | (go_at_call 27; refine HP2.out.mono ?_; rintro e w3 ⟨mm, rfl, hmm, -, h3⟩; have e0 := h3.noAt; obtain ⟨kind, fm, view, inst, seq, res, a1, rs, c1, a2, vs, c2, a3, cts, c3, a4, pts, c4, rfl⟩ := mm_lit h3; have H3 := Lib.hid h3; clear h3; obtain ⟨r3, hs3, -⟩ := H3.out.side; have b0 := hs3.blkAt 6 rfl; have x0 := cell_blk b0 0 rfl; have z0 := block_frozen b0 0; have x1 := cell_blk b0 1 rfl; have z1 := block_frozen b0 1; have x2 := cell_blk b0 2 rfl; have z2 := block_frozen b0 2; have x3 := cell_blk b0 3 rfl; have z3 := block_frozen b0 3; have x4 := cell_blk b0 4 rfl; have z4 := block_frozen b0 4; have x5 := cell_blk b0 5 rfl; have z5 := block_frozen b0 5; have x6 := cell_blk b0 6 rfl; have z6 := block_frozen b0 6; have x7 := cell_blk b0 7 rfl; have z7 := block_frozen b0 7; have x8 := cell_blk b0 8 rfl; have z8 := block_frozen b0 8; have x9 := cell_blk b0 9 rfl; have z9 := block_frozen b0 9; have H4 := Lib.hid (nd_ten (v0 := .int .i64 kind) (v1 := .int .i64 fm) (v2 := .int .i64 view) (v3 := .int .i64 inst) (v4 := .int .i64 seq) (v5 := .int .i64 res) (v6 := .slice a1 rs.length c1) (v7 := .slice a2 vs.length c2) (v8 := .slice a3 cts.length c3) (v9 := .slice a4 pts.length c4) H3.out); have e1 := H4.out.noAt; clear b0 hs3))
  · have HZ : Hid (NdIs B w0 (w3.alloc (mmO ⟨kind, fm, view, inst, seq, res, .slice a1 rs.length c1, rs, .slice a2 vs.length c2, vs, .slice a3 cts.length c3, cts, .slice a4 pts.length c4, pts⟩)) x s l (mmR ⟨kind, fm, view, inst, seq, res, .slice a1 rs.length c1, rs, .slice a2 vs.length c2, vs, .slice a3 cts.length c3, cts, .slice a4 pts.length c4, pts⟩ (blk w3.heap.size (mmO ⟨kind, fm, view, inst, seq, res, .slice a1 rs.length c1, rs, .slice a2 vs.length c2, vs, .slice a3 cts.length c3, cts, .slice a4 pts.length c4, pts⟩) :: ss))) := Lib.hid ((H3.out.box (mmO ⟨kind, fm, view, inst, seq, res, .slice a1 rs.length c1, rs, .slice a2 vs.length c2, vs, .slice a3 cts.length c3, cts, .slice a4 pts.length c4, pts⟩)).perm ((List.perm_append_comm (l₁ := [_]) (l₂ := [_, _, _, _, _, _])).append_right ss))
    clear H3 H1 d0 e0 HP1 HP2
    generalize World.alloc w3 _ = y at *
    generalize w3.heap.size = q at *
    obtain ⟨rq, hsq, -⟩ := HZ.out.side
    have hbq := hsq.blkAt 6 rfl
    have y0 := cell_blk hbq 0 rfl
    have y1 := cell_blk hbq 1 rfl
    have y2 := cell_blk hbq 2 rfl
    have y3 := cell_blk hbq 3 rfl
    have y4 := cell_blk hbq 4 rfl
    have y5 := cell_blk hbq 5 rfl
    have y6 := cell_blk hbq 6 rfl
    have y7 := cell_blk hbq 7 rfl
    have y8 := cell_blk hbq 8 rfl
    have y9 := cell_blk hbq 9 rfl
    have HTK := Lib.hid (HTT.out ⟨kind, fm, view, inst, seq, res, .slice a1 rs.length c1, rs, .slice a2 vs.length c2, vs, .slice a3 cts.length c3, cts, .slice a4 pts.length c4, pts⟩ hmm y (blk q (mmO ⟨kind, fm, view, inst, seq, res, .slice a1 rs.length c1, rs, .slice a2 vs.length c2, vs, .slice a3 cts.length c3, cts, .slice a4 pts.length c4, pts⟩) :: ss) HZ.out)
    clear HZ hsq hbq HTT hmm
    go_wp2_with fail
    refine HTK.out.mono ?_
    rintro e w4 ⟨rfl, h4⟩
    have H5 : Hid (NdIs B w0 w4 x p.1 p.2 ss) := Lib.hid (mm_drop h4).drop
    clear h4 HTK
    have u0 := H5.out.ok.used0
    have b0 := H5.out.ok.bad0
    have s0 := H5.out.ok.stale0
    have f0 := H5.out.ok.full0
    clear y0 y1 y2 y3 y4 y5 y6 y7 y8 y9
    rcases hv with rfl | rfl | rfl | rfl
    · have c35 := H5.out.cell 35 rfl (by decide)
      have z35 := H5.out.fz 35
      have HF := Lib.hid (H5.out.putUsed (p.1.used + 1) (by omega))
      clear H5 s0 f0 b0
      go_wp2_with fail
      refine bodyPost_end (results_none rfl _ _ _) rfl ?_
      exact ⟨rfl, HF.out⟩
    · have c37 := H5.out.cell 37 rfl (by decide)
      have z37 := H5.out.fz 37
      have HF := Lib.hid (H5.out.putStale (p.1.stale + 1) (by omega))
      clear H5 u0 f0 b0
      go_wp2_with fail
      refine bodyPost_end (results_none rfl _ _ _) rfl ?_
      exact ⟨rfl, HF.out⟩
    · have c39 := H5.out.cell 39 rfl (by decide)
      have z39 := H5.out.fz 39
      have HF := Lib.hid (H5.out.putFull (p.1.full + 1) (by omega))
      clear H5 s0 u0 b0
      go_wp2_with fail
      refine bodyPost_end (results_none rfl _ _ _) rfl ?_
      exact ⟨rfl, HF.out⟩
    · have HN := Lib.hid (nd_now H5.out.drew)
      have HG := Lib.hid (nd_bad H5.out.drew src p.1.now hfg (bump_ok H5.out.ok.c.fl1 H5.out.ok.gd))
      have c17 := H5.out.drew.cell 17 rfl (by decide)
      have c21 := H5.out.drew.cell 21 rfl (by decide)
      clear H5 u0 s0 f0
      go_wp2_with fail
      go_upto_region 7 with fail
      refine Held.wp_held [(x.p, 21, [ptrV x.gd]), (x.p, 17, [ptrV x.t])] [(3, 0), (8, 1)] [10] [(10, true), (1, false)] (by kernel_rfl) (by kernel_rfl) ⟨⟨c21, trivial⟩, ⟨c17, trivial⟩, trivial⟩ ?_
      simp only [Held.cutAt, Held.walk, List.take_succ_cons, List.take_zero, List.drop_succ_cons, List.drop_zero]
      go_wp2_with fail
      refine HN.out.mono ?_
      rintro e w' ⟨rfl, rfl⟩
      go_wp2_with fail
      refine ⟨⟨⟨c21, trivial⟩, ⟨c17, trivial⟩, trivial⟩, ?_⟩
      go_wp2_with fail
      refine HG.out.mono ?_
      rintro e w5 ⟨⟨rb, rfl⟩, h5⟩
      have H6 := Lib.hid h5
      clear h5 HN HG c17 c21
      go_wp2_with fail
      refine ⟨trivial, ?_⟩
      go_wp2_with fail
      refine ⟨trivial, by rfl, ⟨⟨rfl, .inl ⟨by kernel_rfl, rfl⟩⟩, ⟨rfl, .inl ⟨by kernel_rfl, rfl⟩⟩, trivial⟩, ?_⟩
      have c36 := H6.out.cell 36 rfl (by decide)
      have z36 := H6.out.fz 36
      have HF := Lib.hid (H6.out.putBad (p.1.bad + 1) (by omega))
      clear H6
      go_wp2_with fail
      refine bodyPost_end (results_none rfl _ _ _) rfl ?_
      exact ⟨rfl, HF.out⟩
  · have HZ := H4
    clear H3 H4 H1 d0 e0 e1 HP1 HP2 x0 x1 x2 x3 x4 x5 x6 x7 x8 x9 z0 z1 z2 z3 z4 z5 z6 z7 z8 z9
    generalize World.setCell _ _ _ = y at *
    generalize w1.heap.size = q at *
    obtain ⟨rq, hsq, -⟩ := HZ.out.side
    have hbq := hsq.blkAt 6 rfl
    have y0 := cell_blk hbq 0 rfl
    have y1 := cell_blk hbq 1 rfl
    have y2 := cell_blk hbq 2 rfl
    have y3 := cell_blk hbq 3 rfl
    have y4 := cell_blk hbq 4 rfl
    have y5 := cell_blk hbq 5 rfl
    have y6 := cell_blk hbq 6 rfl
    have y7 := cell_blk hbq 7 rfl
    have y8 := cell_blk hbq 8 rfl
    have y9 := cell_blk hbq 9 rfl
    have HTK := Lib.hid (HTT.out ⟨kind, fm, view, inst, seq, res, .slice a1 rs.length c1, rs, .slice a2 vs.length c2, vs, .slice a3 cts.length c3, cts, .slice a4 pts.length c4, pts⟩ hmm y (blk q (mmO ⟨kind, fm, view, inst, seq, res, .slice a1 rs.length c1, rs, .slice a2 vs.length c2, vs, .slice a3 cts.length c3, cts, .slice a4 pts.length c4, pts⟩) :: ss) HZ.out)
    clear HZ hsq hbq HTT hmm
    go_wp2_with fail
    refine HTK.out.mono ?_
    rintro e w4 ⟨rfl, h4⟩
    have H5 : Hid (NdIs B w0 w4 x p.1 p.2 ss) := Lib.hid (mm_drop h4).drop
    clear h4 HTK
    have u0 := H5.out.ok.used0
    have b0 := H5.out.ok.bad0
    have s0 := H5.out.ok.stale0
    have f0 := H5.out.ok.full0
    clear y0 y1 y2 y3 y4 y5 y6 y7 y8 y9
    rcases hv with rfl | rfl | rfl | rfl
    · have c35 := H5.out.cell 35 rfl (by decide)
      have z35 := H5.out.fz 35
      have HF := Lib.hid (H5.out.putUsed (p.1.used + 1) (by omega))
      clear H5 s0 f0 b0
      go_wp2_with fail
      refine bodyPost_end (results_none rfl _ _ _) rfl ?_
      exact ⟨rfl, HF.out⟩
    · have c37 := H5.out.cell 37 rfl (by decide)
      have z37 := H5.out.fz 37
      have HF := Lib.hid (H5.out.putStale (p.1.stale + 1) (by omega))
      clear H5 u0 f0 b0
      go_wp2_with fail
      refine bodyPost_end (results_none rfl _ _ _) rfl ?_
      exact ⟨rfl, HF.out⟩
    · have c39 := H5.out.cell 39 rfl (by decide)
      have z39 := H5.out.fz 39
      have HF := Lib.hid (H5.out.putFull (p.1.full + 1) (by omega))
      clear H5 s0 u0 b0
      go_wp2_with fail
      refine bodyPost_end (results_none rfl _ _ _) rfl ?_
      exact ⟨rfl, HF.out⟩
    · have HN := Lib.hid (nd_now H5.out.drew)
      have HG := Lib.hid (nd_bad H5.out.drew src p.1.now hfg (bump_ok H5.out.ok.c.fl1 H5.out.ok.gd))
      have c17 := H5.out.drew.cell 17 rfl (by decide)
      have c21 := H5.out.drew.cell 21 rfl (by decide)
      clear H5 u0 s0 f0
      go_wp2_with fail
      go_upto_region 7 with fail
      refine Held.wp_held [(x.p, 21, [ptrV x.gd]), (x.p, 17, [ptrV x.t])] [(3, 0), (8, 1)] [10] [(10, true), (1, false)] (by kernel_rfl) (by kernel_rfl) ⟨⟨c21, trivial⟩, ⟨c17, trivial⟩, trivial⟩ ?_
      simp only [Held.cutAt, Held.walk, List.take_succ_cons, List.take_zero, List.drop_succ_cons, List.drop_zero]
      go_wp2_with fail
      refine HN.out.mono ?_
      rintro e w' ⟨rfl, rfl⟩
      go_wp2_with fail
      refine ⟨⟨⟨c21, trivial⟩, ⟨c17, trivial⟩, trivial⟩, ?_⟩
      go_wp2_with fail
      refine HG.out.mono ?_
      rintro e w5 ⟨⟨rb, rfl⟩, h5⟩
      have H6 := Lib.hid h5
      clear h5 HN HG c17 c21
      go_wp2_with fail
      refine ⟨trivial, ?_⟩
      go_wp2_with fail
      refine ⟨trivial, by rfl, ⟨⟨rfl, .inl ⟨by kernel_rfl, rfl⟩⟩, ⟨rfl, .inl ⟨by kernel_rfl, rfl⟩⟩, trivial⟩, ?_⟩
      have c36 := H6.out.cell 36 rfl (by decide)
      have z36 := H6.out.fz 36
      have HF := Lib.hid (H6.out.putBad (p.1.bad + 1) (by omega))
      clear H6
      go_wp2_with fail
      refine bodyPost_end (results_none rfl _ _ _) rfl ?_
      exact ⟨rfl, HF.out⟩

end
end Go.Proofs.YtannckelmojkoaaGreat

/- node: New, of any valid configuration. -/
namespace Go.Proofs.YtannckelmojkoaaGreat
open Go.RowKit Go.Heap

def noPt : Pt := ⟨0, .slice none 0 0, [], .slice none 0 0, [], 0⟩
abbrev cfO (c : Cf) : Obj := .cells (cfA c) 30 (0, 0)
def noMs : Ms := ⟨0, 0, 0, 0, 0, 0, [], [], [], []⟩
/-- A node that has met nothing. -/
def newS (c : Cf) (id : Int) : Ns := ⟨c, id, 0, (List.range (c.f + 1)).map (fun (k : Nat) => newI c.f k c.ah), [], List.replicate (3 * c.f + 1) noVo, [], newL c.cl.toNat, List.replicate (c.f + 1) (0, 0), List.replicate (3 * c.f + 1) (0, noPa), List.replicate (c.f + 1) (0, noMs), List.replicate (c.f + 1) (List.replicate 17 0), List.replicate (c.f + 1) (List.replicate 17 0), 0, 0, -1, 0, 0, false, [], 0, 0, 0, 0, 0⟩
abbrev mkC (c : Cf) (id : Int) (nt t : Nat) (v1 tb vt gd bk mt pt bg v2 v3 : Value) : List Value := [.int .i64 c.f, .int .i64 c.cl, .int .i64 c.bt, .int .i64 c.ah, .int .i64 c.qu, .int .i64 c.fl, .int .i64 c.sh, .int .i64 c.pe, .int .i64 c.nu, .int .i64 c.de, .int .i64 c.la, .int .i64 c.om, .int .i64 c.wa, .int .i64 c.ag, .int .i64 c.re,
  .int .i64 id, .pointer (some ⟨nt, 0, none⟩), .pointer (some ⟨t, 0, none⟩), v1, tb, vt, gd, bk, mt, pt, bg, v2, v3, .int .i64 0, .int .i64 0, .int .i64 (-1), .int .i64 0, .int .i64 0, .bool false, .slice none 0 0, .int .i64 0, .int .i64 0, .int .i64 0, .int .i64 0, .int .i64 0]
abbrev ptON (f : Nat) : Obj := .cells (madeCells #[.int .i64 0, .int .i64 0, .slice none 0 0, .slice none 0 0, .int .i64 0] ((3 * f + 1) * 5)) 260 (0, 0)
abbrev bgON (f : Nat) : Obj := .cells (madeCells #[.int .i64 0, .int .i64 0, .int .i64 0, .int .i64 0, .int .i64 0, .int .i64 0, .int .i64 0, .slice none 0 0, .slice none 0 0, .slice none 0 0, .slice none 0 0] ((f + 1) * 11)) 262 (0, 0)

def RwN (c : Cf) (rs : List Rd) (k : Nat) : Prop := rs.length = k ∧ ∀ (j : Nat) (r : Rd), rs[j]? = some r → r.x.st = newI c.f (j : Int) c.ah
theorem RwN.add {c : Cf} {rs : List Rd} {k : Nat} (h : RwN c rs k) (r : Rd) (hr : r.x.st = newI c.f (k : Int) c.ah) : RwN c (rs ++ [r]) (k + 1) := by
  obtain ⟨h1, h2⟩ := h
  refine ⟨by simp [h1], fun j q hq => ?_⟩
  rw [List.getElem?_append] at hq
  split at hq
  · exact h2 j q hq
  · have hj : j = k := by
      have := (List.getElem?_eq_some_iff.1 hq).1
      simp at this
      omega
    subst hj
    rw [h1] at hq
    simp at hq
    subst hq
    exact hr
/-- A node that is being made: k rounds. -/
def NwMk (c : Cf) (B : Nat) (w0 w : World) (p q : Nat) (id : Int) (nt t : Nat) (k : Nat) (ss : List Res) : Prop :=
  ∃ (rs : List Rd) (a1 a2 a3 : Option Addr) (c1 c2 c3 : Nat), RwN c rs k ∧
    Own B w0 w (segR p 141 (mkC c id nt t (.slice a1 k c1) nilP nilP nilP nilP nilP nilS nilS (.slice a2 k c2) (.slice a3 k c3)) ::
      ownR 142 1 (.slice a1 k c1) k (rs.map fun r => r.x.ptr) :: ownR 69 1 (.slice a2 k c2) k (rs.map Rd.va) :: ownR 69 1 (.slice a3 k c3) k (rs.map Rd.vb) :: blk q (cfO c) :: blk t clockO :: (rs.flatMap rdR ++ ss))

/-- A configuration lies there. -/
abbrev CfAt (c : Cf) (w : World) (b : Nat) : Prop := w.cell? ⟨b, 0, none⟩ = some (.int .i64 c.f) ∧ w.cell? ⟨b, 1, none⟩ = some (.int .i64 c.cl) ∧ w.cell? ⟨b, 2, none⟩ = some (.int .i64 c.bt) ∧ w.cell? ⟨b, 3, none⟩ = some (.int .i64 c.ah) ∧ w.cell? ⟨b, 4, none⟩ = some (.int .i64 c.qu) ∧ w.cell? ⟨b, 5, none⟩ = some (.int .i64 c.fl) ∧ w.cell? ⟨b, 6, none⟩ = some (.int .i64 c.sh) ∧ w.cell? ⟨b, 7, none⟩ = some (.int .i64 c.pe) ∧ w.cell? ⟨b, 8, none⟩ = some (.int .i64 c.nu) ∧ w.cell? ⟨b, 9, none⟩ = some (.int .i64 c.de) ∧ w.cell? ⟨b, 10, none⟩ = some (.int .i64 c.la) ∧ w.cell? ⟨b, 11, none⟩ = some (.int .i64 c.om) ∧ w.cell? ⟨b, 12, none⟩ = some (.int .i64 c.wa) ∧ w.cell? ⟨b, 13, none⟩ = some (.int .i64 c.ag) ∧ w.cell? ⟨b, 14, none⟩ = some (.int .i64 c.re)
theorem made_pt4 : (madeCells #[.int .i64 0, .int .i64 0, .slice none 0 0, .slice none 0 0, .int .i64 0] (4 * 5)).toList = (List.replicate 4 ((0, noPt) : Int × Pt)).flatMap pqC := by kernel_rfl
theorem made_pt7 : (madeCells #[.int .i64 0, .int .i64 0, .slice none 0 0, .slice none 0 0, .int .i64 0] (7 * 5)).toList = (List.replicate 7 ((0, noPt) : Int × Pt)).flatMap pqC := by kernel_rfl
theorem made_pt10 : (madeCells #[.int .i64 0, .int .i64 0, .slice none 0 0, .slice none 0 0, .int .i64 0] (10 * 5)).toList = (List.replicate 10 ((0, noPt) : Int × Pt)).flatMap pqC := by kernel_rfl
theorem made_pt13 : (madeCells #[.int .i64 0, .int .i64 0, .slice none 0 0, .slice none 0 0, .int .i64 0] (13 * 5)).toList = (List.replicate 13 ((0, noPt) : Int × Pt)).flatMap pqC := by kernel_rfl
theorem made_pt {f : Nat} (h1 : 1 ≤ f) (h2 : f ≤ 4) : (madeCells #[.int .i64 0, .int .i64 0, .slice none 0 0, .slice none 0 0, .int .i64 0] ((3 * f + 1) * 5)).toList = (List.replicate (3 * f + 1) ((0, noPt) : Int × Pt)).flatMap pqC := by
  rcases (by omega : f = 1 ∨ f = 2 ∨ f = 3 ∨ f = 4) with rfl | rfl | rfl | rfl
  · exact made_pt4
  · exact made_pt7
  · exact made_pt10
  · exact made_pt13
theorem made_bg2 : (madeCells #[.int .i64 0, .int .i64 0, .int .i64 0, .int .i64 0, .int .i64 0, .int .i64 0, .int .i64 0, .slice none 0 0, .slice none 0 0, .slice none 0 0, .slice none 0 0] (2 * 11)).toList = (List.replicate 2 ((0, noMm) : Int × Mm)).flatMap bgC := by kernel_rfl
theorem made_bg3 : (madeCells #[.int .i64 0, .int .i64 0, .int .i64 0, .int .i64 0, .int .i64 0, .int .i64 0, .int .i64 0, .slice none 0 0, .slice none 0 0, .slice none 0 0, .slice none 0 0] (3 * 11)).toList = (List.replicate 3 ((0, noMm) : Int × Mm)).flatMap bgC := by kernel_rfl
theorem made_bg4 : (madeCells #[.int .i64 0, .int .i64 0, .int .i64 0, .int .i64 0, .int .i64 0, .int .i64 0, .int .i64 0, .slice none 0 0, .slice none 0 0, .slice none 0 0, .slice none 0 0] (4 * 11)).toList = (List.replicate 4 ((0, noMm) : Int × Mm)).flatMap bgC := by kernel_rfl
theorem made_bg5 : (madeCells #[.int .i64 0, .int .i64 0, .int .i64 0, .int .i64 0, .int .i64 0, .int .i64 0, .int .i64 0, .slice none 0 0, .slice none 0 0, .slice none 0 0, .slice none 0 0] (5 * 11)).toList = (List.replicate 5 ((0, noMm) : Int × Mm)).flatMap bgC := by kernel_rfl
theorem made_bg {f : Nat} (h1 : 1 ≤ f) (h2 : f ≤ 4) : (madeCells #[.int .i64 0, .int .i64 0, .int .i64 0, .int .i64 0, .int .i64 0, .int .i64 0, .int .i64 0, .slice none 0 0, .slice none 0 0, .slice none 0 0, .slice none 0 0] ((f + 1) * 11)).toList = (List.replicate (f + 1) ((0, noMm) : Int × Mm)).flatMap bgC := by
  rcases (by omega : f = 1 ∨ f = 2 ∨ f = 3 ∨ f = 4) with rfl | rfl | rfl | rfl
  · exact made_bg2
  · exact made_bg3
  · exact made_bg4
  · exact made_bg5
theorem made_cv4 : (madeCells #[.bool false, .int .i64 0, .int .i64 0] (4 * 3)).toList = (List.replicate 4 (noVo : Vo)).flatMap voC := by kernel_rfl
theorem made_cv7 : (madeCells #[.bool false, .int .i64 0, .int .i64 0] (7 * 3)).toList = (List.replicate 7 (noVo : Vo)).flatMap voC := by kernel_rfl
theorem made_cv10 : (madeCells #[.bool false, .int .i64 0, .int .i64 0] (10 * 3)).toList = (List.replicate 10 (noVo : Vo)).flatMap voC := by kernel_rfl
theorem made_cv13 : (madeCells #[.bool false, .int .i64 0, .int .i64 0] (13 * 3)).toList = (List.replicate 13 (noVo : Vo)).flatMap voC := by kernel_rfl
theorem made_cv {f : Nat} (h1 : 1 ≤ f) (h2 : f ≤ 4) : (madeCells #[.bool false, .int .i64 0, .int .i64 0] ((3 * f + 1) * 3)).toList = (List.replicate (3 * f + 1) (noVo : Vo)).flatMap voC := by
  rcases (by omega : f = 1 ∨ f = 2 ∨ f = 3 ∨ f = 4) with rfl | rfl | rfl | rfl
  · exact made_cv4
  · exact made_cv7
  · exact made_cv10
  · exact made_cv13
theorem made_cx2 : (madeCells #[.complex .f64 0 0] 2).toList = List.replicate 2 (.complex .f64 0 0) := by kernel_rfl
theorem made_cx3 : (madeCells #[.complex .f64 0 0] 3).toList = List.replicate 3 (.complex .f64 0 0) := by kernel_rfl
theorem made_cx4 : (madeCells #[.complex .f64 0 0] 4).toList = List.replicate 4 (.complex .f64 0 0) := by kernel_rfl
theorem made_cx5 : (madeCells #[.complex .f64 0 0] 5).toList = List.replicate 5 (.complex .f64 0 0) := by kernel_rfl
theorem made_cx {f : Nat} (h1 : 1 ≤ f) (h2 : f ≤ 4) : (madeCells #[.complex .f64 0 0] (f + 1)).toList = mtC (List.replicate (f + 1) (0, 0)) := by
  have e : mtC (List.replicate (f + 1) (0, 0)) = List.replicate (f + 1) (.complex .f64 0 0) := by
    unfold mtC
    rw [List.map_replicate]
    show List.replicate _ (Value.complex .f64 (FloatKind.f64.nearest 0) (FloatKind.f64.nearest 0)) = _
    rw [fn_zero]
  rw [e]
  rcases (by omega : f = 1 ∨ f = 2 ∨ f = 3 ∨ f = 4) with rfl | rfl | rfl | rfl
  · exact made_cx2
  · exact made_cx3
  · exact made_cx4
  · exact made_cx5
theorem made_i17 : (madeCells #[.int .i64 0] 17).toList = intC (List.replicate 17 0) := by kernel_rfl
theorem run_make_ptN {f : Nat} (h1 : 1 ≤ f) (h2 : f ≤ 4) (wx : World) : (Instr.makeSlice 137 (.int .i64 (3 * (f : Int) + 1)) (.int .i64 (3 * (f : Int) + 1))).run Tryz.prog wx = .ok (.slice (some ⟨wx.heap.size, 0, none⟩) (3 * f + 1) (3 * f + 1)) (wx.alloc (.cells (madeCells #[.int .i64 0, .int .i64 0, .slice none 0 0, .slice none 0 0, .int .i64 0] ((3 * f + 1) * 5)) 260)) := by
  obtain ⟨i0, hi, hz0, hz1, hz2⟩ := info_parts Tryz.infopt
  have := run_make (P := Tryz.prog) wx 137 260 i0 _ Tryz.underlying137 hi hz0 .i64 .i64 (3 * (f : Int) + 1) (3 * (f : Int) + 1) (by omega) (by omega) (by rw [hz2]; omega) (by omega)
  rw [show (3 * (f : Int) + 1).toNat = 3 * f + 1 by omega, hz1] at this
  exact this
theorem run_make_bgN {f : Nat} (h1 : 1 ≤ f) (h2 : f ≤ 4) (wx : World) : (Instr.makeSlice 138 (.int .i64 ((f : Int) + 1)) (.int .i64 ((f : Int) + 1))).run Tryz.prog wx = .ok (.slice (some ⟨wx.heap.size, 0, none⟩) (f + 1) (f + 1)) (wx.alloc (.cells (madeCells #[.int .i64 0, .int .i64 0, .int .i64 0, .int .i64 0, .int .i64 0, .int .i64 0, .int .i64 0, .slice none 0 0, .slice none 0 0, .slice none 0 0, .slice none 0 0] ((f + 1) * 11)) 262)) := by
  obtain ⟨i0, hi, hz0, hz1, hz2⟩ := info_parts Tryz.infobg
  have := run_make (P := Tryz.prog) wx 138 262 i0 _ Tryz.underlying138 hi hz0 .i64 .i64 ((f : Int) + 1) ((f : Int) + 1) (by omega) (by omega) (by rw [hz2]; omega) (by omega)
  rw [show ((f : Int) + 1).toNat = f + 1 by omega, hz1] at this
  exact this
theorem run_make_cvN {f : Nat} (h1 : 1 ≤ f) (h2 : f ≤ 4) (wx : World) : (Instr.makeSlice 245 (.int .i64 (3 * (f : Int) + 1)) (.int .i64 (3 * (f : Int) + 1))).run Tryz.prog wx = .ok (.slice (some ⟨wx.heap.size, 0, none⟩) (3 * f + 1) (3 * f + 1)) (wx.alloc (.cells (madeCells #[.bool false, .int .i64 0, .int .i64 0] ((3 * f + 1) * 3)) 320)) := by
  obtain ⟨i0, hi, hz0, hz1, hz2⟩ := info_parts Tryz.infocv
  have := run_make (P := Tryz.prog) wx 245 320 i0 _ Tryz.underlying245 hi hz0 .i64 .i64 (3 * (f : Int) + 1) (3 * (f : Int) + 1) (by omega) (by omega) (by rw [hz2]; omega) (by omega)
  rw [show (3 * (f : Int) + 1).toNat = 3 * f + 1 by omega, hz1] at this
  exact this
theorem run_make_cxN {f : Nat} (h1 : 1 ≤ f) (h2 : f ≤ 4) (wx : World) : (Instr.makeSlice 169 (.int .i64 ((f : Int) + 1)) (.int .i64 ((f : Int) + 1))).run Tryz.prog wx = .ok (.slice (some ⟨wx.heap.size, 0, none⟩) (f + 1) (f + 1)) (wx.alloc (.cells (madeCells #[.complex .f64 0 0] ((f + 1) * 1)) 269)) := by
  obtain ⟨i0, hi, hz0, hz1, hz2⟩ := info_parts Tryz.infocx
  have := run_make (P := Tryz.prog) wx 169 269 i0 _ Tryz.underlying169 hi hz0 .i64 .i64 ((f : Int) + 1) ((f : Int) + 1) (by omega) (by omega) (by rw [hz2]; omega) (by omega)
  rw [show ((f : Int) + 1).toNat = f + 1 by omega, hz1] at this
  exact this

section
variable {B : Nat} {w0 w W W' : World} {ss : List Res}

theorem cfC_range {c : Cf} {b : Nat} (h : w.rangeAt b 0 (cfA c).toList) : CfAt c w b := by
  refine ⟨?_, ?_, ?_, ?_, ?_, ?_, ?_, ?_, ?_, ?_, ?_, ?_, ?_, ?_, ?_⟩
  · exact Nat.zero_add 0 ▸ h 0 _ rfl
  · exact Nat.zero_add 1 ▸ h 1 _ rfl
  · exact Nat.zero_add 2 ▸ h 2 _ rfl
  · exact Nat.zero_add 3 ▸ h 3 _ rfl
  · exact Nat.zero_add 4 ▸ h 4 _ rfl
  · exact Nat.zero_add 5 ▸ h 5 _ rfl
  · exact Nat.zero_add 6 ▸ h 6 _ rfl
  · exact Nat.zero_add 7 ▸ h 7 _ rfl
  · exact Nat.zero_add 8 ▸ h 8 _ rfl
  · exact Nat.zero_add 9 ▸ h 9 _ rfl
  · exact Nat.zero_add 10 ▸ h 10 _ rfl
  · exact Nat.zero_add 11 ▸ h 11 _ rfl
  · exact Nat.zero_add 12 ▸ h 12 _ rfl
  · exact Nat.zero_add 13 ▸ h 13 _ rfl
  · exact Nat.zero_add 14 ▸ h 14 _ rfl
theorem cfC_upd {c : Cf} {b : Nat} (hu : Upd [] w W) (h : CfAt c w b) : CfAt c W b := by
  obtain ⟨h0, h1, h2, h3, h4, h5, h6, h7, h8, h9, h10, h11, h12, h13, h14⟩ := h
  exact ⟨cell_upd hu h0, cell_upd hu h1, cell_upd hu h2, cell_upd hu h3, cell_upd hu h4, cell_upd hu h5, cell_upd hu h6, cell_upd hu h7, cell_upd hu h8, cell_upd hu h9, cell_upd hu h10, cell_upd hu h11, cell_upd hu h12, cell_upd hu h13, cell_upd hu h14⟩
theorem cfC_alloc {c : Cf} {b : Nat} {o : Obj} (h : CfAt c w b) : CfAt c (w.alloc o) b := cfC_upd ((Upd.refl _ _).alloc o) h

set_option maxHeartbeats 1600000 in
theorem cvalidC {c : Cf} (hc : CfOk c) (w : World) : Calls Tryz.prog 79 #[.agg (cfA c)] w fun e w' => e = .returned (.bool true) ∧ Upd [] w w' := by
  have H := Lib.hid hc
  have hf1 : (1 : Int) ≤ c.f := by have := hc.f1; omega
  have hf2 : (c.f : Int) ≤ 4 := by have := hc.f2; omega
  have HF1 := Lib.hid hf1
  have HF2 := Lib.hid hf2
  clear hc hf1 hf2
  go_enter Tryz.func79, Tryz.ntmps79
  go_wp2_with fail
  refine (cwithin _ _ _ _ HF1.out HF2.out).mono ?_
  rintro e w' ⟨rfl, rfl⟩
  go_wp2_with fail
  refine (cwithin _ _ _ _ H.out.cl1 H.out.cl2).mono ?_
  rintro e w' ⟨rfl, rfl⟩
  go_wp2_with fail
  refine (cwithin _ _ _ _ H.out.bt1 H.out.bt2).mono ?_
  rintro e w' ⟨rfl, rfl⟩
  go_wp2_with fail
  refine (cwithin _ _ _ _ H.out.ah1 H.out.ah2).mono ?_
  rintro e w' ⟨rfl, rfl⟩
  go_wp2_with fail
  refine (cwithin _ _ _ _ H.out.qu1 H.out.qu2).mono ?_
  rintro e w' ⟨rfl, rfl⟩
  go_wp2_with fail
  refine (cwithin _ _ _ _ H.out.fl1 H.out.fl2).mono ?_
  rintro e w' ⟨rfl, rfl⟩
  go_wp2_with fail
  refine (cwithin _ _ _ _ H.out.sh1 H.out.sh2).mono ?_
  rintro e w' ⟨rfl, rfl⟩
  go_wp2_with fail
  refine (cwithin _ _ _ _ H.out.pe1 H.out.pe2).mono ?_
  rintro e w' ⟨rfl, rfl⟩
  go_wp2_with fail
  refine (cwithin _ _ _ _ H.out.nu1 H.out.nu2).mono ?_
  rintro e w' ⟨rfl, rfl⟩
  go_wp2_with fail
  refine (cwithin _ _ _ _ H.out.de1 H.out.de2).mono ?_
  rintro e w' ⟨rfl, rfl⟩
  go_wp2_with fail
  refine (cwithin _ _ _ _ H.out.la1 H.out.la2).mono ?_
  rintro e w' ⟨rfl, rfl⟩
  go_wp2_with fail
  refine (cwithin _ _ _ _ H.out.om1 H.out.om2).mono ?_
  rintro e w' ⟨rfl, rfl⟩
  go_wp2_with fail
  refine (cwithin _ _ _ _ H.out.wa1 H.out.wa2).mono ?_
  rintro e w' ⟨rfl, rfl⟩
  go_wp2_with fail
  refine (cwithin _ _ _ _ H.out.ag1 H.out.ag2).mono ?_
  rintro e w' ⟨rfl, rfl⟩
  go_wp2_with fail
  refine (cwithin _ _ _ _ H.out.re1 H.out.re2).mono ?_
  rintro e w' ⟨rfl, rfl⟩
  go_wp2_with fail
  go_ret
  exact ⟨rfl, (Upd.refl _ _).alloc _⟩

theorem prop_newN {c : Cf} (hc : CfOk c) (h : Own B w0 W ss) : Calls Tryz.prog 83 #[.int .i64 c.f, .int .i64 c.cl] W fun e w' => ∃ p, e = .returned (.tuple #[.pointer (some ⟨p, 0, none⟩), .int .i64 0]) ∧ Own B w0 w' (blk p (tabOb c.f c.cl (.slice none 0 0)) :: ss) := by
  have H := Lib.hid h
  have g1 : decide ((c.f : Int) < 1) = false := by have := hc.f1; simp; omega
  have g2 : decide ((4 : Int) < (c.f : Int)) = false := by have := hc.f2; simp; omega
  have g3 : decide (c.cl < 1) = false := by have := hc.cl1; simp; omega
  have g4 : decide (4 < c.cl) = false := by have := hc.cl2; simp; omega
  clear h hc
  go_enter Tryz.func83, Tryz.ntmps83
  go_wp2_with fail
  go_ret2
  exact ⟨_, rfl, H.out.box _⟩
theorem change_newN {c : Cf} (hc : CfOk c) (h : Own B w0 W ss) : Calls Tryz.prog 84 #[.int .i64 c.f] W fun e w' => ∃ (p g : Nat) , e = .returned (.tuple #[.pointer (some ⟨p, 0, none⟩), .int .i64 0]) ∧ Own B w0 w' (blk p (cvO c.f g (3 * c.f + 1) (3 * c.f + 1)) :: blk g (.cells (madeCells #[.bool false, .int .i64 0, .int .i64 0] ((3 * c.f + 1) * 3)) 320 (0, 0)) :: ss) := by
  have H := Lib.hid h
  have g1 : decide ((c.f : Int) < 1) = false := by have := hc.f1; simp; omega
  have g2 : decide ((4 : Int) < (c.f : Int)) = false := by have := hc.f2; simp; omega
  have hmk := run_make_cvN hc.f1 hc.f2
  have hf1 := hc.f1
  have hf2 := hc.f2
  have HNO := Lib.hid (fun w => nodes_any (c.f : Int) w (by omega) (by omega))
  clear h hc
  go_enter Tryz.func84, Tryz.ntmps84
  go_wp2_with fail
  refine (HNO.out _).mono ?_
  rintro e w' ⟨rfl, rfl⟩
  go_wp2_with fail
  go_ret2
  exact ⟨W.heap.size + 1, W.heap.size, rfl, (H.out.box _).boxAt _ (by simp)⟩
theorem meter_newN {c : Cf} (hc : CfOk c) (h : Own B w0 W ss) : Calls Tryz.prog 87 #[.int .i64 ((c.f : Int) + 1)] W fun e w' => ∃ (p g : Nat) , e = .returned (.tuple #[.pointer (some ⟨p, 0, none⟩), .int .i64 0]) ∧ Own B w0 w' (blk p (mtB g (c.f + 1) (c.f + 1)) :: blk g (.cells (madeCells #[.complex .f64 0 0] (c.f + 1)) 269 (0, 0)) :: ss) := by
  have H := Lib.hid h
  have g1 : decide ((c.f : Int) + 1 < 1) = false := by have := hc.f1; simp; omega
  have g2 : decide ((5 : Int) < (c.f : Int) + 1) = false := by have := hc.f2; simp; omega
  have hmk := run_make_cxN hc.f1 hc.f2
  clear h hc
  go_enter Tryz.func87, Tryz.ntmps87
  go_wp2_with fail
  go_ret2
  exact ⟨W.heap.size + 1, W.heap.size, rfl, (H.out.box _).boxAt (n := W.heap.size + 1) _ (by simp)⟩
theorem ledger_newN {c : Cf} (hc : CfOk c) (h : Own B w0 W ss) :
    Calls Tryz.prog 86 #[.int .i64 c.cl] W fun e w' => ∃ x : Lg, e = .returned (.tuple #[.pointer (some ⟨x.p, 0, none⟩), .int .i64 0]) ∧ LgOk x ∧ x.lp = newL c.cl.toNat ∧ Own B w0 w' (lgL x ++ ss) := by
  have h1 := hc.cl1
  have h2 := hc.cl2
  have e : ((c.cl.toNat : Nat) : Int) = c.cl := by omega
  have := ledger_new c.cl.toNat (by omega) (by omega) h
  rw [e] at this
  exact this
theorem nwmk_start {c : Cf} {q p t : Nat} {id : Int} {nt : Nat} (h : Own B w0 W (segR p 141 (mkC c id nt t nilS nilP nilP nilP nilP nilP nilS nilS nilS nilS) :: blk q (cfO c) :: blk t clockO :: ss)) : NwMk c B w0 W p q id nt t 0 ss := by
  refine ⟨[], none, none, none, 0, 0, 0, ⟨rfl, by simp⟩, ?_⟩
  exact ((h.row0 (E := 69) (sz := 1)).row0 (E := 69) (sz := 1)).swap.row0 (E := 142) (sz := 1) |>.perm (by
    refine List.Perm.trans (List.perm_middle (l₁ := [_, _, _])) (List.Perm.refl _) )
theorem rd_three (rs : List Rd) : (rs.flatMap rdR).Perm (rs.map (fun r => instR r.x) ++ (rs.map (fun r => blk r.a z17O) ++ rs.map fun r => blk r.b z17O)) := by
  induction rs with
  | nil => exact .refl _
  | cons r rs ih =>
    rw [List.flatMap_cons]
    refine (List.Perm.append_left _ ih).trans ?_
    simp only [rdR, List.map_cons, List.cons_append, List.nil_append]
    refine List.Perm.cons _ ?_
    refine ((List.perm_middle (a := blk r.a z17O)).trans (List.Perm.cons _ ?_)).symm
    refine List.Perm.trans (List.Perm.append_left _ List.perm_middle) ?_
    exact List.perm_middle
/-- A row's block is numbers. -/
theorem own_nrs {hd : List Res} : ∀ {bs : List Nat}, Own B w0 W (hd ++ (bs.map (fun b => blk b z17O) ++ ss)) → Own B w0 W (hd ++ ((bs.zip (List.replicate bs.length (List.replicate 17 (0 : Int)))).map nrR ++ ss))
  | [], h => h
  | b :: bs, h => by
    have h1 : Own B w0 W (blk b z17O :: (hd ++ (bs.map (fun b => blk b z17O) ++ ss))) := h.perm (by
      simp only [List.map_cons, List.cons_append]
      exact List.perm_middle)
    have h2 := own_toSeg h1 made_i17
    have h3 : Own B w0 W ((nrR (b, List.replicate 17 (0 : Int)) :: hd) ++ (bs.map (fun b => blk b z17O) ++ ss)) := h2
    have h4 := own_nrs (hd := nrR (b, List.replicate 17 (0 : Int)) :: hd) h3
    refine h4.perm ?_
    simp only [List.length_cons, List.replicate_succ, List.zip_cons_cons, List.map_cons, List.cons_append]
    exact List.perm_middle.symm
theorem row_slice {E n cap : Nat} {a : Option Addr} {xs : List Value} {A : List Nat} (h : (ownR E 1 (.slice a n cap) n xs).At W A) (hn : 0 < n) : ∃ g, a = some ⟨g, 0, none⟩ ∧ n ≤ cap := by
  rcases (ownR_owns h).2 with ⟨h', -⟩ | ⟨g, cap', cur, h', -, -, hnc, -⟩
  · simp only [Value.slice.injEq] at h'; omega
  · simp only [Value.slice.injEq] at h'
    exact ⟨g, h'.1, by omega⟩
theorem own_rowSeg {E n cap g : Nat} {xs : List Value} (h : Own B w0 W (ownR E 1 (.slice (some ⟨g, 0, none⟩) n cap) n xs :: ss)) : Own B w0 W (segR g E xs :: ss) := h.alter (ownR_seg h.head) (fun k hk => by simpa [ownR, segR, blkOf] using hk)

set_option maxHeartbeats 4000000 in
/-- All that New makes is a node. -/
theorem nw_fin {c : Cf} (hc : CfOk c) {p q t tb vt vg gd mt mg pt bg nt : Nat} {id : Int} {rs : List Rd} {a1 a2 a3 : Option Addr} {c1 c2 c3 : Nat} {bk : Lg} (hk : LgOk bk) (hlp : bk.lp = newL c.cl.toNat) (hr : RwN c rs (c.f + 1))
    (h : Own B w0 W (blk bg (bgON c.f) :: blk pt (ptON c.f) :: blk mt (mtB mg (c.f + 1) (c.f + 1)) :: blk mg (.cells (madeCells #[.complex .f64 0 0] (c.f + 1)) 269 (0, 0)) :: (lgL bk ++ (blk gd (.cells #[.int .i64 c.fl, .int .i64 c.sh, .slice none 0 0] 250 (0, 0)) :: blk vt (cvO c.f vg (3 * c.f + 1) (3 * c.f + 1)) :: blk vg (.cells (madeCells #[.bool false, .int .i64 0, .int .i64 0] ((3 * c.f + 1) * 3)) 320 (0, 0)) :: blk tb (tabOb c.f c.cl (.slice none 0 0)) ::
      segR p 141 (mkC c id nt t (.slice a1 (c.f + 1) c1) (ptrV tb) (ptrV vt) (ptrV gd) (ptrV bk.p) (ptrV mt) (slI pt (3 * c.f + 1) (3 * c.f + 1)) (slI bg (c.f + 1) (c.f + 1)) (.slice a2 (c.f + 1) c2) (.slice a3 (c.f + 1) c3)) ::
      ownR 142 1 (.slice a1 (c.f + 1) c1) (c.f + 1) (rs.map fun r => r.x.ptr) :: ownR 69 1 (.slice a2 (c.f + 1) c2) (c.f + 1) (rs.map Rd.va) :: ownR 69 1 (.slice a3 (c.f + 1) c3) (c.f + 1) (rs.map Rd.vb) :: blk q (cfO c) :: blk t clockO :: (rs.flatMap rdR ++ ss))))) :
    ∃ (x : Np) (v : Nv), x.p = p ∧ x.nt = nt ∧ (∀ nm, NvOk { x with nm := nm } (newS c id) v) ∧ Own B w0 W (nsR x (newS c id) v :: ss) := by
  obtain ⟨hr1, hr2⟩ := hr
  obtain ⟨g1, rfl, k1⟩ := row_slice (h.get 14 rfl) (by omega)
  obtain ⟨g2, rfl, k2⟩ := row_slice (h.get 15 rfl) (by omega)
  obtain ⟨g3, rfl, k3⟩ := row_slice (h.get 16 rfl) (by omega)
  obtain ⟨x, hx⟩ : ∃ x : Np, x = ⟨p, nt, 0, t, g1, c1, rs.map (fun r => r.x.i), tb, vt, vg, 3 * c.f + 1, gd, bk.p, mt, mg, c.f + 1, pt, 3 * c.f + 1, bg, c.f + 1, g2, c2, rs.map Rd.a, g3, c3, rs.map Rd.b⟩ := ⟨_, rfl⟩
  obtain ⟨v, hv⟩ : ∃ v : Nv, v = ⟨rs.map Rd.x, .slice none 0 0, .slice none 0 0, bk, List.replicate (3 * c.f + 1) (0, noPt), List.replicate (c.f + 1) (0, noMm), .slice none 0 0, []⟩ := ⟨_, rfl⟩
  refine ⟨x, v, by rw [hx], by rw [hx], fun nm => ?_, ?_⟩
  · subst hx hv
    refine ⟨?_, by simp [newS], hlp, hk, rfl, ?_, ?_, rfl, ⟨none, 0, rfl⟩, k1, Nat.le_refl _, Nat.le_refl _, k2, k3, Nat.le_refl _, Nat.le_refl _, by simpa [newS] using hr1, by simpa [newS] using hr1⟩
    · refine List.ext_getElem (by simp [newS, hr1]) (fun j h1 h2 => ?_)
      simp only [newS, List.getElem_map, List.getElem_range]
      have hj : j < rs.length := by simpa using h1
      exact hr2 j rs[j] (by simp [hj])
    · simp only [newS, List.map_replicate]; rfl
    · simp only [newS, List.map_replicate]; rfl
  · -- the rows of numbers and the instances behind each other
    have e0 : Own B w0 W ([blk bg (bgON c.f), blk pt (ptON c.f), blk mt (mtB mg (c.f + 1) (c.f + 1)), blk mg (.cells (madeCells #[.complex .f64 0 0] (c.f + 1)) 269 (0, 0))] ++ (lgL bk ++ [blk gd (.cells #[.int .i64 c.fl, .int .i64 c.sh, .slice none 0 0] 250 (0, 0)), blk vt (cvO c.f vg (3 * c.f + 1) (3 * c.f + 1)), blk vg (.cells (madeCells #[.bool false, .int .i64 0, .int .i64 0] ((3 * c.f + 1) * 3)) 320 (0, 0)), blk tb (tabOb c.f c.cl (.slice none 0 0)),
      segR p 141 (mkC c id nt t (.slice (some ⟨g1, 0, none⟩) (c.f + 1) c1) (ptrV tb) (ptrV vt) (ptrV gd) (ptrV bk.p) (ptrV mt) (slI pt (3 * c.f + 1) (3 * c.f + 1)) (slI bg (c.f + 1) (c.f + 1)) (.slice (some ⟨g2, 0, none⟩) (c.f + 1) c2) (.slice (some ⟨g3, 0, none⟩) (c.f + 1) c3)),
      ownR 142 1 (.slice (some ⟨g1, 0, none⟩) (c.f + 1) c1) (c.f + 1) (rs.map fun r => r.x.ptr), ownR 69 1 (.slice (some ⟨g2, 0, none⟩) (c.f + 1) c2) (c.f + 1) (rs.map Rd.va), ownR 69 1 (.slice (some ⟨g3, 0, none⟩) (c.f + 1) c3) (c.f + 1) (rs.map Rd.vb), blk q (cfO c), blk t clockO]) ++ ((rs.map fun r => instR r.x) ++ ((rs.map fun r => blk r.a z17O) ++ ((rs.map fun r => blk r.b z17O) ++ ss)))) := h.perm (by
        refine List.Perm.append_left [_, _, _, _, _, _, _, _, _, _, _, _, _, _, _, _, _, _, _] ?_
        rw [← List.append_assoc, ← List.append_assoc]
        refine List.Perm.append_right ss ?_
        rw [List.append_assoc]
        exact rd_three rs)
    obtain ⟨C, hC⟩ : ∃ C : List Res, C = [blk bg (bgON c.f), blk pt (ptON c.f), blk mt (mtB mg (c.f + 1) (c.f + 1)), blk mg (.cells (madeCells #[.complex .f64 0 0] (c.f + 1)) 269 (0, 0))] ++ (lgL bk ++ [blk gd (.cells #[.int .i64 c.fl, .int .i64 c.sh, .slice none 0 0] 250 (0, 0)), blk vt (cvO c.f vg (3 * c.f + 1) (3 * c.f + 1)), blk vg (.cells (madeCells #[.bool false, .int .i64 0, .int .i64 0] ((3 * c.f + 1) * 3)) 320 (0, 0)), blk tb (tabOb c.f c.cl (.slice none 0 0)),
      segR p 141 (mkC c id nt t (.slice (some ⟨g1, 0, none⟩) (c.f + 1) c1) (ptrV tb) (ptrV vt) (ptrV gd) (ptrV bk.p) (ptrV mt) (slI pt (3 * c.f + 1) (3 * c.f + 1)) (slI bg (c.f + 1) (c.f + 1)) (.slice (some ⟨g2, 0, none⟩) (c.f + 1) c2) (.slice (some ⟨g3, 0, none⟩) (c.f + 1) c3)), blk q (cfO c), blk t clockO]) := ⟨_, rfl⟩
    have hp1 : rs.map (fun r => r.x.ptr) = (rs.map fun r => r.x.i).map ptrV := by rw [List.map_map]; rfl
    have hp2 : rs.map Rd.va = (rs.map Rd.a).map nrV := by rw [List.map_map]; rfl
    have hp3 : rs.map Rd.vb = (rs.map Rd.b).map nrV := by rw [List.map_map]; rfl
    have hq1 : rs.map (fun r => instR r.x) = (rs.map Rd.x).map instR := by rw [List.map_map]; rfl
    have hq2 : rs.map (fun r => blk r.a z17O) = (rs.map Rd.a).map (fun b => blk b z17O) := by rw [List.map_map]; rfl
    have hq3 : rs.map (fun r => blk r.b z17O) = (rs.map Rd.b).map (fun b => blk b z17O) := by rw [List.map_map]; rfl
    rw [hp1, hp2, hp3, hq1, hq2, hq3] at e0
    have la : (rs.map Rd.a).length = c.f + 1 := by simpa using hr1
    have lb : (rs.map Rd.b).length = c.f + 1 := by simpa using hr1
    generalize hI : (rs.map Rd.x).map instR = I at *
    generalize hA : (rs.map Rd.a) = A at *
    generalize hB : (rs.map Rd.b) = Bb at *
    have e1 : Own B w0 W (ownR 69 1 (.slice (some ⟨g3, 0, none⟩) (c.f + 1) c3) (c.f + 1) (Bb.map nrV) :: ownR 69 1 (.slice (some ⟨g2, 0, none⟩) (c.f + 1) c2) (c.f + 1) (A.map nrV) :: ownR 142 1 (.slice (some ⟨g1, 0, none⟩) (c.f + 1) c1) (c.f + 1) ((rs.map fun r => r.x.i).map ptrV) :: (C ++ (I ++ (A.map (fun b => blk b z17O) ++ (Bb.map (fun b => blk b z17O) ++ ss))))) := by
      subst hC
      exact ((e0.front 14 rfl rfl).front 15 rfl rfl).front 16 rfl rfl
    have mv : ∀ (X Y Z : List Res), (X ++ (Y ++ Z)).Perm (Y ++ (X ++ Z)) := fun X Y Z => List.perm_append_comm_assoc X Y Z
    have e2 : Own B w0 W ([segR g3 69 (Bb.map nrV)] ++ (Bb.map (fun b => blk b z17O) ++ (ownR 69 1 (.slice (some ⟨g2, 0, none⟩) (c.f + 1) c2) (c.f + 1) (A.map nrV) :: ownR 142 1 (.slice (some ⟨g1, 0, none⟩) (c.f + 1) c1) (c.f + 1) ((rs.map fun r => r.x.i).map ptrV) :: (C ++ (I ++ (A.map (fun b => blk b z17O) ++ ss)))))) := (own_rowSeg e1).perm (by
      refine List.Perm.cons _ ?_
      have := mv (ownR 69 1 (.slice (some ⟨g2, 0, none⟩) (c.f + 1) c2) (c.f + 1) (A.map nrV) :: ownR 142 1 (.slice (some ⟨g1, 0, none⟩) (c.f + 1) c1) (c.f + 1) ((rs.map fun r => r.x.i).map ptrV) :: (C ++ (I ++ A.map (fun b => blk b z17O)))) (Bb.map (fun b => blk b z17O)) ss
      simp only [List.cons_append, List.append_assoc] at this
      exact this)
    have e3 := own_nrs e2
    have e4 : Own B w0 W (ownR 69 1 (.slice (some ⟨g2, 0, none⟩) (c.f + 1) c2) (c.f + 1) (A.map nrV) :: joinR (nrL g3 Bb (List.replicate (c.f + 1) (List.replicate 17 0))) :: ownR 142 1 (.slice (some ⟨g1, 0, none⟩) (c.f + 1) c1) (c.f + 1) ((rs.map fun r => r.x.i).map ptrV) :: (C ++ (I ++ (A.map (fun b => blk b z17O) ++ ss)))) := by
      rw [lb] at e3
      exact (Own.shut (rs := nrL g3 Bb (List.replicate (c.f + 1) (List.replicate 17 0))) e3).swap
    have e5 : Own B w0 W ([segR g2 69 (A.map nrV)] ++ (A.map (fun b => blk b z17O) ++ (joinR (nrL g3 Bb (List.replicate (c.f + 1) (List.replicate 17 0))) :: ownR 142 1 (.slice (some ⟨g1, 0, none⟩) (c.f + 1) c1) (c.f + 1) ((rs.map fun r => r.x.i).map ptrV) :: (C ++ (I ++ ss))))) := (own_rowSeg e4).perm (by
      refine List.Perm.cons _ ?_
      have := mv (joinR (nrL g3 Bb (List.replicate (c.f + 1) (List.replicate 17 0))) :: ownR 142 1 (.slice (some ⟨g1, 0, none⟩) (c.f + 1) c1) (c.f + 1) ((rs.map fun r => r.x.i).map ptrV) :: (C ++ I)) (A.map (fun b => blk b z17O)) ss
      simp only [List.cons_append, List.append_assoc] at this
      exact this)
    have e6 := own_nrs e5
    have e7 : Own B w0 W (ownR 142 1 (.slice (some ⟨g1, 0, none⟩) (c.f + 1) c1) (c.f + 1) ((rs.map fun r => r.x.i).map ptrV) :: joinR (nrL g2 A (List.replicate (c.f + 1) (List.replicate 17 0))) :: joinR (nrL g3 Bb (List.replicate (c.f + 1) (List.replicate 17 0))) :: (C ++ (I ++ ss))) := by
      rw [la] at e6
      exact (Own.shut (rs := nrL g2 A (List.replicate (c.f + 1) (List.replicate 17 0))) e6).rot
    have e8 : Own B w0 W ((segR g1 142 ((rs.map fun r => r.x.i).map ptrV) :: I) ++ (joinR (nrL g2 A (List.replicate (c.f + 1) (List.replicate 17 0))) :: joinR (nrL g3 Bb (List.replicate (c.f + 1) (List.replicate 17 0))) :: (C ++ ss))) := (own_rowSeg e7).perm (by
      refine List.Perm.cons _ ?_
      have := mv (joinR (nrL g2 A (List.replicate (c.f + 1) (List.replicate 17 0))) :: joinR (nrL g3 Bb (List.replicate (c.f + 1) (List.replicate 17 0))) :: C) I ss
      simp only [List.cons_append, List.append_assoc] at this
      exact this)
    have e9 := Own.shut (rs := segR g1 142 ((rs.map fun r => r.x.i).map ptrV) :: I) e8
    have o1 : Own B w0 W (sdsR [] :: ownR 62 2 (.slice none 0 0) 0 [] :: _) := (e9.row0 (E := 62) (sz := 2)).mkSds (by simp)
    have o2 := Own.shut (rs := ouL (.slice none 0 0) []) o1.swap
    subst hC
    have o3 := o2.front 3 rfl rfl
    dsimp only [List.eraseIdx] at o3
    have o3b := o3.front 3 rfl rfl
    dsimp only [List.eraseIdx] at o3b
    have o3c := o3b.front 4 rfl rfl
    dsimp only [List.eraseIdx] at o3c
    have o4 := own_toSeg o3c (made_bg hc.f1 hc.f2)
    have hz : ∀ (D : List Nat), MmIn W noMm D := fun D => ⟨.nil _ _ _, .nil _ _ _, .nil _ _ _, by simp [noMm], .nil _ _ _, by simp [noMm], ⟨by simp [noMm], by simp [noMm], by simp [noMm], by simp [noMm]⟩⟩
    have hy : ∀ (D : List Nat), PtIn W noPt D := fun D => ⟨.nil _ _ _, by simp [noPt], .nil _ _ _, by simp [noPt], by simp [noPt]⟩
    have o5 : Own B w0 W (mmsR ((List.replicate (c.f + 1) ((0 : Int), noMm)).map Prod.snd) :: _) := o4.mkMms (fun m hm => by
      rw [List.map_replicate] at hm
      rw [List.eq_of_mem_replicate hm]; exact hz _)
    have o6 := Own.shut (rs := bqL bg (List.replicate (c.f + 1) ((0 : Int), noMm))) o5.swap
    have o6b := o6.front 5 rfl rfl
    dsimp only [List.eraseIdx] at o6b
    have o7 := own_toSeg o6b (made_pt hc.f1 hc.f2)
    have o8 : Own B w0 W (ptsR ((List.replicate (3 * c.f + 1) ((0 : Int), noPt)).map Prod.snd) :: _) := o7.mkPts (fun m hm => by
      rw [List.map_replicate] at hm
      rw [List.eq_of_mem_replicate hm]; exact hy _)
    have o9 := Own.shut (rs := pqL pt (List.replicate (3 * c.f + 1) ((0 : Int), noPt))) o8.swap
    have p1 := o9.front 5 rfl rfl
    dsimp only [List.eraseIdx] at p1
    have p1b := p1.front 7 rfl rfl
    dsimp only [List.eraseIdx] at p1b
    have p2 := own_toSeg p1b (made_cx hc.f1 hc.f2)
    have p2b := p2.front 7 rfl rfl
    dsimp only [List.eraseIdx] at p2b
    have p3 := Own.shut (rs := mtL mt mg (List.replicate (c.f + 1) ((0 : Int), (0 : Int))).length (c.f + 1) (List.replicate (c.f + 1) (0, 0))) (by rw [List.length_replicate]; exact p2b)
    have q1 := p3.front 11 rfl rfl
    dsimp only [List.eraseIdx] at q1
    have q2 := q1.front 11 rfl rfl
    dsimp only [List.eraseIdx] at q2
    have q3 := q2.front 11 rfl rfl
    dsimp only [List.eraseIdx] at q3
    have q4 := q3.front 11 rfl rfl
    dsimp only [List.eraseIdx] at q4
    have q5 := q4.front 11 rfl rfl
    dsimp only [List.eraseIdx] at q5
    have p4 := Own.shut (rs := lgL bk) q5
    have q6 := (p4.row0 (E := 272) (sz := 3)).front 9 rfl rfl
    dsimp only [List.eraseIdx] at q6
    have p5 := Own.shut (rs := [blk gd (grO c.fl c.sh (.slice none 0 0)), plR (.slice none 0 0) []]) q6
    have q7 := p5.front 10 rfl rfl
    dsimp only [List.eraseIdx] at q7
    have p6 := own_toSeg q7 (made_cv hc.f1 hc.f2)
    have q8 := p6.front 10 rfl rfl
    dsimp only [List.eraseIdx] at q8
    have p7 := Own.shut (rs := [blk vt (cvO c.f vg (List.replicate (3 * c.f + 1) noVo).length (3 * c.f + 1)), cvR vg (List.replicate (3 * c.f + 1) noVo)]) (by rw [List.length_replicate]; exact q8)
    have q9 := (p7.row0 (E := 314) (sz := 21)).front 11 rfl rfl
    dsimp only [List.eraseIdx] at q9
    have p8 := Own.shut (rs := tabL tb c.f c.cl (.slice none 0 0) []) q9
    have qa := p8.front 13 rfl rfl
    dsimp only [List.eraseIdx] at qa
    have qb := qa.front 12 rfl rfl
    dsimp only [List.eraseIdx] at qb
    have p9 := qb.dropAt 13 (by simp)
    dsimp only [List.eraseIdx] at p9
    subst hx hv
    refine Own.shut ?_
    rw [hI.symm] at p9
    show Own B w0 W (nsL _ (newS c id) _ ++ ss)
    exact p9


end
end Go.Proofs.YtannckelmojkoaaGreat
