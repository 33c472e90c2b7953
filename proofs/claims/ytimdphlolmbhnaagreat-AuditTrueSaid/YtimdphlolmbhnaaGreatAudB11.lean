/- Parts of the proof, one behind the other. -/
import Derived.Test.YtimdphlolmbhnaaGreatAudB10
import Derived.Laws.IdiomRangeMap

/- node: Clone, of a new node. -/
namespace Go.Proofs.YtimdphlolmbhnaaGreat
open Go.RowKit Go.Heap

/-- A cloned node, as much as is looked at: its instances, its ledger. -/
structure Cn where
  p : Nat
  cs : List Value
  a1 : Option Addr
  c1 : Nat
  ys : List Ins
  bk : Lg
def cnL (y : Cn) : List Res := segR y.p 184 y.cs :: ownR 185 1 (.slice y.a1 2 y.c1) 2 (y.ys.map Ins.ptr) :: (lgL y.bk ++ y.ys.map instR)
def cnR (y : Cn) : Res := joinR (cnL y)
def InsOks (ys : List Ins) (k : Nat) : Prop := ys.length = k ∧ ∀ (j : Nat) (y : Ins), ys[j]? = some y → y.st = newI 1 (j : Int) 4
structure CnOk (y : Cn) : Prop where
  ys : InsOks y.ys 2
  c18 : y.cs[18]? = some (.slice y.a1 2 y.c1)
  c22 : y.cs[22]? = some (ptrV y.bk.p)
  bk : LgOk y.bk
  lp : y.bk.lp = newL 2

theorem InsOks.add {ys : List Ins} {k : Nat} (h : InsOks ys k) (y : Ins) (hy : y.st = newI 1 (k : Int) 4) : InsOks (ys ++ [y]) (k + 1) := by
  obtain ⟨h1, h2⟩ := h
  refine ⟨by simp [h1], fun j q hq => ?_⟩
  rw [List.getElem?_append] at hq
  split at hq
  · exact h2 j q hq
  · have hj : j = k := by
      have := (List.getElem?_eq_some_iff.1 hq).1
      simp at this
      omega
    subst hj
    rw [h1] at hq
    simp at hq
    subst hq
    exact hy

theorem pt_size : (madeCells #[.int .i64 0, .int .i64 0, .slice none 0 0, .slice none 0 0, .int .i64 0] 20).size = 4 * 5 := by simp [size_madeCells]
theorem bg_size : (madeCells #[.int .i64 0, .int .i64 0, .int .i64 0, .int .i64 0, .int .i64 0, .int .i64 0, .int .i64 0, .slice none 0 0, .slice none 0 0, .slice none 0 0, .slice none 0 0] 22).size = 2 * 11 := by simp [size_madeCells]
theorem pt_one : ∀ u ∈ (madeCells #[.int .i64 0, .int .i64 0, .slice none 0 0, .slice none 0 0, .int .i64 0] 20).toList, u.oneCell' = true := by decide +kernel
theorem bg_one : ∀ u ∈ (madeCells #[.int .i64 0, .int .i64 0, .int .i64 0, .int .i64 0, .int .i64 0, .int .i64 0, .int .i64 0, .slice none 0 0, .slice none 0 0, .slice none 0 0, .slice none 0 0] 22).toList, u.oneCell' = true := by decide +kernel
theorem z17_size : (madeCells #[.int .i64 0] 17).size = 17 * 1 := by simp [size_madeCells]
theorem z17_one : ∀ u ∈ (madeCells #[.int .i64 0] 17).toList, u.oneCell' = true := by decide +kernel
theorem Tryz.infoSd : (Tryz.prog.info? 313).map (fun i => (i.zero, i.size, i.bytes)) = some (some (.agg #[.int .i64 0, .slice none 0 0]), 2, 32) := by kernel_rfl

theorem Tryz.infoNd : (Tryz.prog.info? 184).map (·.size) = some 40 := by kernel_rfl
abbrev ndZ : Array Value := #[.int .i64 0, .int .i64 0, .int .i64 0, .int .i64 0, .int .i64 0, .int .i64 0, .int .i64 0, .int .i64 0, .int .i64 0, .int .i64 0, .int .i64 0, .int .i64 0, .int .i64 0, .int .i64 0, .int .i64 0, .int .i64 0, .pointer none, .pointer none, .slice none 0 0, .pointer none, .pointer none, .pointer none, .pointer none, .pointer none, .slice none 0 0, .slice none 0 0, .slice none 0 0, .slice none 0 0, .int .i64 0, .int .i64 0, .int .i64 0, .int .i64 0, .int .i64 0, .bool false, .slice none 0 0, .int .i64 0, .int .i64 0, .int .i64 0, .int .i64 0, .int .i64 0]

theorem nd_one (x : Nd) : ∀ v ∈ x.cs, v.oneCell' = true := by
  intro v hv
  have : (x.cs.all (·.oneCell')) = true := by rfl
  exact List.all_eq_true.1 this v hv

section
variable {B : Nat} {w0 w W W' : World} {ss rs : List Res}

theorem _root_.Go.Heap.Own.bring {r : Res} (h : Own B w0 W rs) (k : Nat) (e : rs[k]? = some r) : Own B w0 W (r :: rs.eraseIdx k) := by
  obtain ⟨hk, rfl⟩ := List.getElem?_eq_some_iff.1 e
  exact h.perm (perm_at rs k hk)
theorem _root_.Go.Heap.Own.ret {r : Res} {hd : List Res} (k : Nat) (e : rs[k]? = some r) (h : Own B w0 W (hd ++ (r :: rs.eraseIdx k))) : Own B w0 W (hd ++ rs) := by
  obtain ⟨hk, rfl⟩ := List.getElem?_eq_some_iff.1 e
  exact h.perm (List.Perm.append_left _ (perm_at rs k hk).symm)
theorem perm_one (r : Res) (hd rows ss : List Res) : (r :: (hd ++ (rows ++ ss))).Perm (hd ++ ((rows ++ [r]) ++ ss)) := by
  have h2 := List.perm_append_comm_assoc [r] (hd ++ rows) ss
  simp only [List.append_assoc, List.cons_append, List.nil_append] at h2 ⊢
  exact h2

/-- What lies in a row of one cell each. -/
theorem row_cell {E n g cap : Nat} {xs : List Value} {rs : List Res} (h : Own B w0 W rs) (k : Nat) (e : rs[k]? = some (ownR E 1 (.slice (some ⟨g, 0, none⟩) n cap) n xs)) (j : Nat) {v : Value} (hj : xs[j]? = some v) : W.cell? ⟨g, j, none⟩ = some v := by
  obtain ⟨-, q2, -⟩ := segR_at (ownR_seg (h.get k e))
  exact (q2 j (List.getElem?_eq_some_iff.1 hj).1).trans hj

theorem row_some {E n cap : Nat} {a : Option Addr} {xs : List Value} {rs : List Res} (h : Own B w0 W rs) (k : Nat) (e : rs[k]? = some (ownR E 1 (.slice a n cap) n xs)) (hn : 0 < n) : ∃ g, a = some ⟨g, 0, none⟩ ∧ n ≤ cap ∧ cap ≤ maxLen := by
  have ho := ownR_owns (h.get k e)
  rcases ho.2 with ⟨h1, h2⟩ | ⟨g, cap', cur, h1, _, _, h3, h4, _⟩
  · omega
  · simp only [Value.slice.injEq] at h1
    obtain ⟨rfl, -, rfl⟩ := h1
    exact ⟨g, rfl, h3, h4⟩

theorem rd_at : ∀ {l : List Rd} {k : Nat} {r : Rd} (zs : List Res), l[k]? = some r → (l.flatMap rdR ++ zs)[3 * k]? = some (instR r.x) ∧ (l.flatMap rdR ++ zs)[3 * k + 1]? = some (blk r.a z17O) ∧ (l.flatMap rdR ++ zs)[3 * k + 2]? = some (blk r.b z17O)
  | [], k, r, _, h => by simp at h
  | q :: l, 0, r, _, h => by simp at h; subst h; exact ⟨rfl, rfl, rfl⟩
  | q :: l, k + 1, r, zs, h => by
    have := rd_at zs (show l[k]? = some r by simpa using h)
    rw [show 3 * (k + 1) = 3 * k + 3 by omega]
    exact this

def NcLoop (B : Nat) (w0 w : World) (x : Nd) (p n t : Nat) (k : Nat) (ss : List Res) : Prop :=
  ∃ (ys : List Ins) (a1 a2 a3 : Option Addr) (c1 c2 c3 : Nat) (x2 x3 : List Value), InsOks ys k ∧
    Own B w0 w (segR p 184 (ndCs x.id n t (.slice a1 k c1) (ptrV x.tb) (ptrV x.vt) (ptrV x.gd) (ptrV x.bk.p) (ptrV x.mt) (.slice (some ⟨x.pt, 0, none⟩) 4 4) (.slice (some ⟨x.bg, 0, none⟩) 2 2) (.slice a2 k c2) (.slice a3 k c3)) ::
      ownR 185 1 (.slice a1 k c1) k (ys.map Ins.ptr) :: ownR 64 1 (.slice a2 k c2) k x2 :: ownR 64 1 (.slice a3 k c3) k x3 :: (ndL x ++ (ys.map instR ++ ss)))

theorem cn_fin {x : Nd} {p : Nat} {cs : List Value} {a1 : Option Addr} {c1 : Nat} {ys : List Ins} {bk : Lg} {v2 v3 : Res}
    (h : Own B w0 W (lgL bk ++ (segR p 184 cs :: ownR 185 1 (.slice a1 2 c1) 2 (ys.map Ins.ptr) :: v2 :: v3 :: (ndL x ++ (ys.map instR ++ ss))))) :
    Own B w0 W (cnR ⟨p, cs, a1, c1, ys, bk⟩ :: nodeR x :: ss) := by
  have h1 := (h.dropAt 7 (by simp [lgL])).dropAt 7 (by simp [lgL])
  have h2 : Own B w0 W (lgL bk ++ ([segR p 184 cs, ownR 185 1 (.slice a1 2 c1) 2 (ys.map Ins.ptr)] ++ (ndL x ++ (ys.map instR ++ ss)))) := h1
  have h3 := own_back (lgL bk) h2
  have h4 : Own B w0 W (cnL ⟨p, cs, a1, c1, ys, bk⟩ ++ (ndL x ++ ss)) := h3.perm (by
    have q := List.Perm.append_left [segR p 184 cs, ownR 185 1 (.slice a1 2 c1) 2 (ys.map Ins.ptr)] (List.Perm.append_left (lgL bk) (List.perm_append_comm_assoc (ndL x) (ys.map instR) ss))
    unfold cnL
    simpa only [List.append_assoc, List.cons_append, List.nil_append] using q)
  have h5 : Own B w0 W (cnR ⟨p, cs, a1, c1, ys, bk⟩ :: (ndL x ++ ss)) := h4.shut
  have h6 : Own B w0 W (ndL x ++ ([cnR ⟨p, cs, a1, c1, ys, bk⟩] ++ ss)) := own_back [cnR ⟨p, cs, a1, c1, ys, bk⟩] h5
  exact (Own.shut h6).swap

set_option maxHeartbeats 4000000 in
set_option maxRecDepth 100000 in
theorem node_clone {x : Nd} (h : Own B w0 W (nodeR x :: ss)) (hk : NdOk x) (n : Nat) :
    Calls Tryz.prog 94 #[.pointer (some ⟨x.p, 0, none⟩), .pointer (some ⟨n, 0, none⟩)] W fun e w' => ∃ y : Cn, e = .returned (.pointer (some ⟨y.p, 0, none⟩)) ∧ CnOk y ∧ Own B w0 w' (cnR y :: nodeR x :: ss) := by
  obtain ⟨hrs, hbk, hlp⟩ := hk
  obtain ⟨xp, xq, xid, xnt, xt, xa1, xa2, xa3, xc1, xc2, xc3, xrs, xtb, xvt, xvg, xgd, xbk, xmt, xmg, xpt, xbg⟩ := x
  have ho := Own.open (rs := ndL ⟨xp, xq, xid, xnt, xt, xa1, xa2, xa3, xc1, xc2, xc3, xrs, xtb, xvt, xvg, xgd, xbk, xmt, xmg, xpt, xbg⟩) h
  obtain ⟨g1, rfl, hc1, hc1'⟩ := row_some ho 14 rfl (by omega)
  obtain ⟨g2, rfl, hc2, hc2'⟩ := row_some ho 15 rfl (by omega)
  obtain ⟨g3, rfl, hc3, hc3'⟩ := row_some ho 16 rfl (by omega)
  have HC1 := Lib.hid (And.intro hc1 hc1')
  have HC2 := Lib.hid (And.intro hc2 hc2')
  have HC3 := Lib.hid (And.intro hc3 hc3')
  clear hc1 hc1' hc2 hc2' hc3 hc3'
  have HRS := Lib.hid hrs
  have HBK := Lib.hid hbk
  have HLP := Lib.hid hlp
  clear hrs hbk hlp
  have ho : Own B w0 W (ndL ⟨xp, xq, xid, xnt, xt, some ⟨g1, 0, none⟩, some ⟨g2, 0, none⟩, some ⟨g3, 0, none⟩, xc1, xc2, xc3, xrs, xtb, xvt, xvg, xgd, xbk, xmt, xmg, xpt, xbg⟩ ++ ss) := ho
  have hra : W.rangeAt xp 0 (ndCs xid xnt xt (.slice (some ⟨g1, 0, none⟩) 2 xc1) (ptrV xtb) (ptrV xvt) (ptrV xgd) (ptrV xbk.p) (ptrV xmt) (.slice (some ⟨xpt, 0, none⟩) 4 4) (.slice (some ⟨xbg, 0, none⟩) 2 2) (.slice (some ⟨g2, 0, none⟩) 2 xc2) (.slice (some ⟨g3, 0, none⟩) 2 xc3)) := range_seg (ho.get 13 (r := segR xp 184 (ndCs xid xnt xt (.slice (some ⟨g1, 0, none⟩) 2 xc1) (ptrV xtb) (ptrV xvt) (ptrV xgd) (ptrV xbk.p) (ptrV xmt) (.slice (some ⟨xpt, 0, none⟩) 4 4) (.slice (some ⟨xbg, 0, none⟩) 2 2) (.slice (some ⟨g2, 0, none⟩) 2 xc2) (.slice (some ⟨g3, 0, none⟩) 2 xc3))) rfl)
  have HI : Hid ((Tryz.prog.info? 184).map (·.size) = some (ndCs xid xnt xt (.slice (some ⟨g1, 0, none⟩) 2 xc1) (ptrV xtb) (ptrV xvt) (ptrV xgd) (ptrV xbk.p) (ptrV xmt) (.slice (some ⟨xpt, 0, none⟩) 4 4) (.slice (some ⟨xbg, 0, none⟩) 2 2) (.slice (some ⟨g2, 0, none⟩) 2 xc2) (.slice (some ⟨g3, 0, none⟩) 2 xc3)).length) := Lib.hid Tryz.infoNd
  have HI2 : Hid ((Tryz.prog.info? 184).map (·.size) = some (ndCs xid xnt xt (.slice (some ⟨g1, 0, none⟩) 2 xc1) (ptrV xtb) (ptrV xvt) (ptrV xgd) (ptrV xbk.p) (ptrV xmt) (.slice (some ⟨xpt, 0, none⟩) 4 4) (.slice (some ⟨xbg, 0, none⟩) 2 2) (.slice (some ⟨g2, 0, none⟩) 2 xc2) (.slice (some ⟨g3, 0, none⟩) 2 xc3)).toArray.size) := Lib.hid Tryz.infoNd
  have HTH : Hid ((W.alloc (.cells ndZ 184 (0, 0))).there W.heap.size 0 (ndCs xid xnt xt (.slice (some ⟨g1, 0, none⟩) 2 xc1) (ptrV xtb) (ptrV xvt) (ptrV xgd) (ptrV xbk.p) (ptrV xmt) (.slice (some ⟨xpt, 0, none⟩) 4 4) (.slice (some ⟨xbg, 0, none⟩) 2 2) (.slice (some ⟨g2, 0, none⟩) 2 xc2) (.slice (some ⟨g3, 0, none⟩) 2 xc3)).toArray.size) := Lib.hid (there_new rfl (Nat.le_refl _))
  have HALL : Hid ((ndCs xid xnt xt (.slice (some ⟨g1, 0, none⟩) 2 xc1) (ptrV xtb) (ptrV xvt) (ptrV xgd) (ptrV xbk.p) (ptrV xmt) (.slice (some ⟨xpt, 0, none⟩) 4 4) (.slice (some ⟨xbg, 0, none⟩) 2 2) (.slice (some ⟨g2, 0, none⟩) 2 xc2) (.slice (some ⟨g3, 0, none⟩) 2 xc3)).toArray.all (·.oneCell') = true) := Lib.hid (all_oneCell_toArray (nd_one ⟨xp, xq, xid, xnt, xt, some ⟨g1, 0, none⟩, some ⟨g2, 0, none⟩, some ⟨g3, 0, none⟩, xc1, xc2, xc3, xrs, xtb, xvt, xvg, xgd, xbk, xmt, xmg, xpt, xbg⟩))
  have H1 := Lib.hid (own_struct ho (z := ndZ) (T := 184) (cs := (ndCs xid xnt xt (.slice (some ⟨g1, 0, none⟩) 2 xc1) (ptrV xtb) (ptrV xvt) (ptrV xgd) (ptrV xbk.p) (ptrV xmt) (.slice (some ⟨xpt, 0, none⟩) 4 4) (.slice (some ⟨xbg, 0, none⟩) 2 2) (.slice (some ⟨g2, 0, none⟩) 2 xc2) (.slice (some ⟨g3, 0, none⟩) 2 xc3))) rfl rfl)
  have HRA := Lib.hid hra
  clear ho hra h
  generalize hcs : (ndCs xid xnt xt (.slice (some ⟨g1, 0, none⟩) 2 xc1) (ptrV xtb) (ptrV xvt) (ptrV xgd) (ptrV xbk.p) (ptrV xmt) (.slice (some ⟨xpt, 0, none⟩) 4 4) (.slice (some ⟨xbg, 0, none⟩) 2 2) (.slice (some ⟨g2, 0, none⟩) 2 xc2) (.slice (some ⟨g3, 0, none⟩) 2 xc3)) = cs at HRA HI HI2 HTH HALL H1
  have HCS := Lib.hid hcs
  clear hcs
  dsimp only
  go_enter Tryz.func94, Tryz.ntmps94
  go_upto_region 2 with (first
      | (refine wpList_load_mid rfl 184 (.tmp 9) rfl xp 0 rfl cs _ HRA.out Tryz.underlying184 rfl HI.out ?_)
      | (refine wpList_store_mid rfl 184 (.tmp 5) (.tmp 10) rfl W.heap.size 0 cs.toArray rfl rfl HTH.out HI2.out HALL.out ?_))
  clear HRA HI HI2 HTH HALL
  have hcs := HCS.out
  subst hcs
  clear HCS
  generalize W.heap.size = p at *
  generalize World.setCells _ p 0 _ = w1 at *
  have H2 := H1
  clear H1
  obtain ⟨y16, z16⟩ := seg_at H2.out 0 rfl 16 rfl
  go_upto_region 3 with fail
  have H3 := Lib.hid (H2.out.putAt 0 rfl 16 (ptrV n))
  clear H2 y16 z16
  generalize w1.setCell ⟨p, 16, none⟩ (ptrV n) = w2 at *
  obtain ⟨x17, -⟩ := seg_at H3.out 14 (b := xp) rfl 17 (v := ptrV xt) rfl
  have HC := Lib.hid (clock_clone (H3.out.blkAt 19 (b := xt) (o := clockO) rfl))
  go_wp2_with fail
  refine HC.out.mono ?_
  rintro e w3 ⟨t, rfl, hu⟩
  have H4 := Lib.hid (H3.out.upd0 hu)
  obtain ⟨y17, z17⟩ := seg_at H4.out 0 rfl 17 rfl
  clear hu HC H3 x17
  go_upto_region 4 with fail
  have H5 := Lib.hid (H4.out.putAt 0 rfl 17 (ptrV t))
  clear H4 y17 z17
  generalize w3.setCell ⟨p, 17, none⟩ (ptrV t) = w4 at *
  obtain ⟨y18, z18⟩ := seg_at H5.out 0 rfl 18 rfl
  obtain ⟨y26, z26⟩ := seg_at H5.out 0 rfl 26 rfl
  obtain ⟨y27, z27⟩ := seg_at H5.out 0 rfl 27 rfl
  go_upto_region 5 with fail
  have H6 := Lib.hid (((H5.out.putAt 0 rfl 18 nilS).putAt 0 rfl 26 nilS).putAt 0 rfl 27 nilS)
  clear H5 y18 z18 y26 z26 y27 z27
  generalize World.setCell _ ⟨p, 27, none⟩ _ = w5 at *
  have hl := ((H6.out.row0 (E := 64) (sz := 1)).row0 (E := 64) (sz := 1)).row0 (E := 185) (sz := 1)
  have HL : Hid (NcLoop B w0 w5 ⟨xp, xq, xid, xnt, xt, some ⟨g1, 0, none⟩, some ⟨g2, 0, none⟩, some ⟨g3, 0, none⟩, xc1, xc2, xc3, xrs, xtb, xvt, xvg, xgd, xbk, xmt, xmg, xpt, xbg⟩ p n t 0 ss) := Lib.hid ⟨[], none, none, none, 0, 0, 0, [], [], ⟨rfl, by simp⟩, hl.perm (by exact (List.perm_middle (l₁ := [_, _, _])))⟩
  obtain ⟨x18, -⟩ := seg_at H6.out 14 (b := xp) rfl 18 (v := .slice (some ⟨g1, 0, none⟩) 2 xc1) rfl
  clear hl H6
  go_wp2_with fail
  clear x18
  obtain ⟨i0, hi, hz0, hz1, hz2⟩ := info_parts Tryz.infoPi
  obtain ⟨j0, hj, hy0, hy1, hy2⟩ := info_parts Tryz.infoSi
  obtain ⟨k0, hk, hw0, hw1, hw2⟩ := info_parts Tryz.infoi17
  go_loopw [27] (fun m wr => ∃ k : Nat, k ≤ 2 ∧ m = .int .i64 k ∧ Hid (NcLoop B w0 wr ⟨xp, xq, xid, xnt, xt, some ⟨g1, 0, none⟩, some ⟨g2, 0, none⟩, some ⟨g3, 0, none⟩, xc1, xc2, xc3, xrs, xtb, xvt, xvg, xgd, xbk, xmt, xmg, xpt, xbg⟩ p n t k ss)) (fun m _ => 2 - (intOf m).toNat)
  case atStart => exact ⟨0, by omega, rfl, HL⟩
  case round =>
    clear HL
    obtain ⟨k, hkk, rfl, HM⟩ := hrel
    obtain ⟨ys, a1, a2, a3, c1, c2, c3, x2, x3, hok, hown⟩ := HM.out
    have HOK := Lib.hid hok
    have HO := Lib.hid hown
    clear hok hown HM
    by_cases hlt : k < 2
    · have hkI : (k : Int) < 2 := by omega
      have hk0 : (0 : Int) ≤ (k : Int) := by omega
      obtain ⟨r, hr⟩ : ∃ r, xrs[k]? = some r := ⟨_, List.getElem?_eq_getElem (by rw [HRS.out.1]; exact hlt)⟩
      have hrx := HRS.out.2 k r hr
      have HRX := Lib.hid hrx
      obtain ⟨e1, e2, e3⟩ := rd_at (ys.map instR ++ ss) hr
      have HE1 : Hid ((segR p 184 (ndCs xid n t (.slice a1 k c1) (ptrV xtb) (ptrV xvt) (ptrV xgd) (ptrV xbk.p) (ptrV xmt) (.slice (some ⟨xpt, 0, none⟩) 4 4) (.slice (some ⟨xbg, 0, none⟩) 2 2) (.slice a2 k c2) (.slice a3 k c3)) ::
      ownR 185 1 (.slice a1 k c1) k (ys.map Ins.ptr) :: ownR 64 1 (.slice a2 k c2) k x2 :: ownR 64 1 (.slice a3 k c3) k x3 :: (ndL ⟨xp, xq, xid, xnt, xt, some ⟨g1, 0, none⟩, some ⟨g2, 0, none⟩, some ⟨g3, 0, none⟩, xc1, xc2, xc3, xrs, xtb, xvt, xvg, xgd, xbk, xmt, xmg, xpt, xbg⟩ ++ (ys.map instR ++ ss)))[3 * k + 23]? = some (instR r.x)) := Lib.hid (by simpa [ndL, lgL] using e1)
      have c1k : wr.cell? ⟨g1, k, none⟩ = some r.x.ptr := row_cell HO.out 18 (E := 185) (n := 2) (cap := xc1) rfl k (by simp [hr])
      have c2k : wr.cell? ⟨g2, k, none⟩ = some r.va := row_cell HO.out 19 (E := 64) (n := 2) (cap := xc2) rfl k (by simp [hr])
      have c3k : wr.cell? ⟨g3, k, none⟩ = some r.vb := row_cell HO.out 20 (E := 64) (n := 2) (cap := xc3) rfl k (by simp [hr])
      have HR26 : Hid ((xrs.map Rd.va)[k]? = some r.va) := Lib.hid (by simp [hr])
      have HR27 : Hid ((xrs.map Rd.vb)[k]? = some r.vb) := Lib.hid (by simp [hr])
      have HA : Hid (∀ ws : List Res, (xrs.flatMap rdR ++ ws)[3 * k + 1]? = some (blk r.a z17O)) := Lib.hid (fun ws => (rd_at ws hr).2.1)
      have HB : Hid (∀ ws : List Res, (xrs.flatMap rdR ++ ws)[3 * k + 2]? = some (blk r.b z17O)) := Lib.hid (fun ws => (rd_at ws hr).2.2)
      clear hr hrx e1 e2 e3
      go_upto_region 8 with fail
      have HC := Lib.hid (ins_clone (HO.out.drew.bring (3 * k + 23) HE1.out) rfl)
      obtain ⟨e18, -⟩ := seg_at HO.out.drew 0 rfl 18 rfl
      refine Held.wp_held [(p, 18, [.slice a1 k c1])] [(1, 0)] [7] [(4, true), (2, true)] (by kernel_rfl) (by kernel_rfl) ⟨⟨e18, trivial⟩, trivial⟩ ?_
      simp only [Held.cutAt, Held.walk, List.take_succ_cons, List.take_zero, List.drop_succ_cons, List.drop_zero]
      go_wp2_with fail
      refine HC.out.mono ?_
      rintro e w6 ⟨j, y, rfl, hyj, hyst, h6⟩
      subst hyj
      have h7 := Own.ret (hd := [instR y]) (3 * k + 23) HE1.out h6
      have H7 := Lib.hid h7
      obtain ⟨f18, -⟩ := seg_at h7 1 rfl 18 rfl
      have HYS := Lib.hid (hyst.trans HRX.out)
      have hd := h7.alloc (.cells #[y.ptr] 185)
      have HD := Lib.hid hd
      have HW := Lib.hid (ownR_owns (hd.get 2 rfl))
      clear h7 h6 hyst hd HC HE1
      go_wp2_with fail
      refine ⟨⟨⟨f18, trivial⟩, trivial⟩, ?_⟩
      go_wp2_with (at_builtin; refine wpList_append_lies _ rfl (.tmp 33) (.tmp 36) 172 rfl 0 185 i0 (.pointer none) 1 8 Tryz.underlying172 hi hz0 hz1 hz2 rfl (by decide) _ k _ rfl HW.out ⟨w6.heap.size, 0, none⟩ 1 1 [y.ptr] rfl rfl ?c1 ?c2 (by decide) ?c3 ?c4 (Nat.zero_le _) _ rfl ?c6)
      case c1 => exact World.news_of_block (heap_alloc_new w6 _)
      case c2 => exact one_one rfl
      case c3 => exact small_max (by omega)
      case c4 => omega
      case c6 =>
      intro q1 cap1 w7 hown hgrow hat hlt7
      have h8 := HD.out.growAt 2 rfl hgrow (by simpa using hat) hown
      have H8 := Lib.hid h8
      obtain ⟨e18, z18⟩ := seg_at h8 1 rfl 18 rfl
      clear hown hgrow hat hlt7 h8 HD HW f18
      go_wp2_with fail
      refine ⟨⟨⟨e18, trivial⟩, trivial⟩, ?_⟩
      go_wp2_with fail
      refine ⟨trivial, by rfl, ⟨⟨rfl, .inl ⟨by kernel_rfl, rfl⟩⟩, trivial⟩, ?_⟩
      go_upto_region 9 with fail
      have H9 := Lib.hid (H8.out.putAt 1 rfl 18 (.slice (some ⟨q1, 0, none⟩) (k + 1) cap1))
      clear H8 e18 z18 H7
      generalize w7.setCell ⟨p, 18, none⟩ (.slice (some ⟨q1, 0, none⟩) (k + 1) cap1) = w8 at *
      have HE26 : Hid (_[3 * k + 25]? = some (blk r.a z17O)) := Lib.hid ((by simpa [ndL, lgL] using HA.out (ys.map instR ++ ss)) : (instR y :: segR p 184 (ndCs xid n t (.slice (some ⟨q1, 0, none⟩) (k + 1) cap1) (ptrV xtb) (ptrV xvt) (ptrV xgd) (ptrV xbk.p) (ptrV xmt) (.slice (some ⟨xpt, 0, none⟩) 4 4) (.slice (some ⟨xbg, 0, none⟩) 2 2) (.slice a2 k c2) (.slice a3 k c3)) :: ownR 185 1 (.slice (some ⟨q1, 0, none⟩) (k + 1) cap1) (k + 1) (ys.map Ins.ptr ++ [y.ptr]) :: ownR 64 1 (.slice a2 k c2) k x2 :: ownR 64 1 (.slice a3 k c3) k x3 :: (ndL ⟨xp, xq, xid, xnt, xt, some ⟨g1, 0, none⟩, some ⟨g2, 0, none⟩, some ⟨g3, 0, none⟩, xc1, xc2, xc3, xrs, xtb, xvt, xvg, xgd, xbk, xmt, xmg, xpt, xbg⟩ ++ (ys.map instR ++ ss)))[3 * k + 25]? = some (blk r.a z17O))
      obtain ⟨e26, -⟩ := seg_at H9.out.drew 1 rfl 26 rfl
      obtain ⟨f26, -⟩ := seg_at H9.out.drew 18 (b := xp) rfl 26 (v := .slice (some ⟨g2, 0, none⟩) 2 xc2) rfl
      have v26 : w8.drew.cell? ⟨g2, k, none⟩ = some r.va := row_cell H9.out.drew 20 (E := 64) (n := 2) (cap := xc2) rfl k (HR26.out)
      have HRD := Lib.hid (reads_blk (w := w8.drew) (n := 17) (sz := 1) ((((H9.out.drew.bring _ (HE26.out)).blk_out)) : w8.drew.heap[_]? = some z17O) z17_size (by decide))
      refine Held.wp_held [(p, 26, [.slice a2 k c2]), (xp, 26, [.slice (some ⟨g2, 0, none⟩) 2 xc2]), (g2, k, [r.va])] [(1, 0), (5, 1), (8, 2)] [13] [(10, true), (2, true)] (by kernel_rfl) (by kernel_rfl) ⟨⟨e26, trivial⟩, ⟨f26, trivial⟩, ⟨v26, trivial⟩, trivial⟩ ?_
      simp only [Held.cutAt, Held.walk, List.take_succ_cons, List.take_zero, List.drop_succ_cons, List.drop_zero]
      go_wp2_with (at_builtin; refine wpList_fresh rfl (.tmp 47) 64 rfl 3 k0 (.int .i64 0) 1 8 Tryz.underlying64 hk hw0 hw1 hw2 rfl (by decide) _ _ _ rfl HRD.out z17_one (by decide) ?_)
      intro v w9 ho hu
      obtain ⟨ao, cao, rfl⟩ := row_shape ho
      have hc := H9.out.drew.upd0 hu
      have HC := Lib.hid hc
      have g126 := cell_upd hu e26
      have g226 := cell_upd hu f26
      have g326 := cell_upd hu v26
      have hd := hc.alloc (.cells #[.slice ao 17 cao] 64)
      have HD := Lib.hid hd
      have HW := Lib.hid (ownR_owns (hd.get 3 rfl))
      clear ho hu hc hd HRD
      go_wp2_with fail
      refine ⟨⟨⟨g126, trivial⟩, ⟨g226, trivial⟩, ⟨g326, trivial⟩, trivial⟩, ?_⟩
      have HNW : Hid (∀ j u, [Value.slice ao 17 cao][j]? = some u → (w9.alloc (.cells #[.slice ao 17 cao] 64 (0, 0))).cell? ((⟨w9.heap.size, 0, none⟩ : Addr).add j) = some u) := Lib.hid (World.news_of_block (heap_alloc_new w9 (.cells #[.slice ao 17 cao] 64 (0, 0))))
      have HON := Lib.hid (one_one (v := .slice ao 17 cao) rfl)
      have HMX := Lib.hid (small_max (k := k) (by omega))
      have HM4 := Lib.hid (small_24 (k := k) (by omega))
      go_wp2_with (at_builtin; refine wpList_append_lies _ rfl (.tmp 40) (.tmp 49) 179 rfl 0 64 j0 (.slice none 0 0) 1 24 Tryz.underlying179 hj hy0 hy1 hy2 rfl (by decide) _ k _ rfl HW.out ⟨w9.heap.size, 0, none⟩ 1 1 [.slice ao 17 cao] rfl rfl HNW.out HON.out (by decide) HMX.out HM4.out (Nat.zero_le _) _ rfl ?_)
      intro q2 cap2 w' hown hgrow hat hlt7
      have h8 := HD.out.growAt 3 rfl hgrow (by simpa using hat) hown
      have H8 := Lib.hid h8
      obtain ⟨e26, z26⟩ := seg_at h8 1 rfl 26 rfl
      obtain ⟨f26, -⟩ := seg_at h8 18 (b := xp) rfl 26 (v := .slice (some ⟨g2, 0, none⟩) 2 xc2) rfl
      have v26 : w'.cell? ⟨g2, k, none⟩ = some r.va := row_cell h8 20 (E := 64) (n := 2) (cap := xc2) rfl k (HR26.out)
      clear hown hgrow hat hlt7 h8 HD HW HNW HON HMX HM4 HC g126 g226 g326
      go_wp2_with fail
      refine ⟨⟨⟨e26, trivial⟩, ⟨f26, trivial⟩, ⟨v26, trivial⟩, trivial⟩, ?_⟩
      go_wp2_with fail
      refine ⟨trivial, by rfl, ⟨⟨rfl, .inl ⟨by kernel_rfl, rfl⟩⟩, ⟨rfl, .inl ⟨by kernel_rfl, rfl⟩⟩, ⟨rfl, .inl ⟨by kernel_rfl, rfl⟩⟩, trivial⟩, ?_⟩
      go_upto_region 10 with fail
      have H10 := Lib.hid (H8.out.putAt 1 rfl 26 (.slice (some ⟨q2, 0, none⟩) (k + 1) cap2))
      clear H8 e26 z26 f26 v26 H9 HE26
      generalize w'.setCell ⟨p, 26, none⟩ (.slice (some ⟨q2, 0, none⟩) (k + 1) cap2) = wa at *
      have HE27 : Hid (_[3 * k + 26]? = some (blk r.b z17O)) := Lib.hid ((by simpa [ndL, lgL] using HB.out (ys.map instR ++ ss)) : (instR y :: segR p 184 (ndCs xid n t (.slice (some ⟨q1, 0, none⟩) (k + 1) cap1) (ptrV xtb) (ptrV xvt) (ptrV xgd) (ptrV xbk.p) (ptrV xmt) (.slice (some ⟨xpt, 0, none⟩) 4 4) (.slice (some ⟨xbg, 0, none⟩) 2 2) (.slice (some ⟨q2, 0, none⟩) (k + 1) cap2) (.slice a3 k c3)) :: ownR 185 1 (.slice (some ⟨q1, 0, none⟩) (k + 1) cap1) (k + 1) (ys.map Ins.ptr ++ [y.ptr]) :: ownR 64 1 (.slice (some ⟨q2, 0, none⟩) (k + 1) cap2) (k + 1) (x2 ++ [.slice ao 17 cao]) :: ownR 64 1 (.slice a3 k c3) k x3 :: (ndL ⟨xp, xq, xid, xnt, xt, some ⟨g1, 0, none⟩, some ⟨g2, 0, none⟩, some ⟨g3, 0, none⟩, xc1, xc2, xc3, xrs, xtb, xvt, xvg, xgd, xbk, xmt, xmg, xpt, xbg⟩ ++ (ys.map instR ++ ss)))[3 * k + 26]? = some (blk r.b z17O))
      obtain ⟨e27, -⟩ := seg_at H10.out.drew 1 rfl 27 rfl
      obtain ⟨f27, -⟩ := seg_at H10.out.drew 18 (b := xp) rfl 27 (v := .slice (some ⟨g3, 0, none⟩) 2 xc3) rfl
      have v27 : wa.drew.cell? ⟨g3, k, none⟩ = some r.vb := row_cell H10.out.drew 21 (E := 64) (n := 2) (cap := xc3) rfl k (HR27.out)
      have HRD := Lib.hid (reads_blk (w := wa.drew) (n := 17) (sz := 1) ((((H10.out.drew.bring _ (HE27.out)).blk_out)) : wa.drew.heap[_]? = some z17O) z17_size (by decide))
      refine Held.wp_held [(p, 27, [.slice a3 k c3]), (xp, 27, [.slice (some ⟨g3, 0, none⟩) 2 xc3]), (g3, k, [r.vb])] [(1, 0), (5, 1), (8, 2)] [13] [(10, true), (2, true)] (by kernel_rfl) (by kernel_rfl) ⟨⟨e27, trivial⟩, ⟨f27, trivial⟩, ⟨v27, trivial⟩, trivial⟩ ?_
      simp only [Held.cutAt, Held.walk, List.take_succ_cons, List.take_zero, List.drop_succ_cons, List.drop_zero]
      go_wp2_with (at_builtin; refine wpList_fresh rfl (.tmp 60) 64 rfl 3 k0 (.int .i64 0) 1 8 Tryz.underlying64 hk hw0 hw1 hw2 rfl (by decide) _ _ _ rfl HRD.out z17_one (by decide) ?_)
      intro v w9 ho hu
      obtain ⟨ao2, cao2, rfl⟩ := row_shape ho
      have hc := H10.out.drew.upd0 hu
      have HC := Lib.hid hc
      have g127 := cell_upd hu e27
      have g227 := cell_upd hu f27
      have g327 := cell_upd hu v27
      have hd := hc.alloc (.cells #[.slice ao2 17 cao2] 64)
      have HD := Lib.hid hd
      have HW := Lib.hid (ownR_owns (hd.get 4 rfl))
      clear ho hu hc hd HRD
      go_wp2_with fail
      refine ⟨⟨⟨g127, trivial⟩, ⟨g227, trivial⟩, ⟨g327, trivial⟩, trivial⟩, ?_⟩
      have HNW : Hid (∀ j u, [Value.slice ao2 17 cao2][j]? = some u → (w9.alloc (.cells #[.slice ao2 17 cao2] 64 (0, 0))).cell? ((⟨w9.heap.size, 0, none⟩ : Addr).add j) = some u) := Lib.hid (World.news_of_block (heap_alloc_new w9 (.cells #[.slice ao2 17 cao2] 64 (0, 0))))
      have HON := Lib.hid (one_one (v := .slice ao2 17 cao2) rfl)
      have HMX := Lib.hid (small_max (k := k) (by omega))
      have HM4 := Lib.hid (small_24 (k := k) (by omega))
      go_wp2_with (at_builtin; refine wpList_append_lies _ rfl (.tmp 53) (.tmp 62) 179 rfl 0 64 j0 (.slice none 0 0) 1 24 Tryz.underlying179 hj hy0 hy1 hy2 rfl (by decide) _ k _ rfl HW.out ⟨w9.heap.size, 0, none⟩ 1 1 [.slice ao2 17 cao2] rfl rfl HNW.out HON.out (by decide) HMX.out HM4.out (Nat.zero_le _) _ rfl ?_)
      intro q3 cap3 w' hown hgrow hat hlt7
      have h8 := HD.out.growAt 4 rfl hgrow (by simpa using hat) hown
      have H8 := Lib.hid h8
      obtain ⟨e27, z27⟩ := seg_at h8 1 rfl 27 rfl
      obtain ⟨f27, -⟩ := seg_at h8 18 (b := xp) rfl 27 (v := .slice (some ⟨g3, 0, none⟩) 2 xc3) rfl
      have v27 : w'.cell? ⟨g3, k, none⟩ = some r.vb := row_cell h8 21 (E := 64) (n := 2) (cap := xc3) rfl k (HR27.out)
      clear hown hgrow hat hlt7 h8 HD HW HNW HON HMX HM4 HC g127 g227 g327
      go_wp2_with fail
      refine ⟨⟨⟨e27, trivial⟩, ⟨f27, trivial⟩, ⟨v27, trivial⟩, trivial⟩, ?_⟩
      go_wp2_with fail
      refine ⟨trivial, by rfl, ⟨⟨rfl, .inl ⟨by kernel_rfl, rfl⟩⟩, ⟨rfl, .inl ⟨by kernel_rfl, rfl⟩⟩, ⟨rfl, .inl ⟨by kernel_rfl, rfl⟩⟩, trivial⟩, ?_⟩
      go_wp2_with fail
      have HZ := Lib.hid (H8.out.putAt 1 rfl 27 (.slice (some ⟨q3, 0, none⟩) (k + 1) cap3))
      clear H8 e27 z27 f27 v27 H10 HE27
      go_roundw
      case rel =>
        refine ⟨k + 1, by omega, by go_num, Lib.hid ⟨ys ++ [y], some ⟨q1, 0, none⟩, some ⟨q2, 0, none⟩, some ⟨q3, 0, none⟩, cap1, cap2, cap3, x2 ++ [.slice ao 17 cao], x3 ++ [.slice ao2 17 cao2], HOK.out.add y HYS.out, ?_⟩⟩
        have h1 := HZ.out.perm (perm_one (instR y) (_ :: _ :: _ :: _ :: ndL ⟨xp, xq, xid, xnt, xt, some ⟨g1, 0, none⟩, some ⟨g2, 0, none⟩, some ⟨g3, 0, none⟩, xc1, xc2, xc3, xrs, xtb, xvt, xvg, xgd, xbk, xmt, xmg, xpt, xbg⟩) (ys.map instR) ss)
        simp only [List.map_append, List.map_cons, List.map_nil]
        exact h1
      case measure => simp [intOf]; omega
    · have hk2 : k = 2 := by omega
      have hkI : decide ((k : Int) < 2) = false := by simp; omega
      have H0 := HO
      clear HO
      subst hk2
      go_upto_region 12 with fail
      have hD := H0.out.drew
      obtain ⟨x19, -⟩ := seg_at hD 17 (b := xp) rfl 19 (v := ptrV xtb) rfl
      obtain ⟨x20, -⟩ := seg_at hD 17 (b := xp) rfl 20 (v := ptrV xvt) rfl
      obtain ⟨x21, -⟩ := seg_at hD 17 (b := xp) rfl 21 (v := ptrV xgd) rfl
      have HC := Lib.hid (prop_clone (hD.blkAt 16 (b := xtb) (o := tabO) rfl))
      clear hD
      refine Held.wp_held [(xp, 19, [ptrV xtb]), (xp, 20, [ptrV xvt]), (xp, 21, [ptrV xgd])] [(3, 0), (8, 1), (13, 2)] [16, 18, 20] [(5, true), (5, true), (5, true)] (by kernel_rfl) (by kernel_rfl) ⟨⟨x19, trivial⟩, ⟨x20, trivial⟩, ⟨x21, trivial⟩, trivial⟩ ?_
      simp only [Held.cutAt, Held.walk, List.take_succ_cons, List.take_zero, List.drop_succ_cons, List.drop_zero]
      go_wp2_with fail
      refine HC.out.mono ?_
      rintro e w2 ⟨ytb, rfl, hu⟩
      have H2 := Lib.hid (H0.out.drew.upd0 hu)
      obtain ⟨u19, u20, u21⟩ := And.intro (cell_upd hu x19) (And.intro (cell_upd hu x20) (cell_upd hu x21))
      clear hu HC H0 x19 x20 x21
      go_wp2_with fail
      refine ⟨⟨⟨u19, trivial⟩, ⟨u20, trivial⟩, ⟨u21, trivial⟩, trivial⟩, ?_⟩
      have HC := Lib.hid (change_clone (H2.out.blkAt 14 (b := xvt) (o := votO xvg) rfl) (H2.out.blkAt 15 (b := xvg) (o := vgO) rfl))
      go_wp2_with fail
      refine HC.out.mono ?_
      rintro e w3 ⟨yvt, rfl, hu⟩
      have H3 := Lib.hid (H2.out.upd0 hu)
      obtain ⟨x19, x20, x21⟩ := And.intro (cell_upd hu u19) (And.intro (cell_upd hu u20) (cell_upd hu u21))
      clear hu HC H2 u19 u20 u21
      go_wp2_with fail
      refine ⟨⟨⟨x19, trivial⟩, ⟨x20, trivial⟩, ⟨x21, trivial⟩, trivial⟩, ?_⟩
      have HC := Lib.hid (flood_clone (H3.out.blkAt 13 (b := xgd) (o := grdO) rfl))
      go_wp2_with fail
      refine HC.out.mono ?_
      rintro e w4 ⟨ygd, rfl, hu⟩
      have H4 := Lib.hid (H3.out.upd0 hu)
      obtain ⟨u19, u20, u21⟩ := And.intro (cell_upd hu x19) (And.intro (cell_upd hu x20) (cell_upd hu x21))
      clear hu HC H3 x19 x20 x21
      obtain ⟨y19, z19⟩ := seg_at H4.out 0 rfl 19 rfl
      obtain ⟨y20, z20⟩ := seg_at H4.out 0 rfl 20 rfl
      obtain ⟨y21, z21⟩ := seg_at H4.out 0 rfl 21 rfl
      go_wp2_with fail
      refine ⟨⟨⟨u19, trivial⟩, ⟨u20, trivial⟩, ⟨u21, trivial⟩, trivial⟩, ?_⟩
      go_wp2_with fail
      refine ⟨trivial, by rfl, ⟨⟨rfl, .inl ⟨by kernel_rfl, rfl⟩⟩, ⟨rfl, .inl ⟨by kernel_rfl, rfl⟩⟩, ⟨rfl, .inl ⟨by kernel_rfl, rfl⟩⟩, trivial⟩, ?_⟩
      have H5 := Lib.hid (((H4.out.putAt 0 rfl 19 (ptrV ytb)).putAt 0 rfl 20 (ptrV yvt)).putAt 0 rfl 21 (ptrV ygd))
      clear H4 u19 u20 u21 y19 z19 y20 z20 y21 z21
      go_upto_region 13 with fail
      generalize World.setCell _ ⟨p, 21, none⟩ _ = w5 at *
      have hD := H5.out.drew
      obtain ⟨x22, -⟩ := seg_at hD 17 (b := xp) rfl 22 (v := ptrV xbk.p) rfl
      obtain ⟨x23, -⟩ := seg_at hD 17 (b := xp) rfl 23 (v := ptrV xmt) rfl
      have HC := Lib.hid (ledger_clone (x := xbk) (own_back [_, _, _, _, _, _, _, _] hD) HBK.out)
      clear hD
      refine Held.wp_held [(xp, 22, [ptrV xbk.p]), (xp, 23, [ptrV xmt])] [(3, 0), (8, 1)] [11, 13] [(5, true), (5, true)] (by kernel_rfl) (by kernel_rfl) ⟨⟨x22, trivial⟩, ⟨x23, trivial⟩, trivial⟩ ?_
      simp only [Held.cutAt, Held.walk, List.take_succ_cons, List.take_zero, List.drop_succ_cons, List.drop_zero]
      go_wp2_with fail
      refine HC.out.mono ?_
      rintro e w6 ⟨ybk, rfl, hyk, hyl, h6⟩
      have HYK := Lib.hid hyk
      have HYL := Lib.hid (hyl.trans HLP.out)
      have H6 := Lib.hid (h6.perm (List.Perm.append_left _ (List.perm_append_comm_assoc _ _ _)))
      clear HC h6 hyk hyl H5
      obtain ⟨u22, -⟩ := seg_at H6.out 22 (b := xp) rfl 22 (v := ptrV xbk.p) rfl
      obtain ⟨u23, -⟩ := seg_at H6.out 22 (b := xp) rfl 23 (v := ptrV xmt) rfl
      have HC := Lib.hid (meter_clone (H6.out.blkAt 11 (b := xmt) (o := mtO xmg) rfl) (H6.out.blkAt 12 (b := xmg) (o := mgO) rfl))
      go_wp2_with fail
      refine ⟨⟨⟨u22, trivial⟩, ⟨u23, trivial⟩, trivial⟩, ?_⟩
      go_wp2_with fail
      refine HC.out.mono ?_
      rintro e w7 ⟨ymt, rfl, hu⟩
      have H7 := Lib.hid (H6.out.upd0 hu)
      obtain ⟨v22, v23⟩ := And.intro (cell_upd hu u22) (cell_upd hu u23)
      clear hu HC H6
      obtain ⟨y22, z22⟩ := seg_at H7.out 5 rfl 22 rfl
      obtain ⟨y23, z23⟩ := seg_at H7.out 5 rfl 23 rfl
      go_wp2_with fail
      refine ⟨⟨⟨v22, trivial⟩, ⟨v23, trivial⟩, trivial⟩, ?_⟩
      go_wp2_with fail
      refine ⟨trivial, by rfl, ⟨⟨rfl, .inl ⟨by kernel_rfl, rfl⟩⟩, ⟨rfl, .inl ⟨by kernel_rfl, rfl⟩⟩, trivial⟩, ?_⟩
      have H8 := Lib.hid ((H7.out.putAt 5 rfl 22 (ptrV ybk.p)).putAt 5 rfl 23 (ptrV ymt))
      clear H7 u22 u23 v22 v23 y22 z22 y23 z23 x22 x23
      go_upto_region 14 with fail
      generalize World.setCell _ ⟨p, 23, none⟩ _ = w8 at *
      obtain ⟨l0, hl, hv0, hv1, hv2⟩ := info_parts Tryz.infopt
      obtain ⟨m0, hm, hu0, hu1, hu2⟩ := info_parts Tryz.infobg
      obtain ⟨n0, hn, ht0, ht1, ht2⟩ := info_parts Tryz.infoSd
      obtain ⟨x24, -⟩ := seg_at H8.out 22 (b := xp) rfl 24 (v := .slice (some ⟨xpt, 0, none⟩) 4 4) rfl
      have HRD := Lib.hid (reads_blk (n := 4) (sz := 5) (H8.out.blkAt 10 (b := xpt) (o := ptO) rfl) pt_size (by decide))
      go_wp2_with (at_builtin; refine wpList_fresh rfl (.tmp 99) 177 rfl 309 l0 (.agg #[.int .i64 0, .int .i64 0, .slice none 0 0, .slice none 0 0, .int .i64 0]) 5 72 Tryz.underlying177 hl hv0 hv1 hv2 rfl (by decide) _ _ _ rfl HRD.out pt_one (by decide) ?_)
      intro vp w9 hvp hu
      obtain ⟨pa, pc, rfl⟩ := row_shape hvp
      have H9 := Lib.hid (H8.out.upd0 hu)
      obtain ⟨y24, z24⟩ := seg_at H9.out 5 rfl 24 rfl
      clear hu HRD H8 x24 hvp
      go_upto_region 15 with fail
      have H10 := Lib.hid (H9.out.putAt 5 rfl 24 (.slice pa 4 pc))
      clear H9 y24 z24
      generalize w9.setCell ⟨p, 24, none⟩ (.slice pa 4 pc) = w10 at *
      obtain ⟨x25, -⟩ := seg_at H10.out 22 (b := xp) rfl 25 (v := .slice (some ⟨xbg, 0, none⟩) 2 2) rfl
      have HRD := Lib.hid (reads_blk (n := 2) (sz := 11) (H10.out.blkAt 9 (b := xbg) (o := bgO) rfl) bg_size (by decide))
      go_wp2_with (at_builtin; refine wpList_fresh rfl (.tmp 105) 178 rfl 311 m0 (.agg #[.int .i64 0, .int .i64 0, .int .i64 0, .int .i64 0, .int .i64 0, .int .i64 0, .int .i64 0, .slice none 0 0, .slice none 0 0, .slice none 0 0, .slice none 0 0]) 11 152 Tryz.underlying178 hm hu0 hu1 hu2 rfl (by decide) _ _ _ rfl HRD.out bg_one (by decide) ?_)
      intro vp w11 hvp hu
      obtain ⟨ba, bc, rfl⟩ := row_shape hvp
      have H11 := Lib.hid (H10.out.upd0 hu)
      obtain ⟨y25, z25⟩ := seg_at H11.out 5 rfl 25 rfl
      clear hu HRD H10 x25 hvp
      go_upto_region 16 with fail
      have H12 := Lib.hid (H11.out.putAt 5 rfl 25 (.slice ba 2 bc))
      clear H11 y25 z25
      generalize w11.setCell ⟨p, 25, none⟩ (.slice ba 2 bc) = w12 at *
      obtain ⟨x34, -⟩ := seg_at H12.out 22 (b := xp) rfl 34 (v := nilS) rfl
      go_wp2_with (at_builtin; refine wpList_fresh rfl (.tmp 111) 180 rfl 313 n0 (.agg #[.int .i64 0, .slice none 0 0]) 2 32 Tryz.underlying180 hn ht0 ht1 ht2 rfl (by decide) _ _ _ rfl (Reads.nil _ _) (by simp) (by decide) ?_)
      intro vp w13 hvp hu
      obtain ⟨sa, sc, rfl⟩ := row_shape hvp
      have H13 := Lib.hid (H12.out.upd0 hu)
      obtain ⟨y34, z34⟩ := seg_at H13.out 5 rfl 34 rfl
      clear hu H12 x34 hvp
      go_wp2_with fail
      go_ret
      have H14 := H13.out.putAt 5 rfl 34 (.slice sa 0 sc)
      refine ⟨⟨p, ((ndCs xid n t (.slice a1 2 c1) (ptrV ytb) (ptrV yvt) (ptrV ygd) (ptrV ybk.p) (ptrV ymt) (.slice pa 4 pc) (.slice ba 2 bc) (.slice a2 2 c2) (.slice a3 2 c3)).set 34 (.slice sa 0 sc)), a1, c1, ys, ybk⟩, rfl, ⟨HOK.out, rfl, rfl, HYK.out, HYL.out⟩, ?_⟩
      have H15 : Own B w0 (w13.setCell ⟨p, 34, none⟩ (.slice sa 0 sc)) (lgL ybk ++ (segR p 184 ((ndCs xid n t (.slice a1 2 c1) (ptrV ytb) (ptrV yvt) (ptrV ygd) (ptrV ybk.p) (ptrV ymt) (.slice pa 4 pc) (.slice ba 2 bc) (.slice a2 2 c2) (.slice a3 2 c3)).set 34 (.slice sa 0 sc)) :: ownR 185 1 (.slice a1 2 c1) 2 (ys.map Ins.ptr) :: ownR 64 1 (.slice a2 2 c2) 2 x2 :: ownR 64 1 (.slice a3 2 c3) 2 x3 :: (ndL ⟨xp, xq, xid, xnt, xt, some ⟨g1, 0, none⟩, some ⟨g2, 0, none⟩, some ⟨g3, 0, none⟩, xc1, xc2, xc3, xrs, xtb, xvt, xvg, xgd, xbk, xmt, xmg, xpt, xbg⟩ ++ (ys.map instR ++ ss)))) := H14
      exact cn_fin H15

end
end Go.Proofs.YtimdphlolmbhnaaGreat

/- Clones of notaries and clients that are new; what a cloned node tells. -/
namespace Go.Proofs.YtimdphlolmbhnaaGreat
open Go.RowKit Go.Heap

abbrev noO (m : Nat) : Obj := .cells #[.map (some m)] 162 (0, 0)
abbrev mpO : Obj := .map #[] 0

section
variable {B : Nat} {w0 w W W' : World} {ss rs : List Res}

theorem upd_start {L : List Res} (h : Own W.heap.size W W' L) : Upd [] W W' := Upd.of_below h.below
theorem own_start (W : World) : Own W.heap.size W W [] := Own.start (Below.refl _ _) (Nat.le_refl _)

theorem range_set {b o y : Nat} {cs : List Value} {v : Value} (h : w.rangeAt b 0 cs) (hne : b ≠ y) : (w.setCell ⟨y, o, none⟩ v).rangeAt b 0 cs := fun j u hj => (World.cell?_of_block (heap_set_other (a := ⟨y, o, none⟩) hne v)).trans (h j u hj)
theorem range_get {b : Nat} {cs : List Value} (h : w.rangeAt b 0 cs) (j : Nat) {v : Value} (hj : cs[j]? = some v) : w.cell? ⟨b, j, none⟩ = some v := by have := h j v hj; rwa [Nat.zero_add] at this

set_option maxHeartbeats 1600000 in
theorem notary_clone {p m : Nat} (hb : W.heap[p]? = some (noO m)) (hm : W.heap[m]? = some mpO) :
    Calls Tryz.prog 95 #[.pointer (some ⟨p, 0, none⟩)] W fun e w' => ∃ n, e = .returned (.pointer (some ⟨n, 0, none⟩)) ∧ Upd [] W w' := by
  have HN := Lib.hid (notary_new (own_start W))
  have HP := Lib.hid (block_lt hb)
  have HM := Lib.hid (block_lt hm)
  have HB := Lib.hid hb
  have HB2 := Lib.hid hm
  clear hb hm
  go_enter Tryz.func95, Tryz.ntmps95
  go_wp2_with fail
  refine HN.out.mono ?_
  rintro e w1 ⟨n, mn, rfl, h1⟩
  have hu := upd_start h1
  have HU := Lib.hid hu
  have hb1 : w1.heap[p]? = some (noO m) := (hu.block p HP.out (by simp)).trans HB.out
  have hm1 : w1.heap[m]? = some mpO := (hu.block m HM.out (by simp)).trans HB2.out
  have c0 : w1.cell? ⟨p, 0, none⟩ = some (.map (some m)) := by rw [block_cell hb1]; rfl
  have hr := run_range_map (P := Tryz.prog) w1 160 273 3 m #[] 0 Tryz.underlying160 hm1
  have hx : ∀ ty, (Instr.next (.pointer (some ⟨w1.heap.size, 0, none⟩)) false ty).run Tryz.prog (w1.alloc (.mapIter (some m) 0 #[] 0)) = .ok (.tuple #[.bool false]) (w1.alloc (.mapIter (some m) 0 #[] 0)) := fun ty => by
    rcases run_next_map (P := Tryz.prog) w1 ty m 0 0 #[] #[] 0 hm1 (by simp) (Nat.le_refl _) with ⟨-, h⟩ | ⟨e, he, -⟩
    · exact h
    · simp [leftOf] at he
  clear hu HN hb1 hm1 h1
  go_wp2_with fail
  go_loop [12] (fun _ => True) (fun _ => 0)
  case atStart => trivial
  case round =>
    go_wp2_with fail
    go_ret
    exact ⟨⟨n, rfl⟩, HU.out.alloc _⟩

/-- A slice of nothing. -/
def Z (a : Option Addr) (c : Nat) : Prop := c ≤ maxLen ∧ (a = none → c = 0)
theorem Z.reads {a : Option Addr} {c sz : Nat} (h : Z a c) (w : World) : Reads w (.slice a 0 c) sz 0 [] := ⟨a, c, rfl, Nat.zero_le _, h.1, by simp, fun e => ⟨rfl, h.2 e⟩, fun h => by omega⟩
theorem Z.of {B E sz : Nat} {v : Value} (h : w.ownsRow B E sz v 0 []) : ∃ a c, v = .slice a 0 c ∧ Z a c := by
  rcases h.2 with ⟨rfl, _⟩ | ⟨g, cap, cur, rfl, _, _, h3, h4, _⟩
  · exact ⟨none, 0, rfl, by unfold maxLen; omega, fun _ => rfl⟩
  · exact ⟨_, cap, rfl, h4, fun e => by cases e⟩

theorem Tryz.infoRq : (Tryz.prog.info? 38).map (fun i => (i.zero, i.size, i.bytes)) = some (some (.agg #[.int .i64 0, .int .i64 0, .int .i64 0, .int .i64 0, .int .i64 0, .int .i64 0]), 6, 48) := by kernel_rfl
theorem Tryz.infoAn : (Tryz.prog.info? 315).map (fun i => (i.zero, i.size, i.bytes)) = some (some (.agg #[.int .i64 0, .int .i64 0]), 2, 16) := by kernel_rfl
theorem Tryz.infoCl : (Tryz.prog.info? 198).map (·.size) = some 24 := by kernel_rfl

theorem client_issued {y c : Nat} {a : Option Addr} (hc : W.cell? ⟨y, 19, none⟩ = some (.slice a 0 c)) (hz : Z a c) :
    Calls Tryz.prog 74 #[.pointer (some ⟨y, 0, none⟩)] W fun e w' => ∃ a' c', e = .returned (.slice a' 0 c') ∧ Z a' c' ∧ Upd [] W w' := by
  obtain ⟨i0, hi, hz0, hz1, hz2⟩ := info_parts Tryz.infoRq
  have HR := Lib.hid (hz.reads (sz := 6) W)
  clear hz
  go_enter Tryz.func74, Tryz.ntmps74
  go_wp2_with (at_builtin; refine wpList_fresh rfl (.tmp 6) 33 rfl 38 i0 (.agg #[.int .i64 0, .int .i64 0, .int .i64 0, .int .i64 0, .int .i64 0, .int .i64 0]) 6 48 Tryz.underlying33 hi hz0 hz1 hz2 rfl (by decide) _ _ _ rfl HR.out (by simp) (by decide) ?_)
  intro v w' ho hu
  have HU := Lib.hid hu
  obtain ⟨a', c', rfl, hz'⟩ := Z.of ho
  have HZ := Lib.hid hz'
  clear ho hu hz'
  go_wp2_with fail
  go_ret
  exact ⟨a', c', rfl, HZ.out, HU.out⟩

theorem client_accepted {y c : Nat} {a : Option Addr} (hc : W.cell? ⟨y, 22, none⟩ = some (.slice a 0 c)) (hz : Z a c) :
    Calls Tryz.prog 75 #[.pointer (some ⟨y, 0, none⟩)] W fun e w' => ∃ a' c', e = .returned (.slice a' 0 c') ∧ Z a' c' ∧ Upd [] W w' := by
  obtain ⟨i0, hi, hz0, hz1, hz2⟩ := info_parts Tryz.infoEn
  have HR := Lib.hid (hz.reads (sz := 7) W)
  clear hz
  go_enter Tryz.func75, Tryz.ntmps75
  go_wp2_with (at_builtin; refine wpList_fresh rfl (.tmp 6) 29 rfl 40 i0 (.agg #[.int .i64 0, .int .i64 0, .int .i64 0, .int .i64 0, .int .i64 0, .int .i64 0, .int .i64 0]) 7 56 Tryz.underlying29 hi hz0 hz1 hz2 rfl (by decide) _ _ _ rfl HR.out (by simp) (by decide) ?_)
  intro v w' ho hu
  have HU := Lib.hid hu
  obtain ⟨a', c', rfl, hz'⟩ := Z.of ho
  have HZ := Lib.hid hz'
  clear ho hu hz'
  go_wp2_with fail
  go_ret
  exact ⟨a', c', rfl, HZ.out, HU.out⟩

/-- A client that has issued nothing. -/
def CcCs (cs : List Value) : Prop := ∃ a1 c1 a2 c2, cs[19]? = some (.slice a1 0 c1) ∧ Z a1 c1 ∧ cs[22]? = some (.slice a2 0 c2) ∧ Z a2 c2
theorem own_and {y : Nat} {T : TypeId} {cs : List Value} (h : Own B w0 W ss) (h2 : Own W.heap.size W W' [segR y T cs]) : Own B w0 W' (segR y T cs :: ss) := by
  have hu := upd_start h2
  have hy := (h2.all (segR y T cs) (by simp)).2 y (by simp [segR])
  refine h.new hu ?_ (fun k hk => by simp [segR] at hk; omega)
  obtain ⟨D, ⟨h3, rfl⟩, -, -⟩ := h2.head
  exact ⟨[], ⟨h3, rfl⟩, by simp, fun k hk => Nat.lt_of_lt_of_le (h.lt k hk) hu.size⟩

abbrev clZ : Array Value := #[.int .i64 0, .int .i64 0, .int .i64 0, .int .i64 0, .int .i64 0, .int .i64 0, .int .i64 0, .int .i64 0, .int .i64 0, .int .i64 0, .int .i64 0, .int .i64 0, .int .i64 0, .int .i64 0, .int .i64 0, .int .i64 0, .pointer none, .pointer none, .bool false, .slice none 0 0, .int .i64 0, .slice none 0 0, .slice none 0 0, .slice none 0 0]
theorem Z0 : Z none 0 := ⟨by unfold maxLen; omega, fun _ => rfl⟩

set_option maxHeartbeats 1600000 in
set_option maxRecDepth 100000 in
theorem client_clone {p t nt n : Nat} {id : Int} (hra : W.rangeAt p 0 (clCs id (ptrV nt) (ptrV t))) (ht : W.heap[t]? = some clockO) :
    Calls Tryz.prog 97 #[.pointer (some ⟨p, 0, none⟩), .pointer (some ⟨n, 0, none⟩)] W fun e w' => ∃ y cs, e = .returned (.pointer (some ⟨y, 0, none⟩)) ∧ CcCs cs ∧ Own W.heap.size W w' [segR y 198 cs] := by
  have HI : Hid ((Tryz.prog.info? 198).map (·.size) = some (clCs id (ptrV nt) (ptrV t)).length) := Lib.hid Tryz.infoCl
  have HI2 : Hid ((Tryz.prog.info? 198).map (·.size) = some (clCs id (ptrV nt) (ptrV t)).toArray.size) := Lib.hid Tryz.infoCl
  have HTH : Hid ((W.alloc (.cells clZ 198 (0, 0))).there W.heap.size 0 (clCs id (ptrV nt) (ptrV t)).toArray.size) := Lib.hid (there_new rfl (Nat.le_refl _))
  have HALL : Hid ((clCs id (ptrV nt) (ptrV t)).toArray.all (·.oneCell') = true) := Lib.hid (all_oneCell_toArray (by
    intro v hv
    have : ((clCs id (ptrV nt) (ptrV t)).all (·.oneCell')) = true := by rfl
    exact List.all_eq_true.1 this v hv))
  have H1 := Lib.hid (own_struct (own_start W) (z := clZ) (T := 198) (cs := clCs id (ptrV nt) (ptrV t)) rfl rfl)
  have HPL := Lib.hid (cell_in (range_get hra 0 rfl))
  have HRA := Lib.hid hra
  have HT := Lib.hid ht
  clear hra ht
  generalize hcs : clCs id (ptrV nt) (ptrV t) = cs at HRA HI HI2 HTH HALL H1
  have HCS := Lib.hid hcs
  clear hcs
  go_enter Tryz.func97, Tryz.ntmps97
  go_upto_region 2 with (first
      | (refine wpList_load_mid rfl 198 (.tmp 7) rfl p 0 rfl cs _ HRA.out Tryz.underlying198 rfl HI.out ?_)
      | (refine wpList_store_mid rfl 198 (.tmp 5) (.tmp 8) rfl W.heap.size 0 cs.toArray rfl rfl HTH.out HI2.out HALL.out ?_))
  have hu1 := upd_start H1.out
  have HL := Lib.hid (range_upd hu1 HRA.out)
  have HT1 := Lib.hid ((hu1.block t (block_lt HT.out) (by simp)).trans HT.out)
  clear HRA HI HI2 HTH HALL hu1
  have hcs := HCS.out
  subst hcs
  clear HCS
  generalize hB : W.heap.size = y at *
  have HY := Lib.hid hB
  clear hB
  generalize World.setCells _ y 0 _ = w1 at *
  have x17 : w1.cell? ⟨p, 17, none⟩ = some (ptrV t) := range_get HL.out 17 rfl
  have hpy : p ≠ y := by have := HPL.out; omega
  have HNE := Lib.hid hpy
  clear hpy
  have HC := Lib.hid (clock_clone HT1.out)
  go_wp2_with fail
  refine HC.out.mono ?_
  rintro e w2 ⟨t2, rfl, hu⟩
  have H2 := Lib.hid (H1.out.upd0 hu)
  have HL2 := Lib.hid (range_upd hu HL.out)
  obtain ⟨y16, z16⟩ := seg_at H2.out 0 rfl 16 rfl
  obtain ⟨y17, z17⟩ := seg_at H2.out 0 rfl 17 rfl
  clear hu HC H1 HL x17
  go_upto_region 3 with fail
  have H3 := Lib.hid ((H2.out.putAt 0 rfl 16 (ptrV n)).putAt 0 rfl 17 (ptrV t2))
  have HL3 := Lib.hid (range_set (o := 17) (v := ptrV t2) (range_set (o := 16) (v := ptrV n) HL2.out HNE.out) HNE.out)
  clear H2 HL2 y16 z16 y17 z17
  generalize World.setCell _ ⟨y, 17, none⟩ _ = w3 at *
  have HC := Lib.hid (client_issued (range_get HL3.out 19 rfl) Z0)
  go_wp2_with fail
  refine HC.out.mono ?_
  rintro e w4 ⟨ia, ic, rfl, hz, hu⟩
  have HZ1 := Lib.hid hz
  have H4 := Lib.hid (H3.out.upd0 hu)
  have HL4 := Lib.hid (range_upd hu HL3.out)
  clear hu hz HC H3 HL3
  have HC := Lib.hid (client_accepted (range_get HL4.out 22 rfl) Z0)
  go_wp2_with fail
  refine HC.out.mono ?_
  rintro e w5 ⟨ja, jc, rfl, hz, hu⟩
  have HZ2 := Lib.hid hz
  have H5 := Lib.hid (H4.out.upd0 hu)
  have HL5 := Lib.hid (range_upd hu HL4.out)
  clear hu hz HC H4 HL4
  obtain ⟨y19, z19⟩ := seg_at H5.out 0 rfl 19 rfl
  obtain ⟨y22, z22⟩ := seg_at H5.out 0 rfl 22 rfl
  go_upto_region 4 with fail
  have H6 := Lib.hid ((H5.out.putAt 0 rfl 19 (.slice ia 0 ic)).putAt 0 rfl 22 (.slice ja 0 jc))
  have HL6 := Lib.hid (range_set (o := 22) (v := .slice ja 0 jc) (range_set (o := 19) (v := .slice ia 0 ic) HL5.out HNE.out) HNE.out)
  clear H5 HL5 y19 z19 y22 z22
  generalize World.setCell _ ⟨y, 22, none⟩ _ = w6 at *
  obtain ⟨i0, hi, hz0, hz1, hz2⟩ := info_parts Tryz.infoAn
  obtain ⟨j0, hj, hy0, hy1, hy2⟩ := info_parts Tryz.infoSd
  have x21 := range_get HL6.out 21 rfl
  go_wp2_with (at_builtin; refine wpList_fresh rfl (.tmp 26) 196 rfl 315 i0 (.agg #[.int .i64 0, .int .i64 0]) 2 16 Tryz.underlying196 hi hz0 hz1 hz2 rfl (by decide) _ _ _ rfl (Reads.nil _ _) (by simp) (by decide) ?_)
  intro v w7 ho hu
  obtain ⟨va, vc, rfl⟩ := row_shape ho
  have H7 := Lib.hid (H6.out.upd0 hu)
  have HL7 := Lib.hid (range_upd hu HL6.out)
  obtain ⟨y21, z21⟩ := seg_at H7.out 0 rfl 21 rfl
  clear hu ho H6 HL6 x21
  go_upto_region 5 with fail
  have H8 := Lib.hid (H7.out.putAt 0 rfl 21 (.slice va 0 vc))
  have HL8 := Lib.hid (range_set (o := 21) (v := .slice va 0 vc) HL7.out HNE.out)
  clear H7 HL7 y21 z21
  generalize World.setCell _ ⟨y, 21, none⟩ _ = w8 at *
  have x23 := range_get HL8.out 23 rfl
  go_wp2_with (at_builtin; refine wpList_fresh rfl (.tmp 32) 180 rfl 313 j0 (.agg #[.int .i64 0, .slice none 0 0]) 2 32 Tryz.underlying180 hj hy0 hy1 hy2 rfl (by decide) _ _ _ rfl (Reads.nil _ _) (by simp) (by decide) ?_)
  intro v w9 ho hu
  obtain ⟨sa, sc, rfl⟩ := row_shape ho
  have H9 := Lib.hid (H8.out.upd0 hu)
  obtain ⟨y23, z23⟩ := seg_at H9.out 0 rfl 23 rfl
  clear hu ho H8 HL8 x23
  go_wp2_with fail
  go_ret
  have h10 := H9.out.putAt 0 rfl 23 (.slice sa 0 sc)
  rw [HY.out]
  refine ⟨y, _, rfl, ?_, h10⟩
  exact ⟨ia, ic, ja, jc, rfl, HZ1.out, rfl, HZ2.out⟩

end
end Go.Proofs.YtimdphlolmbhnaaGreat

/- Rows of entries: what is read of them, what is stored into them. -/
namespace Go.Proofs.YtimdphlolmbhnaaGreat
open Go.RowKit Go.Heap

section
variable {B : Nat} {w0 w W W' : World} {ss rs : List Res}

theorem ens_set (l : List En) (i : Nat) (hi : i < l.length) (e : En) (j : Nat) : (ensCells (l.set i e))[j]? = if i * 7 ≤ j ∧ j < i * 7 + 7 then (enCells e)[j - i * 7]? else (ensCells l)[j]? := by
  by_cases hj : j < l.length * 7
  · have hd := Nat.div_add_mod j 7
    have hm := Nat.mod_lt j (show 0 < 7 by decide)
    have hq : j / 7 < l.length := by omega
    have e1 : j = j / 7 * 7 + j % 7 := by omega
    by_cases hc : j / 7 = i
    · rw [if_pos (by omega)]
      conv => lhs; rw [e1]
      rw [flat_get (cells := enCells) (sz := 7) (fun _ => rfl) (l.set i e) (j / 7) (j % 7) e (by rw [hc]; exact List.getElem?_set_self hi) hm]
      congr 1
      omega
    · rw [if_neg (by omega), e1, flat_get (cells := enCells) (sz := 7) (fun _ => rfl) (l.set i e) (j / 7) (j % 7) l[j / 7] (by rw [List.getElem?_set_ne (Ne.symm hc), List.getElem?_eq_getElem hq]) hm,
        flat_get (cells := enCells) (sz := 7) (fun _ => rfl) l (j / 7) (j % 7) l[j / 7] (List.getElem?_eq_getElem hq) hm]
  · rw [if_neg (by omega), List.getElem?_eq_none (by rw [ens_len, List.length_set]; omega), List.getElem?_eq_none (by rw [ens_len]; omega)]

/-- An entry is stored into a row. -/
theorem own_putEn {g : Nat} {T : TypeId} {l : List En} (h : Own B w0 W (segR g T (ensCells l) :: rs)) (i : Nat) (hi : i < l.length) (e : En) : Own B w0 (W.setCells g (i * 7) (enCells e)) (segR g T (ensCells (l.set i e)) :: rs) := by
  have hu : Upd [g] W (W.setCells g (i * 7) (enCells e)) := upd_setCs _ _ _ _ (Upd.refl _ _)
  obtain ⟨D, ⟨⟨cur, h1, h2, h3⟩, rfl⟩, h4, h5⟩ := h.head
  obtain ⟨cur', q1, q2, q3⟩ := setCells_blk (enCells e) (i * 7) W cur h1
  rw [ens_len] at h2
  have hel : (enCells e).length = 7 := rfl
  refine h.step (r' := segR g T (ensCells (l.set i e))) hu ⟨[], ⟨⟨cur', q1, by rw [ens_len, List.length_set, q2]; exact h2, fun j hj => ?_⟩, rfl⟩, by simp, fun k hk => Nat.lt_of_lt_of_le (h5 k hk) hu.size⟩ (fun k hk => .inl hk)
  rw [ens_len, List.length_set] at hj
  rw [q3, ens_set l i hi e j, hel]
  by_cases hc : i * 7 ≤ j ∧ j < i * 7 + 7
  · rw [if_pos hc, if_pos ⟨hc.1, hc.2, by omega⟩]
  · rw [if_neg hc, if_neg (fun c => hc ⟨c.1, c.2.1⟩), h3 j (by rw [ens_len]; exact hj)]

theorem own_ens {v : Value} {E : TypeId} {l : List En} (h : Own B w0 W rs) (k : Nat) (e : rs[k]? = some (ownR E 7 v l.length (ensCells l))) : Ens W v l := owns_reads (ownR_owns (h.get k e))

theorem own_ensSeg {g cap : Nat} {T : TypeId} {l : List En} (h : Own B w0 W rs) (k : Nat) (e : rs[k]? = some (segR g T (ensCells l))) (h1 : l.length ≤ cap) (h2 : cap ≤ maxLen) : Ens W (.slice (some ⟨g, 0, none⟩) l.length cap) l := by
  obtain ⟨q1, q2, -⟩ := segR_at (h.get k e)
  exact ⟨_, _, rfl, h1, h2, ens_len l, (fun e => by cases e), fun _ => ⟨g, 0, rfl, q1, fun j hj => by rw [Nat.zero_add]; exact q2 j (by rw [ens_len]; exact hj)⟩⟩

/-- A row that has something is a block. -/
theorem own_rowSeg {ao : Option Addr} {c n : Nat} {E : TypeId} {l : List En} (h : Own B w0 W (ownR E 7 (.slice ao n c) n (ensCells l) :: rs)) (hn : 0 < n) : ∃ g, ao = some ⟨g, 0, none⟩ ∧ n ≤ c ∧ c ≤ maxLen ∧ Own B w0 W (segR g E (ensCells l) :: rs) := by
  have ho := ownR_owns h.head
  rcases ho.2 with ⟨h1, h2⟩ | ⟨g, cap', cur, h1, _, _, h3, h4, _⟩
  · omega
  · simp only [Value.slice.injEq] at h1
    obtain ⟨rfl, -, rfl⟩ := h1
    exact ⟨g, rfl, h3, h4, h.alter (ownR_seg h.head) (fun k hk => by simpa [ownR, segR, blkOf] using hk)⟩

theorem ens_range {g : Nat} {T : TypeId} {l : List En} (h : Own B w0 W rs) (k : Nat) (e : rs[k]? = some (segR g T (ensCells l))) (i : Nat) (hi : i < l.length) : W.rangeAt g (i * 7) (enCells l[i]) := by
  obtain ⟨q1, q2, -⟩ := segR_at (h.get k e)
  intro j v hv
  have hj : j < 7 := (List.getElem?_eq_some_iff.1 hv).1
  rw [q2 (i * 7 + j) (by rw [ens_len]; omega), flat_get (cells := enCells) (sz := 7) (fun _ => rfl) l i j l[i] (by simp) hj]
  exact hv

theorem ens_there {g : Nat} {T : TypeId} {l : List En} (h : Own B w0 W rs) (k : Nat) (e : rs[k]? = some (segR g T (ensCells l))) (i : Nat) (hi : i < l.length) : W.there g (i * 7) 7 := by
  obtain ⟨q1, q2, q3⟩ := segR_at (h.get k e)
  intro j hj
  refine ⟨?_, q3 _⟩
  rw [q2 (i * 7 + j) (by rw [ens_len]; omega), List.getElem?_eq_getElem (by rw [ens_len]; omega)]
  rfl

theorem Tryz.szEn : (Tryz.prog.info? 40).map (·.size) = some 7 := by kernel_rfl
theorem en_allone (e : En) : (enCells e).toArray.all (·.oneCell') = true := all_oneCell_toArray (fun u hu => ens_one [e] u (by simpa [ensCells] using hu))
theorem en_size (e : En) : (Tryz.prog.info? 40).map (·.size) = some (enCells e).length := Tryz.szEn
theorem en_size' (e : En) : (Tryz.prog.info? 40).map (·.size) = some (enCells e).toArray.size := Tryz.szEn
end
end Go.Proofs.YtimdphlolmbhnaaGreat
