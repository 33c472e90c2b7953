/- Parts of the proof, one behind the other. -/
import Derived.Test.YtannckelmojkoaaGreatMovB23

/- node: all its certificates; its view change. -/
namespace Go.Proofs.YtannckelmojkoaaGreat
open Go.RowKit Go.Heap

theorem set_self {α : Type} (l : List α) (k : Nat) (h : k < l.length) : l.set k l[k] = l := by
  refine List.ext_getElem (by simp) (fun j h1 h2 => ?_)
  rw [List.getElem_set]
  split
  · rename_i e; subst e; rfl
  · rfl

section
variable {B : Nat} {w0 w W W' : World} {ss rs : List Res} {x : Np} {s s' : Ns} {l l' : Nt}

/-- An instance is only asked. -/
theorem NdIs.ask (h : NdIs B w0 W x s l ss) (k : Nat) (hk : k < s.ins.length) : ∃ i rr, x.is[k]? = some i ∧ AtI B w0 W i s.ins[k] (ss ++ rr) ∧ ∀ W' ss', AtI B w0 W' i s.ins[k] (ss' ++ rr) → NdIs B w0 W' x s l ss' := by
  obtain ⟨i, rr, h1, h2, h3⟩ := h.inst k hk
  refine ⟨i, rr, h1, h2, fun W' ss' ha => ?_⟩
  have := h3 W' s.ins[k] ss' (InKeep.refl _) ha
  rw [set_self] at this
  exact this
/-- What stands beside the node is said otherwise. -/
theorem NdIs.onSide {ss' : List Res} (h : NdIs B w0 W x s l ss) (f : ∀ r, Own B w0 W (ss ++ [r]) → Own B w0 W (ss' ++ [r])) : NdIs B w0 W x s l ss' := by
  obtain ⟨r, h1, h2⟩ := h.side
  exact h2 W ss' (f r h1)
theorem ai_len {i : Nat} {st : In} (h : AtI B w0 W i st ss) : st.l.length = 16 := by
  obtain ⟨y, rfl, rfl, h3⟩ := h
  simp [Ins.st, (own_ok h3).n]
theorem certs_len {st : In} (h : st.l.length = 16) : (certsI st).length ≤ 16 := by
  unfold certsI
  rw [List.length_map]
  exact Nat.le_trans (List.length_filter_le _ _) (by omega)
theorem ct_one {c : Ct} {D : List Nat} (h : CtIn W c D) : ∀ u ∈ ctCells c, u.oneCell' = true := by
  obtain ⟨⟨⟨a1, k1, e1, -⟩, -⟩, -, ⟨⟨a2, k2, e2, -⟩, -⟩, -⟩ := h
  exact ctCells_one e1 e2
theorem cts_one {l : List Ct} {D : List Nat} (h : ∀ c ∈ l, CtIn W c D) : ∀ u ∈ l.flatMap ctCells, u.oneCell' = true := by
  intro u hu
  simp only [List.mem_flatMap] at hu
  obtain ⟨c, hc, hu⟩ := hu
  exact ct_one (h c hc) u hu

set_option maxHeartbeats 4000000 in
set_option maxRecDepth 100000 in
theorem ncerts_any (h : NdIs B w0 W x s l ss) : Calls Tryz.prog 38 #[ptrV x.p] W fun e w' => ∃ (u : Value) (cts : List Ct), e = .returned u ∧ cts.map Ct.cp = certsAll s ∧ cts.length ≤ 80 ∧ NdIs B w0 w' x s l (redR u 5 cts.length (cts.flatMap ctCells) :: ctsR cts :: ss) := by
  obtain ⟨i0, hi, hz0, hz1, hz2⟩ := info_parts Tryz.infoCert
  have hf2 := h.ok.c.f2
  have c18 := h.cell 18 rfl (by decide)
  have hcap := h.caps.1
  have hins := h.ok.ins
  have H0 : Hid (NdIs B w0 W x s l (ownR 42 5 (.slice none 0 0) 0 [] :: ctsR [] :: ss)) := Lib.hid (h.onSide (fun r hr => (hr.mkCts (l := []) (by simp)).row0))
  clear h
  go_enter Tryz.func38, Tryz.ntmps38
  go_wp2_with fail
  go_loopw [3, 11] (fun out n wr => ∃ (k : Nat) (acc : List Ct) (ao : Option Addr) (cp : Nat), k ≤ s.c.f + 1 ∧ n = .int .i64 k ∧ out = .slice ao acc.length cp ∧ Hid (acc.map Ct.cp = (s.ins.take k).flatMap certsI) ∧ Hid (acc.length ≤ 16 * k) ∧
    Hid (NdIs B w0 wr x s l (ownR 42 5 (.slice ao acc.length cp) acc.length (acc.flatMap ctCells) :: ctsR acc :: ss))) (fun _ n _ => s.c.f + 1 - (intOf n).toNat)
  case atStart => exact ⟨0, [], none, 0, by omega, rfl, rfl, Lib.hid rfl, Lib.hid (by simp), H0⟩
  case round =>
    clear H0 c18
    obtain ⟨k, acc, ao, cp, hk, rfl, rfl, HM, HLE, H1⟩ := hrel
    by_cases hlt : k < s.c.f + 1
    · have hkI : (k : Int) < (s.c.f : Int) + 1 := by omega
      have hk0 : (0 : Int) ≤ (k : Int) := by omega
      have hcI : (s.c.f : Int) + 1 ≤ (x.ic : Int) := by omega
      have hki : k < s.ins.length := by omega
      obtain ⟨i, rr, hi', ha, hb⟩ := H1.out.ask k hki
      have ci := H1.out.instAt k hi'
      have HC := Lib.hid (ai_certs ha)
      have HL := Lib.hid (certs_len (ai_len ha))
      have HB := Lib.hid hb
      clear ha hb
      go_wp2_with fail
      refine HC.out.mono ?_
      rintro e w2 ⟨u, cts, rfl, hcp, h2⟩
      have h3 : NdIs B w0 w2 x s l (ownR 42 5 u cts.length (cts.flatMap ctCells) :: ctsR cts :: ownR 42 5 (.slice ao acc.length cp) acc.length (acc.flatMap ctCells) :: ctsR acc :: ss) := HB.out w2 _ h2
      obtain ⟨r, hs, hback⟩ := h3.side
      have HS := Lib.hid hs
      have HK := Lib.hid hback
      have HR := Lib.hid (owns_reads (ownR_owns (hs.get 0 rfl)))
      have HON := Lib.hid (cts_one (cts_fr hs 1 rfl))
      have HCL : Hid (cts.length ≤ 16) := Lib.hid (by have := HL.out; rw [← hcp, List.length_map] at this; exact this)
      have HCP := Lib.hid hcp
      have HLN : Hid (acc.length + cts.length ≤ 100) := Lib.hid (by have := HLE.out; have := HCL.out; omega)
      clear h2 h3 hs hback HC HB HL hcp
      go_wp2_with (at_builtin; refine wpList_pushAll rfl (.tmp 15) (.tmp 17) 44 rfl 42 i0 (.agg #[.int .i64 0, .int .i64 0, .int .i64 0, .slice none 0 0, .slice none 0 0]) 5 72 Tryz.underlying44 hi hz0 hz1 hz2 rfl (by decide) HS.out 2 (.slice ao acc.length cp) acc.length (acc.flatMap ctCells) rfl rfl _ cts.length (cts.flatMap ctCells) rfl HR.out HON.out (by have := HLN.out; unfold maxLen; omega) (by have := HLN.out; omega) ?_)
      intro ao' cap' w3 h4
      have h4' : Own B w0 w3 (ownR 42 5 u cts.length (cts.flatMap ctCells) :: ctsR cts :: ownR 42 5 (.slice ao' (acc.length + cts.length) cap') (acc.length + cts.length) (acc.flatMap ctCells ++ cts.flatMap ctCells) :: ctsR acc :: (ss ++ [r])) := h4
      have g1 : Own B w0 w3 (ctsR (acc ++ cts) :: _) := h4'.mkCts (fun c hc => (List.mem_append.1 hc).elim (cts_fr h4' 3 rfl c) (cts_fr h4' 1 rfl c))
      have g2 := (((g1.dropAt 1 (by simp)).dropAt 1 (by simp)).dropAt 2 (by simp)).swap
      have HF : Hid (NdIs B w0 w3 x s l (ownR 42 5 (.slice ao' (acc ++ cts).length cap') (acc ++ cts).length ((acc ++ cts).flatMap ctCells) :: ctsR (acc ++ cts) :: ss)) := Lib.hid (HK.out w3 _ (by rw [List.length_append, List.flatMap_append]; exact g2))
      have HM2 : Hid ((acc ++ cts).map Ct.cp = (s.ins.take (k + 1)).flatMap certsI) := Lib.hid (by rw [List.map_append, HM.out, HCP.out, List.take_succ_eq_append_getElem hki, List.flatMap_append]; simp)
      have HLE2 : Hid ((acc ++ cts).length ≤ 16 * (k + 1)) := Lib.hid (by rw [List.length_append]; have := HLE.out; have := HCL.out; omega)
      clear h4 h4' g1 g2 HS HK HR HON
      go_wp2_with fail
      go_roundw
      case rel => exact ⟨k + 1, acc ++ cts, ao', cap', by omega, by go_num, by simp, HM2, HLE2, HF⟩
      case measure => simp [intOf]; omega
    · have hkI : decide ((k : Int) < (s.c.f : Int) + 1) = false := by simp; omega
      have e : s.ins.take k = s.ins := List.take_of_length_le (by omega)
      rw [e] at HM
      have HF : Hid (NdIs B w0 wr x s l (redR (.slice ao acc.length cp) 5 acc.length (acc.flatMap ctCells) :: ctsR acc :: ss)) := Lib.hid (H1.out.onSide (fun r hr => Own.toRed hr))
      go_wp2_with fail
      go_ret
      exact ⟨_, acc, rfl, HM.out, by have := HLE.out; omega, HF.out⟩

end
end Go.Proofs.YtannckelmojkoaaGreat

/- node: its view change; the parts of this view, of the lowest nodes. -/
namespace Go.Proofs.YtannckelmojkoaaGreat
open Go.RowKit Go.Heap

section
variable {B : Nat} {w0 w W W' : World} {ss rs : List Res} {x : Np} {s s' : Ns} {l l' : Nt}

/-- A view change in memory. -/
abbrev vcMm (id view : Int) (vv : Value) (vs : Vs) (u : Value) (cts : List Ct) : Mm := ⟨7, id, view, 0, 0, 0, .slice none 0 0, [], vv, vs, u, cts, .slice none 0 0, []⟩
theorem own_nilR (sz : Nat) (h : Own B w0 W rs) : Own B w0 W (redR (.slice none 0 0) sz 0 [] :: rs) := h.mkRed (.nil _ _ _)
theorem own_vcm {id view : Int} {vv u : Value} {vs : Vs} {cts : List Ct} (h : Own B w0 W (redR u 5 cts.length (cts.flatMap ctCells) :: ctsR cts :: redR vv 2 vs.length (vsCells vs) :: rs)) : Own B w0 W (mmR (vcMm id view vv vs u cts) rs) := by
  have h1 : Own B w0 W (redR u 5 cts.length (cts.flatMap ctCells) :: ctsR cts :: redR vv 2 vs.length (vsCells vs) :: redR (.slice none 0 0) 6 0 [] :: rs) := (own_nilR 6 h).back 3 (by simp) rfl
  have h2 : Own B w0 W (ptsR [] :: _) := h1.mkPts (by simp)
  exact own_nilR 4 h2

set_option maxHeartbeats 4000000 in
set_option maxRecDepth 100000 in
theorem nviewed_any {vv : Value} {vs : Vs} (h : NdIs B w0 W x s l (redR vv 2 vs.length (vsCells vs) :: ss)) :
    Calls Tryz.prog 227 #[ptrV x.p, vv] W fun e w' => ∃ (u : Value) (cts : List Ct), e = .returned (.agg (mmA (vcMm s.id s.view vv vs u cts))) ∧ cts.map Ct.cp = certsAll s ∧ cts.length ≤ 80 ∧ NdIs B w0 w' x s l (mmR (vcMm s.id s.view vv vs u cts) ss) := by
  obtain ⟨r, hs, -⟩ := h.side
  obtain ⟨a1, c1, rfl⟩ : ∃ a c, vv = .slice a vs.length c := let ⟨a, c, e, _⟩ := red_reads (k := 0) hs rfl; ⟨a, c, e⟩
  have hx := h.box (.cells #[.int .i64 0, .int .i64 0, .int .i64 0, .int .i64 0, .int .i64 0, .int .i64 0, .slice none 0 0, .slice none 0 0, .slice none 0 0, .slice none 0 0] 47 (0, 0))
  have H := Lib.hid hx.drew
  have HC := Lib.hid (ncerts_any hx.drew)
  have c15 := hx.drew.cell 15 rfl (by decide)
  have c29 := hx.drew.cell 29 rfl (by decide)
  clear h hs hx
  go_enter Tryz.func227, Tryz.ntmps227
  go_wp2_with fail
  refine Held.wp_held [(x.p, 15, [.int .i64 s.id]), (x.p, 29, [.int .i64 s.view])] [(3, 0), (7, 1)] [12] [(11, true)] (by kernel_rfl) (by kernel_rfl) ⟨⟨c15, trivial⟩, ⟨c29, trivial⟩, trivial⟩ ?_
  simp only [Held.cutAt, Held.walk, List.take_succ_cons, List.take_zero, List.drop_succ_cons, List.drop_zero]
  go_wp2_with fail
  refine HC.out.mono ?_
  rintro e w1 ⟨u, cts, rfl, hcp, hlen, h1⟩
  have H1 := Lib.hid h1
  have HCP := Lib.hid hcp
  have d15 := h1.cell 15 rfl (by decide)
  have d29 := h1.cell 29 rfl (by decide)
  obtain ⟨r1, hs1, hk1⟩ := h1.side
  have hb := hs1.blkAt 2 rfl
  obtain ⟨a2, c2, rfl⟩ : ∃ a c, u = .slice a cts.length c := let ⟨a, c, e, _⟩ := red_reads (k := 0) hs1 rfl; ⟨a, c, e⟩
  have x0 := cell_blk hb 0 rfl
  have x1 := cell_blk hb 1 rfl
  have x2 := cell_blk hb 2 rfl
  have x3 := cell_blk hb 3 rfl
  have x4 := cell_blk hb 4 rfl
  have x5 := cell_blk hb 5 rfl
  have x6 := cell_blk hb 6 rfl
  have x7 := cell_blk hb 7 rfl
  have x8 := cell_blk hb 8 rfl
  have x9 := cell_blk hb 9 rfl
  have z := block_frozen hb
  have HG := Lib.hid (own_ten (hs1.front 2 rfl rfl) (v0 := .int .i64 7) (v1 := .int .i64 s.id) (v2 := .int .i64 s.view) (v3 := .int .i64 0) (v4 := .int .i64 0) (v5 := .int .i64 0) (v6 := .slice none 0 0) (v7 := .slice a1 vs.length c1) (v8 := .slice a2 cts.length c2) (v9 := .slice none 0 0))
  have HF : Hid (NdIs B w0 _ x s l (redR (.slice a2 cts.length c2) 5 cts.length (cts.flatMap ctCells) :: ctsR cts :: redR (.slice a1 vs.length c1) 2 vs.length (vsCells vs) :: ss)) := Lib.hid ((hk1 _ (blk W.heap.size _ :: redR (.slice a2 cts.length c2) 5 cts.length (cts.flatMap ctCells) :: ctsR cts :: redR (.slice a1 vs.length c1) 2 vs.length (vsCells vs) :: ss) HG.out).drop)
  clear h1 hcp HC H hk1 hs1 hb
  go_wp2_with fail
  refine ⟨⟨⟨d15, trivial⟩, ⟨d29, trivial⟩, trivial⟩, ?_⟩
  go_wp2_with fail
  generalize World.setCell (World.setCell (World.setCell (World.setCell (World.setCell (World.setCell (World.setCell (World.setCell (World.setCell (World.setCell w1 _ _) _ _) _ _) _ _) _ _) _ _) _ _) _ _) _ _) _ _ = w3 at *
  have u0 := cell_blk (HG.out.blkAt 0 rfl) 0 rfl
  have u1 := cell_blk (HG.out.blkAt 0 rfl) 1 rfl
  have u2 := cell_blk (HG.out.blkAt 0 rfl) 2 rfl
  have u3 := cell_blk (HG.out.blkAt 0 rfl) 3 rfl
  have u4 := cell_blk (HG.out.blkAt 0 rfl) 4 rfl
  have u5 := cell_blk (HG.out.blkAt 0 rfl) 5 rfl
  have u6 := cell_blk (HG.out.blkAt 0 rfl) 6 rfl
  have u7 := cell_blk (HG.out.blkAt 0 rfl) 7 rfl
  have u8 := cell_blk (HG.out.blkAt 0 rfl) 8 rfl
  have u9 := cell_blk (HG.out.blkAt 0 rfl) 9 rfl
  refine ⟨trivial, by rfl, ⟨⟨rfl, .inl ⟨by kernel_rfl, rfl⟩⟩, ⟨rfl, .inl ⟨by kernel_rfl, rfl⟩⟩, trivial⟩, ?_⟩
  go_wp2_with fail
  refine bodyPost_ret (v := .agg #[.int .i64 7, .int .i64 s.id, .int .i64 s.view, .int .i64 0, .int .i64 0, .int .i64 0, .slice none 0 0, .slice a1 vs.length c1, .slice a2 cts.length c2, .slice none 0 0]) (by simp [results, Tryz.results227, go_sem, u0, u1, u2, u3, u4, u5, u6, u7, u8, u9]) rfl ?_
  exact ⟨_, cts, rfl, HCP.out, hlen, HF.out.onSide (fun r hr => own_vcm hr)⟩

end
end Go.Proofs.YtannckelmojkoaaGreat

/- node: the parts of this view, of the lowest nodes. -/
namespace Go.Proofs.YtannckelmojkoaaGreat
open Go.RowKit Go.Heap

theorem Tryz.infoPt2 : (Tryz.prog.info? 49).map (fun i => (i.zero, i.size, i.bytes)) = some (some (.agg #[.int .i64 0, .slice none 0 0, .slice none 0 0, .int .i64 0]), 4, 64) := by kernel_rfl

def lowQ (s : Ns) (q : Int × Pa) : Bool := decide (0 < s.view) && decide (q.1 = s.view)
def lowTo (s : Ns) (k : Nat) : List Pa := (((s.pts.take k).filter (lowQ s)).map Prod.snd).take (2 * s.c.f + 1)
theorem lowTo_all (s : Ns) {k : Nat} (h : s.pts.length ≤ k) : lowTo s k = lowP s := by unfold lowTo lowP; rw [List.take_of_length_le h]; rfl
theorem take_snoc {α : Type} (l : List α) (x : α) (n : Nat) : (l ++ [x]).take n = if (l.take n).length < n then l.take n ++ [x] else l.take n := by
  by_cases h : l.length < n
  · rw [List.take_of_length_le (by simp; omega), List.take_of_length_le (by omega : l.length ≤ n), if_pos h]
  · rw [List.take_append_of_le_length (by omega), if_neg (by simp; omega)]
theorem lowTo_step (s : Ns) (k : Nat) (hk : k < s.pts.length) : lowTo s (k + 1) = if lowQ s s.pts[k] = true ∧ (lowTo s k).length < 2 * s.c.f + 1 then lowTo s k ++ [s.pts[k].2] else lowTo s k := by
  unfold lowTo
  rw [List.take_succ_eq_append_getElem hk, List.filter_append, List.map_append]
  by_cases h : lowQ s s.pts[k] = true
  · rw [show List.filter (lowQ s) [s.pts[k]] = [s.pts[k]] from by simp [h]]
    simp only [List.map_cons, List.map_nil]
    rw [take_snoc]
    simp only [h, true_and]
  · rw [show List.filter (lowQ s) [s.pts[k]] = [] from by simp [h]]
    simp [h]
theorem lowTo_len (s : Ns) (k : Nat) : (lowTo s k).length ≤ 2 * s.c.f + 1 := by unfold lowTo; simp; omega

section
variable {B : Nat} {w0 w W W' : World} {ss rs : List Res} {x : Np} {s s' : Ns} {l l' : Nt}

set_option maxHeartbeats 4000000 in
set_option maxRecDepth 100000 in
theorem nlowest_any (h : NdIs B w0 W x s l ss) : Calls Tryz.prog 258 #[ptrV x.p] W fun e w' => ∃ (u : Value) (pts : List Pt), e = .returned (.tuple #[u, .bool (decide ((lowP s).length = 2 * s.c.f + 1))]) ∧ pts.map Pt.pa = lowP s ∧ NdIs B w0 w' x s l (redR u 4 pts.length (pts.flatMap ptCells) :: ptsR pts :: ss) := by
  obtain ⟨i0, hi, hz0, hz1, hz2⟩ := info_parts Tryz.infoPt2
  have hf1 := h.ok.c.f1
  have hf2 := h.ok.c.f2
  have c24 := h.cell 24 rfl (by decide)
  have hcap := h.caps.2.1
  have hpl := h.ok.pts
  have HQ := Lib.hid (fun w => quorum_any (s.c.f : Int) w (by omega) (by omega))
  have H0 : Hid (NdIs B w0 W x s l (ownR 49 4 (.slice none 0 0) 0 [] :: ptsR [] :: ss)) := Lib.hid (h.onSide (fun r hr => (hr.mkPts (l := []) (by simp)).row0))
  clear h
  go_enter Tryz.func258, Tryz.ntmps258
  go_wp2_with fail
  go_loopw [4, 12] (fun out n wr => ∃ (k : Nat) (acc : List Pt) (ao : Option Addr) (cp : Nat), k ≤ 3 * s.c.f + 1 ∧ n = .int .i64 k ∧ out = .slice ao acc.length cp ∧ Hid (acc.map Pt.pa = lowTo s k) ∧ Hid (acc.length ≤ 9) ∧
    Hid (NdIs B w0 wr x s l (ownR 49 4 (.slice ao acc.length cp) acc.length (acc.flatMap ptCells) :: ptsR acc :: ss))) (fun _ n _ => 3 * s.c.f + 1 - (intOf n).toNat)
  case atStart => exact ⟨0, [], none, 0, by omega, rfl, rfl, Lib.hid (by simp [lowTo]), Lib.hid (by simp), H0⟩
  case round =>
    clear H0 c24
    obtain ⟨k, acc, ao, cp, hk, rfl, rfl, HM, HLE, H1⟩ := hrel
    have d0 := H1.out.cell 0 rfl (by decide)
    have d29 := H1.out.cell 29 rfl (by decide)
    by_cases hlt : k < 3 * s.c.f + 1
    · have hkI : (k : Int) < 3 * (s.c.f : Int) + 1 := by omega
      have hk0 : (0 : Int) ≤ (k : Int) := by omega
      have hcI : 3 * (s.c.f : Int) + 1 ≤ (x.pk : Int) := by omega
      have hkp : k < s.pts.length := by omega
      obtain ⟨⟨qv, qfm, vv, qvs, cv, qcts, qsl⟩, hq, hcell, -, hn1, hn2, h2⟩ := H1.out.part k hkp
      obtain ⟨r, hs, hback⟩ := h2.side
      obtain ⟨a1, c1, rfl⟩ : ∃ a c, vv = .slice a qvs.length c := let ⟨a, c, e, _⟩ := red_reads (k := 0) hs rfl; ⟨a, c, e⟩
      obtain ⟨a2, c2, rfl⟩ : ∃ a c, cv = .slice a qcts.length c := let ⟨a, c, e, _⟩ := red_reads (k := 1) hs rfl; ⟨a, c, e⟩
      have q0 := hcell 0 (by omega)
      have q1 := hcell 1 (by omega)
      have q2 := hcell 2 (by omega)
      have q3 := hcell 3 (by omega)
      have q4 := hcell 4 (by omega)
      simp only [pqC, ptCells, Nat.add_zero, List.getElem?_cons_zero, List.getElem?_cons_succ] at q0 q1 q2 q3 q4
      have HS := Lib.hid (lowTo_step s k hkp)
      rw [← hq] at HS
      have HMA := Lib.hid (lowTo_len s (k + 1))
      have HLEN : Hid ((lowTo s k).length = acc.length) := Lib.hid (by rw [← HM.out, List.length_map])
      have H2 := Lib.hid (h2.box (.cells #[.int .i64 qv, .int .i64 qfm, .slice a1 qvs.length c1, .slice a2 qcts.length c2, .int .i64 qsl] 260 (0, 0)))
      clear hcell hq hback h2 H1
      have H2' : Hid (NdIs B w0 (wr.alloc (.cells #[.int .i64 qv, .int .i64 qfm, .slice a1 qvs.length c1, .slice a2 qcts.length c2, .int .i64 qsl] 260 (0, 0))) x s l (ownR 49 4 (.slice ao acc.length cp) acc.length (acc.flatMap ptCells) :: ptsR acc :: ss)) := Lib.hid H2.out.drop.drop.drop.drop
      have e0 := H2'.out.cell 0 rfl (by decide)
      have e29 := H2'.out.cell 29 rfl (by decide)
      have hbk := heap_alloc_new wr (.cells #[.int .i64 qv, .int .i64 qfm, .slice a1 qvs.length c1, .slice a2 qcts.length c2, .int .i64 qsl] 260 (0, 0))
      have t0 := cell_blk hbk 0 rfl
      clear hbk d0 d29
      cases b1 : decide (0 < s.view) with
      | false =>
        have HM2 : Hid (acc.map Pt.pa = lowTo s (k + 1)) := Lib.hid (by rw [HS.out, if_neg (by unfold lowQ; simp only [b1]; simp)]; exact HM.out)
        clear HM HS HMA hs H2
        go_wp2_with fail
        go_quiet ((go_at_call 213; exact quiet_eq (HQ.out _)))
        go_wp2_with fail
        go_roundw
        case rel => exact ⟨k + 1, acc, ao, cp, by omega, by go_num, rfl, HM2, HLE, Lib.hid (H2'.out.drewN _)⟩
        case measure => simp [intOf]; omega
      | true =>
        cases b2 : (qv == s.view) with
        | false =>
          have hne : ¬ qv = s.view := by simpa using b2
          have HM2 : Hid (acc.map Pt.pa = lowTo s (k + 1)) := Lib.hid (by rw [HS.out, if_neg (by unfold lowQ; simp only [decide_eq_false hne]; simp)]; exact HM.out)
          clear HM HS HMA hs H2 hne
          go_wp2_with fail
          go_quiet ((go_at_call 213; exact quiet_eq (HQ.out _)))
          go_wp2_with fail
          go_roundw
          case rel => exact ⟨k + 1, acc, ao, cp, by omega, by go_num, rfl, HM2, HLE, Lib.hid (H2'.out.drewN _)⟩
          case measure => simp [intOf]; omega
        | true =>
          have heq : qv = s.view := by simpa using b2
          have hlq : lowQ s (qv, Pt.pa ⟨qfm, .slice a1 qvs.length c1, qvs, .slice a2 qcts.length c2, qcts, qsl⟩) = true := by unfold lowQ; simp only [b1, heq]; simp
          by_cases b3 : acc.length < 2 * s.c.f + 1
          · have b3I : (acc.length : Int) < 2 * (s.c.f : Int) + 1 := by omega
            have HM2 : Hid ((acc ++ [(⟨qfm, .slice a1 qvs.length c1, qvs, .slice a2 qcts.length c2, qcts, qsl⟩ : Pt)]).map Pt.pa = lowTo s (k + 1)) := Lib.hid (by rw [HS.out, if_pos ⟨hlq, by rw [HLEN.out]; exact b3⟩, List.map_append, HM.out]; rfl)
            obtain ⟨r5, hs5, hk5⟩ := H2.out.side
            have HX : Hid (∀ n, Own B w0 (((wr.alloc (.cells #[.int .i64 qv, .int .i64 qfm, .slice a1 qvs.length c1, .slice a2 qcts.length c2, .int .i64 qsl] 260 (0, 0))).drewN n).alloc (.cells #[.int .i64 qfm, .slice a1 qvs.length c1, .slice a2 qcts.length c2, .int .i64 qsl] 49 (0, 0))) (blk (wr.heap.size + 1) (.cells #[.int .i64 qfm, .slice a1 qvs.length c1, .slice a2 qcts.length c2, .int .i64 qsl] 49 (0, 0)) :: _)) := Lib.hid (fun n => (hs5.upd0 ((Upd.refl _ _).drewN n)).boxAt _ (by simp))
            have HK := Lib.hid hk5
            have HB : Hid (∀ n, (((wr.alloc (.cells #[.int .i64 qv, .int .i64 qfm, .slice a1 qvs.length c1, .slice a2 qcts.length c2, .int .i64 qsl] 260 (0, 0))).drewN n).alloc (.cells #[.int .i64 qfm, .slice a1 qvs.length c1, .slice a2 qcts.length c2, .int .i64 qsl] 49 (0, 0))).heap[wr.heap.size + 1]? = some (.cells #[.int .i64 qfm, .slice a1 qvs.length c1, .slice a2 qcts.length c2, .int .i64 qsl] 49 (0, 0))) := Lib.hid (fun n => (HX.out n).blkAt 0 rfl)
            have hbk := heap_alloc_new wr (.cells #[.int .i64 qv, .int .i64 qfm, .slice a1 qvs.length c1, .slice a2 qcts.length c2, .int .i64 qsl] 260 (0, 0))
            have t1 := cell_blk hbk 1 rfl
            have t2 := cell_blk hbk 2 rfl
            have t3 := cell_blk hbk 3 rfl
            have t4 := cell_blk hbk 4 rfl
            have HA9 : Hid (acc.length ≤ 8) := Lib.hid (by omega)
            clear hbk hs5 hk5 H2 H2' HM HS HMA hs hlq heq b3 HLEN HLE
            go_wp2_with fail
            go_quiet ((go_at_call 213; exact quiet_eq (HQ.out _)))
            go_wp2_with (at_builtin; refine wpList_push rfl (.tmp 41) (.tmp 44) 45 rfl 49 i0 (.agg #[.int .i64 0, .slice none 0 0, .slice none 0 0, .int .i64 0]) 4 64 Tryz.underlying45 hi hz0 hz1 hz2 rfl (by decide) (HX.out _) 5 (.slice ao acc.length cp) acc.length (acc.flatMap ptCells) rfl rfl (wr.heap.size + 1) #[.int .i64 qfm, .slice a1 qvs.length c1, .slice a2 qcts.length c2, .int .i64 qsl] 49 (0, 0) rfl (HB.out _) rfl (by simp [Value.oneCell']) (by have := HA9.out; unfold maxLen; omega) (by have := HA9.out; omega) ?_)
            intro g6 cap6 w6 h6
            have h7 : Own B w0 w6 (blk (wr.heap.size + 1) (.cells #[.int .i64 qfm, .slice a1 qvs.length c1, .slice a2 qcts.length c2, .int .i64 qsl] 49 (0, 0)) :: blk wr.heap.size (.cells #[.int .i64 qv, .int .i64 qfm, .slice a1 qvs.length c1, .slice a2 qcts.length c2, .int .i64 qsl] 260 (0, 0)) :: redR (.slice a1 qvs.length c1) 2 qvs.length (vsCells qvs) :: redR (.slice a2 qcts.length c2) 5 qcts.length (qcts.flatMap ctCells) :: ctsR qcts :: ownR 49 4 (.slice (some ⟨g6, 0, none⟩) (acc.length + 1) cap6) (acc.length + 1) (acc.flatMap ptCells ++ [.int .i64 qfm, .slice a1 qvs.length c1, .slice a2 qcts.length c2, .int .i64 qsl]) :: ptsR acc :: (ss ++ [r5])) := h6
            have g1 : Own B w0 w6 (ptsR (acc ++ [(⟨qfm, .slice a1 qvs.length c1, qvs, .slice a2 qcts.length c2, qcts, qsl⟩ : Pt)]) :: _) := h7.mkPts (fun c hc => by
              rcases List.mem_append.1 hc with hc | hc
              · exact pts_fr h7 6 rfl c hc
              · simp only [List.mem_singleton] at hc
                subst hc
                exact ⟨h7.redFr 2 rfl, hn1, h7.redFr 3 rfl, hn2, cts_fr h7 4 rfl⟩)
            have g2 := ((((((g1.dropAt 1 (by simp)).dropAt 1 (by simp)).dropAt 1 (by simp)).dropAt 1 (by simp)).dropAt 1 (by simp)).dropAt 2 (by simp)).swap
            have HF : Hid (NdIs B w0 w6 x s l (ownR 49 4 (.slice (some ⟨g6, 0, none⟩) (acc ++ [(⟨qfm, .slice a1 qvs.length c1, qvs, .slice a2 qcts.length c2, qcts, qsl⟩ : Pt)]).length cap6) (acc ++ [(⟨qfm, .slice a1 qvs.length c1, qvs, .slice a2 qcts.length c2, qcts, qsl⟩ : Pt)]).length ((acc ++ [(⟨qfm, .slice a1 qvs.length c1, qvs, .slice a2 qcts.length c2, qcts, qsl⟩ : Pt)]).flatMap ptCells) :: ptsR (acc ++ [(⟨qfm, .slice a1 qvs.length c1, qvs, .slice a2 qcts.length c2, qcts, qsl⟩ : Pt)]) :: ss)) := Lib.hid (HK.out w6 (ownR 49 4 (.slice (some ⟨g6, 0, none⟩) (acc ++ [(⟨qfm, .slice a1 qvs.length c1, qvs, .slice a2 qcts.length c2, qcts, qsl⟩ : Pt)]).length cap6) (acc ++ [(⟨qfm, .slice a1 qvs.length c1, qvs, .slice a2 qcts.length c2, qcts, qsl⟩ : Pt)]).length ((acc ++ [(⟨qfm, .slice a1 qvs.length c1, qvs, .slice a2 qcts.length c2, qcts, qsl⟩ : Pt)]).flatMap ptCells) :: ptsR (acc ++ [(⟨qfm, .slice a1 qvs.length c1, qvs, .slice a2 qcts.length c2, qcts, qsl⟩ : Pt)]) :: ss) (by simpa [List.length_append, List.flatMap_append, ptCells] using g2))
            clear h6 h7 g1 g2 HK HX HB t1 t2 t3 t4
            go_wp2_with fail
            go_roundw
            case rel => exact ⟨k + 1, acc ++ [(⟨qfm, .slice a1 qvs.length c1, qvs, .slice a2 qcts.length c2, qcts, qsl⟩ : Pt)], some ⟨g6, 0, none⟩, cap6, by omega, by go_num, by simp, HM2, Lib.hid (by rw [List.length_append]; have := HA9.out; simp; omega), HF⟩
            case measure => simp [intOf]; omega
          · have b3I : decide ((acc.length : Int) < 2 * (s.c.f : Int) + 1) = false := by simp; omega
            have HM2 : Hid (acc.map Pt.pa = lowTo s (k + 1)) := Lib.hid (by rw [HS.out, if_neg (by rw [HLEN.out]; omega)]; exact HM.out)
            clear HM HS HMA hs H2 hlq heq b3
            go_wp2_with fail
            go_quiet ((go_at_call 213; exact quiet_eq (HQ.out _)))
            go_wp2_with fail
            go_roundw
            case rel => exact ⟨k + 1, acc, ao, cp, by omega, by go_num, rfl, HM2, HLE, Lib.hid (H2'.out.drewN _)⟩
            case measure => simp [intOf]; omega
    · have hkI : decide ((k : Int) < 3 * (s.c.f : Int) + 1) = false := by simp; omega
      have HM2 : Hid (acc.map Pt.pa = lowP s) := Lib.hid (by rw [HM.out, lowTo_all s (by omega)])
      have HL2 : Hid ((lowP s).length = acc.length) := Lib.hid (by rw [← HM2.out, List.length_map])
      have HF : Hid (NdIs B w0 wr x s l (redR (.slice ao acc.length cp) 4 acc.length (acc.flatMap ptCells) :: ptsR acc :: ss)) := Lib.hid (H1.out.onSide (fun r hr => Own.toRed hr))
      have hb : Hid (((acc.length : Int) == 2 * (s.c.f : Int) + 1) = decide ((lowP s).length = 2 * s.c.f + 1)) := Lib.hid (by
        rw [HL2.out]
        by_cases e : acc.length = 2 * s.c.f + 1
        · rw [decide_eq_true e, beq_iff_eq.2 (by omega)]
        · rw [decide_eq_false e, beq_eq_false_iff_ne.2 (by omega)])
      clear H1 HM
      go_wp2_with fail
      refine (HQ.out _).mono ?_
      rintro e w' ⟨rfl, rfl⟩
      go_wp2_with fail
      go_ret2
      rw [← hb.out]
      exact ⟨_, acc, rfl, HM2.out, HF.out⟩

end
end Go.Proofs.YtannckelmojkoaaGreat

/- node: who is primary; a new view does not begin where there are not enough parts. -/
namespace Go.Proofs.YtannckelmojkoaaGreat
open Go.RowKit Go.Heap

section
variable {B : Nat} {w0 w W W' : World} {ss rs : List Res} {x : Np} {s s' : Ns} {l l' : Nt}

theorem nprim_any (k : Int) (h : NdIs B w0 W x s l ss) : Calls Tryz.prog 155 #[ptrV x.p, .int .i64 k] W fun e w' => e = .returned (.bool (decide (primaryP s.c.f s.view k = s.id))) ∧ ∃ n, w' = W.drewN n := by
  have HP := Lib.hid (fun w => primary_eq s.c.f s.view k w h.ok.c.f1 h.ok.c.f2)
  have c0 := h.cell 0 rfl (by decide)
  have c15 := h.cell 15 rfl (by decide)
  have c29 := h.cell 29 rfl (by decide)
  have he : decide (primaryP s.c.f s.view k = s.id) = (primaryP s.c.f s.view k == s.id) := rfl
  rw [he]
  clear h he
  go_enter Tryz.func155, Tryz.ntmps155
  go_wp2_with fail
  go_quiet ((go_at_call 142; exact quiet_eq (HP.out _)))
  go_wp2_with fail
  go_ret
  exact ⟨rfl, _, rfl⟩

/-- An instance's state. -/
theorem insAt_get (s : Ns) (k : Nat) (hk : k < s.ins.length) : insAt s k = s.ins[k] := by unfold insAt; simp [List.getD, hk]
theorem nd_installed (h : NdIs B w0 W x s l ss) (k : Nat) (hk : k < s.c.f + 1) {i : Nat} (hi : x.is[k]? = some i) : Calls Tryz.prog 73 #[ptrV i] W fun e w' => e = .returned (.bool (insAt s k).on) ∧ W = w' := by
  have hk' : k < s.ins.length := by rw [h.ok.ins]; exact hk
  obtain ⟨j, rr, hj, ha, -⟩ := h.ask k hk'
  rw [hi] at hj
  cases hj
  rw [insAt_get s k hk']
  exact ai_installed ha

set_option maxHeartbeats 4000000 in
set_option maxRecDepth 100000 in
theorem nbegin_few (h : NdIs B w0 W x s l ss) (hl : (lowP s).length ≠ 2 * s.c.f + 1) : Calls Tryz.prog 228 #[ptrV x.p] W fun e w' => e = .returned (.tuple #[]) ∧ NdIs B w0 w' x s l ss := by
  have hf2 := h.ok.c.f2
  have c18 := h.cell 18 rfl (by decide)
  have hcap := h.caps.1
  have hD : Hid (decide ((lowP s).length = 2 * s.c.f + 1) = false) := Lib.hid (by simp [hl])
  have H0 := Lib.hid h
  clear h hl
  go_enter Tryz.func228, Tryz.ntmps228
  go_wp2_with fail
  go_loopw [12] (fun n wr => ∃ k : Nat, k ≤ s.c.f + 1 ∧ n = .int .i64 k ∧ Hid (NdIs B w0 wr x s l ss)) (fun n _ => s.c.f + 1 - (intOf n).toNat)
  case atStart => exact ⟨0, by omega, rfl, H0⟩
  case round =>
    clear H0 c18
    obtain ⟨k, hk, rfl, H1⟩ := hrel
    by_cases hlt : k < s.c.f + 1
    · have hkI : (k : Int) < (s.c.f : Int) + 1 := by omega
      have hk0 : (0 : Int) ≤ (k : Int) := by omega
      have hcI : (s.c.f : Int) + 1 ≤ (x.ic : Int) := by omega
      obtain ⟨i, hi, ci⟩ := H1.out.iAt hlt
      have HI := Lib.hid (nd_installed H1.out k hlt hi)
      have HP := Lib.hid (nprim_any (k : Int) H1.out)
      cases b1 : (insAt s k).on with
      | true =>
        rw [b1] at HI
        clear HP b1
        go_wp2_with fail
        refine HI.out.mono ?_
        rintro e w' ⟨rfl, rfl⟩
        go_wp2_with fail
        go_roundw
        case rel => exact ⟨k + 1, by omega, by go_num, H1⟩
        case measure => simp [intOf]; omega
      | false =>
        rw [b1] at HI
        clear b1
        cases b2 : decide (primaryP s.c.f s.view k = s.id) with
        | false =>
          rw [b2] at HP
          clear b2
          go_wp2_with fail
          refine HI.out.mono ?_
          rintro e w' ⟨rfl, rfl⟩
          go_wp2_with fail
          refine HP.out.mono ?_
          rintro e w' ⟨rfl, n, rfl⟩
          go_wp2_with fail
          go_roundw
          case rel => exact ⟨k + 1, by omega, by go_num, Lib.hid (H1.out.drewN n)⟩
          case measure => simp [intOf]; omega
        | true =>
          rw [b2] at HP
          clear b2
          go_wp2_with fail
          refine HI.out.mono ?_
          rintro e w' ⟨rfl, rfl⟩
          go_wp2_with fail
          refine HP.out.mono ?_
          rintro e w' ⟨rfl, n, rfl⟩
          have HL := Lib.hid (nlowest_any (H1.out.drewN n))
          rw [hD.out] at HL
          clear HP HI
          go_wp2_with fail
          refine HL.out.mono ?_
          rintro e w2 ⟨u, pts, rfl, -, h2⟩
          have H2 := Lib.hid h2.drop.drop
          clear h2 HL H1
          go_wp2_with fail
          go_roundw
          case rel => exact ⟨k + 1, by omega, by go_num, H2⟩
          case measure => simp [intOf]; omega
    · have hkI : decide ((k : Int) < (s.c.f : Int) + 1) = false := by simp; omega
      go_wp2_with fail
      refine bodyPost_end (results_none rfl _ _ _) rfl ?_
      exact ⟨rfl, H1.out⟩

end
end Go.Proofs.YtannckelmojkoaaGreat

/- node: on to another view. -/
namespace Go.Proofs.YtannckelmojkoaaGreat
open Go.RowKit Go.Heap

/-- The first k are turned. -/
def mapTo {α : Type} (g : α → α) (l : List α) (k : Nat) : List α := (l.take k).map g ++ l.drop k
theorem mapTo_zero {α : Type} (g : α → α) (l : List α) : mapTo g l 0 = l := by simp [mapTo]
theorem mapTo_len {α : Type} (g : α → α) (l : List α) (k : Nat) : (mapTo g l k).length = l.length := by simp [mapTo]; omega
theorem mapTo_get {α : Type} (g : α → α) (l : List α) (k j : Nat) (h : j < l.length) : (mapTo g l k)[j]'(by rw [mapTo_len]; exact h) = if j < k then g l[j] else l[j] := by
  unfold mapTo
  by_cases hjk : j < k
  · rw [if_pos hjk, List.getElem_append_left (by simp; omega)]; simp
  · rw [if_neg hjk, List.getElem_append_right (by simp; omega)]
    simp only [List.length_map, List.length_take, List.getElem_drop]
    congr 1; omega
theorem mapTo_step {α : Type} (g : α → α) (l : List α) (k : Nat) (hk : k < l.length) : mapTo g l (k + 1) = (mapTo g l k).set k (g ((mapTo g l k)[k]'(by rw [mapTo_len]; exact hk))) := by
  refine List.ext_getElem (by simp [mapTo_len]) (fun j h1 h2 => ?_)
  rw [mapTo_len] at h1
  rw [mapTo_get g l (k + 1) j h1, List.getElem_set]
  by_cases hkj : k = j
  · subst hkj; rw [if_pos (by omega), if_pos rfl, mapTo_get g l k k h1, if_neg (by omega)]
  · rw [if_neg hkj, mapTo_get g l k j h1]
    by_cases hjk : j < k
    · rw [if_pos hjk, if_pos (by omega)]
    · rw [if_neg hjk, if_neg (by omega)]
theorem mapTo_all {α : Type} (g : α → α) (l : List α) {k : Nat} (h : l.length ≤ k) : mapTo g l k = l.map g := by
  unfold mapTo
  rw [List.take_of_length_le h, List.drop_eq_nil_of_le h, List.append_nil]

/-- A node that has gone on, and said so; nothing has begun. -/
def movedS (w : Int) (vs : Vs) (p : NSt) : NSt :=
  let s := gone w p.1
  let q := sendS (s, p.2) (vcM s.id w vs (certsAll s))
  ({ q.1 with pts := q.1.pts.set s.id.toNat (w, ⟨s.id, vs, certsAll s, sendN (s, p.2) (vcM s.id w vs (certsAll s))⟩) }, q.2)
theorem moveS_eq (w : Int) (vs : Vs) (p : NSt) : moveS w vs p = beginS (movedS w vs p) := rfl

section
variable {B : Nat} {w0 w W W' : World} {ss rs : List Res} {x : Np} {s s' : Ns} {l l' : Nt}

theorem NdIs.putView (h : NdIs B w0 W x s l ss) (v : Int) (h0 : 0 ≤ v) (h1 : v ≤ 12) : NdIs B w0 (W.setCell ⟨x.p, 29, none⟩ (.int .i64 v)) x { s with view := v } l ss := h.put 29 _ (fun _ => rfl) { h.ok with view0 := h0, view1 := h1 } (fun _ c => { c with }) (fun _ => rfl)
theorem NdIs.putSince (h : NdIs B w0 W x s l ss) (v : Int) (h0 : 0 ≤ v) (h1 : v ≤ 1048576) : NdIs B w0 (W.setCell ⟨x.p, 31, none⟩ (.int .i64 v)) x { s with since := v } l ss := h.put 31 _ (fun _ => rfl) { h.ok with since0 := h0, since1 := h1 } (fun _ c => { c with }) (fun _ => rfl)
theorem NdIs.putStart (h : NdIs B w0 W x s l ss) (v : Int) (h0 : 0 ≤ v) (h1 : v ≤ 1048576) : NdIs B w0 (W.setCell ⟨x.p, 32, none⟩ (.int .i64 v)) x { s with start := v } l ss := h.put 32 _ (fun _ => rfl) { h.ok with start0 := h0, start1 := h1 } (fun _ c => { c with }) (fun _ => rfl)

set_option maxHeartbeats 8000000 in
set_option maxRecDepth 100000 in
theorem nmove_any {w : Int} {vv : Value} {vs : Vs} (h : NdIs B w0 W x s l (redR vv 2 vs.length (vsCells vs) :: ss)) (hvn : vs.length ≤ 100000) (hw0 : 0 ≤ w) (hw1 : w ≤ 12) (hn : l.length ≤ 900000000) (ho : s.out.length ≤ 900000000)
    (HBG : ∀ W' ss', NdIs B w0 W' x (movedS w vs (s, l)).1 (movedS w vs (s, l)).2 ss' → Calls Tryz.prog 228 #[ptrV x.p] W' fun e w' => e = .returned (.tuple #[]) ∧ NdIs B w0 w' x (beginS (movedS w vs (s, l))).1 (beginS (movedS w vs (s, l))).2 ss') :
    Calls Tryz.prog 169 #[ptrV x.p, .int .i64 w, vv] W fun e w' => e = .returned (.tuple #[]) ∧ NdIs B w0 w' x (moveS w vs (s, l)).1 (moveS w vs (s, l)).2 ss := by
  obtain ⟨r, hs, -⟩ := h.side
  obtain ⟨a1, c1, rfl⟩ : ∃ a c, vv = .slice a vs.length c := let ⟨a, c, e, _⟩ := red_reads (k := 0) hs rfl; ⟨a, c, e⟩
  have hf1 := h.ok.c.f1
  have hf2 := h.ok.c.f2
  have hcap := h.caps.1
  have hpcap := h.caps.2.1
  have hins := h.ok.ins
  obtain ⟨n0, n1⟩ := And.intro h.ok.now0 h.ok.now1
  obtain ⟨i, hid⟩ : ∃ i : Nat, s.id = i := ⟨s.id.toNat, by have := h.ok.id0; omega⟩
  have hid3 : i ≤ 3 * s.c.f := by have := h.ok.id1; omega
  have HID := Lib.hid hid
  have z29 := h.fz 29
  have c29 := h.cell 29 rfl (by decide)
  have H1 := Lib.hid (h.putView w hw0 hw1)
  have c18 := H1.out.cell 18 rfl (by decide)
  obtain ⟨fin, hfin⟩ : ∃ fin, fin = moveS w vs (s, l) := ⟨_, rfl⟩
  have HFIN : Hid (fin = beginS (movedS w vs (s, l))) := Lib.hid (by rw [hfin, moveS_eq])
  have HBG := Lib.hid HBG
  rw [← hfin]
  clear hs h hid hfin
  go_enter Tryz.func169, Tryz.ntmps169
  go_wp2_with fail
  go_loopw [20] (fun n wr => ∃ k : Nat, k ≤ s.c.f + 1 ∧ n = .int .i64 k ∧ Hid (NdIs B w0 wr x { s with view := w, ins := mapTo (leaveI · w) s.ins k } l (redR (.slice a1 vs.length c1) 2 vs.length (vsCells vs) :: ss))) (fun n _ => s.c.f + 1 - (intOf n).toNat)
  case atStart => exact ⟨0, by omega, rfl, Lib.hid (by rw [mapTo_zero]; exact H1.out)⟩
  case round =>
    clear H1 c18 c29 z29
    obtain ⟨k, hk, rfl, H1⟩ := hrel
    by_cases hlt : k < s.c.f + 1
    · have hkI : (k : Int) < (s.c.f : Int) + 1 := by omega
      have hk0 : (0 : Int) ≤ (k : Int) := by omega
      have hcI : (s.c.f : Int) + 1 ≤ (x.ic : Int) := by omega
      have hki : k < s.ins.length := by omega
      obtain ⟨j, rr, hj, ha, hb⟩ := H1.out.inst k (by simp only [mapTo_len]; exact hki)
      have cj := H1.out.instAt k hj
      have HC := Lib.hid (ai_leave ha w)
      have HB := Lib.hid hb
      have HST := Lib.hid (mapTo_step (leaveI · w) s.ins k hki)
      clear ha hb H1
      go_wp2_with fail
      refine HC.out.mono ?_
      rintro e w2 ⟨rfl, h2⟩
      have HF : Hid (NdIs B w0 w2 x { s with view := w, ins := mapTo (leaveI · w) s.ins (k + 1) } l (redR (.slice a1 vs.length c1) 2 vs.length (vsCells vs) :: ss)) := Lib.hid (by rw [HST.out]; exact HB.out w2 _ _ (keep_leave _ _) h2)
      clear h2 HC HB HST
      go_wp2_with fail
      go_roundw
      case rel => exact ⟨k + 1, by omega, by go_num, HF⟩
      case measure => simp [intOf]; omega
    · have hkI : decide ((k : Int) < (s.c.f : Int) + 1) = false := by simp; omega
      have H2 : Hid (NdIs B w0 wr x { s with view := w, ins := s.ins.map (leaveI · w) } l (redR (.slice a1 vs.length c1) 2 vs.length (vsCells vs) :: ss)) := Lib.hid (by rw [← mapTo_all (leaveI · w) s.ins (by omega : s.ins.length ≤ k)]; exact H1.out)
      have c17 := H2.out.drew.cell 17 rfl (by decide)
      have c31 := H2.out.cell 31 rfl (by decide)
      have c32 := H2.out.cell 32 rfl (by decide)
      have z31 := H2.out.fz 31
      have z32 := H2.out.fz 32
      have HN := Lib.hid (nd_now H2.out.drew)
      have H3 := Lib.hid ((H2.out.putSince s.now n0 n1).putStart s.now n0 n1).drew
      clear H1 H2
      go_wp2_with fail
      refine Held.wp_held [(x.p, 17, [ptrV x.t])] [(5, 0), (10, 0)] [14, 17] [(7, true), (5, true), (3, false)] (by kernel_rfl) (by kernel_rfl) ⟨⟨c17, trivial⟩, trivial⟩ ?_
      simp only [Held.cutAt, Held.walk, List.take_succ_cons, List.take_zero, List.drop_succ_cons, List.drop_zero]
      go_wp2_with fail
      refine HN.out.mono ?_
      rintro e w' ⟨rfl, rfl⟩
      go_wp2_with fail
      refine ⟨⟨⟨c17, trivial⟩, trivial⟩, ?_⟩
      go_wp2_with fail
      refine HN.out.mono ?_
      rintro e w' ⟨rfl, rfl⟩
      go_wp2_with fail
      refine ⟨⟨⟨c17, trivial⟩, trivial⟩, ?_⟩
      go_wp2_with fail
      refine ⟨trivial, ?_⟩
      go_wp2_with fail
      refine ⟨trivial, by rfl, ⟨⟨rfl, .inl ⟨by kernel_rfl, rfl⟩⟩, ⟨rfl, .inl ⟨by kernel_rfl, rfl⟩⟩, trivial⟩, ?_⟩
      generalize World.drew (World.setCell (World.setCell _ _ _) _ _) = w4 at *
      clear c17 c31 c32 z31 z32 HN
      have c23 := H3.out.cell 23 rfl (by decide)
      have HR := Lib.hid (nd_reset H3.out)
      go_wp2_with fail
      refine HR.out.mono ?_
      rintro e w5 ⟨rfl, h5⟩
      have c20 := h5.cell 20 rfl (by decide)
      have HD := Lib.hid (nd_drop h5 w)
      clear H3 h5 HR c23
      go_wp2_with fail
      refine HD.out.mono ?_
      rintro e w6 ⟨dn, rfl, h6⟩
      have h6' : NdIs B w0 w6 x (gone w s) l (redR (.slice a1 vs.length c1) 2 vs.length (vsCells vs) :: ss) := h6
      have HV := Lib.hid (nviewed_any h6')
      clear h6 h6' HD c20
      go_wp2_with fail
      refine HV.out.mono ?_
      rintro e w7 ⟨u, cts, rfl, hcp, hcl, h7⟩
      obtain ⟨r7, hs7, -⟩ := h7.side
      obtain ⟨a2, c2, rfl⟩ : ∃ a c, u = .slice a cts.length c := let ⟨a, c, e, _⟩ := red_reads (k := 2) hs7 rfl; ⟨a, c, e⟩
      have hms : (vcMm s.id w (.slice a1 vs.length c1) vs (.slice a2 cts.length c2) cts).ms = vcM (gone w s).id w vs (certsAll (gone w s)) := by rw [← hcp]; rfl
      have hmo : MmOk (vcMm s.id w (.slice a1 vs.length c1) vs (.slice a2 cts.length c2) cts) := ⟨by simp, hvn, by simp only; omega, by simp⟩
      have h8 : NdIs B w0 (w7.alloc (mmO (vcMm s.id w (.slice a1 vs.length c1) vs (.slice a2 cts.length c2) cts))) x (gone w s) l (mmR (vcMm s.id w (.slice a1 vs.length c1) vs (.slice a2 cts.length c2) cts) (blk w7.heap.size (mmO (vcMm s.id w (.slice a1 vs.length c1) vs (.slice a2 cts.length c2) cts)) :: ss)) := (h7.box (mmO (vcMm s.id w (.slice a1 vs.length c1) vs (.slice a2 cts.length c2) cts))).perm ((List.perm_append_comm (l₁ := [_]) (l₂ := [_, _, _, _, _, _])).append_right ss)
      have HS := Lib.hid (nsend_any h8 hmo hn ho)
      rw [hms] at HS
      obtain ⟨q, hq⟩ : ∃ q : NSt, q = sendS (gone w s, l) (vcM (gone w s).id w vs (certsAll (gone w s))) := ⟨_, rfl⟩
      obtain ⟨sl, hsl⟩ : ∃ sl : Int, sl = sendN (gone w s, l) (vcM (gone w s).id w vs (certsAll (gone w s))) := ⟨_, rfl⟩
      have HMV : Hid (movedS w vs (s, l) = ({ q.1 with pts := q.1.pts.set i (w, ⟨s.id, vs, certsAll (gone w s), sl⟩) }, q.2)) := Lib.hid (by
        have hi : (gone w s).id.toNat = i := by show s.id.toNat = i; rw [HID.out]; rfl
        rw [hq, hsl, ← hi]
        rfl)
      have HQE : Hid (q.1.c = s.c) := Lib.hid (by
        rw [hq]
        unfold sendS
        split <;> rfl)
      have HQF : Hid (q.1.id = s.id ∧ q.1.pts.length = 3 * s.c.f + 1) := Lib.hid (by
        rw [hq]
        unfold sendS
        split
        · exact ⟨rfl, h8.ok.pts⟩
        · exact ⟨rfl, h8.ok.pts⟩)
      have HCP := Lib.hid hcp
      rw [← hq, ← hsl] at HS
      clear h7 hs7 HV hms hq hsl hcp
      have hbk := heap_alloc_new w7 (mmO (vcMm s.id w (.slice a1 vs.length c1) vs (.slice a2 cts.length c2) cts))
      go_wp2_with fail
      refine HS.out.mono ?_
      rintro e w8 ⟨rfl, h9⟩
      have c24 := h9.cell 24 rfl (by decide)
      have c15 : w8.cell? ⟨x.p, 15, none⟩ = some (.int .i64 (i : Int)) := by rw [← HID.out, ← HQF.out.1]; exact h9.cell 15 rfl (by decide)
      obtain ⟨r9, hs9, -⟩ := h9.side
      have hb9 := hs9.blkAt 6 rfl
      have y7 := cell_blk hb9 7 rfl
      have y8 := cell_blk hb9 8 rfl
      have hip : i < q.1.pts.length := by rw [HQF.out.2]; omega
      obtain ⟨⟨qv, qfm, qvv, qvs, qcv, qcts, qsl⟩, -, hcell, hz, -, -, -⟩ := h9.part i hip
      have k0 := hcell 0 (by omega)
      have k1 := hcell 1 (by omega)
      have k2 := hcell 2 (by omega)
      have k3 := hcell 3 (by omega)
      have k4 := hcell 4 (by omega)
      simp only [pqC, ptCells, Nat.add_zero, List.getElem?_cons_zero, List.getElem?_cons_succ] at k0 k1 k2 k3 k4
      have f0 := hz (i * 5)
      have f1 := hz (i * 5 + 1)
      have f2 := hz (i * 5 + 2)
      have f3 := hz (i * 5 + 3)
      have f4 := hz (i * 5 + 4)
      have h10 : NdIs B w0 w8 x q.1 q.2 (redR (.slice a1 vs.length c1) 2 vs.length (vsCells vs) :: redR (.slice a2 cts.length c2) 5 cts.length (cts.flatMap ctCells) :: ctsR cts :: blk w7.heap.size _ :: ss) := h9.onSide (fun r hr => ((hr.drop.drop).dropAt 3 (by simp)).rot)
      have hcf : q.1.c = s.c := by rw [HQE.out]
      have h11 := (h10.putPart (p := (⟨(i : Int), .slice a1 vs.length c1, vs, .slice a2 cts.length c2, cts, sl⟩ : Pt)) i hip w hvn (by simp only; omega)).drop
      have H11 : Hid (NdIs B w0 _ x (movedS w vs (s, l)).1 (movedS w vs (s, l)).2 ss) := Lib.hid (by
        rw [HMV.out]
        have e : (⟨(i : Int), .slice a1 vs.length c1, vs, .slice a2 cts.length c2, cts, sl⟩ : Pt).pa = ⟨s.id, vs, certsAll (gone w s), sl⟩ := by rw [show certsAll (gone w s) = cts.map Ct.cp from HCP.out.symm, HID.out]; rfl
        rw [e] at h11
        exact h11.drew)
      have hiI : (i : Int) < 3 * (s.c.f : Int) + 1 := by omega
      have hi0 : (0 : Int) ≤ (i : Int) := by omega
      have hpI : 3 * (s.c.f : Int) + 1 ≤ (x.pk : Int) := by omega
      rw [hcf] at c24
      clear h9 hs9 hb9 hcell hz h10 h11 HS hcf hip
      go_upto_region 11 with fail
      refine Mix.wp_text2 (by kernel_rfl) (by kernel_rfl) ?_
      go_wp2_with fail
      refine ⟨by rfl, ?_⟩
      generalize World.drew (World.setCell (World.setCell (World.setCell (World.setCell (World.setCell _ _ _) _ _) _ _) _ _) _ _) = w9 at *
      have HBE := Lib.hid (HBG.out _ _ H11.out)
      go_wp2_with fail
      refine HBE.out.mono ?_
      rintro e w10 ⟨rfl, h12⟩
      have HF := Lib.hid h12
      clear h12 HBE
      go_wp2_with fail
      refine bodyPost_end (results_none rfl _ _ _) rfl ?_
      rw [HFIN.out]
      exact ⟨rfl, HF.out⟩

end
end Go.Proofs.YtannckelmojkoaaGreat

/- node: a vote to leave a view is taken. -/
namespace Go.Proofs.YtannckelmojkoaaGreat
open Go.RowKit Go.Heap

/-- The state behind a vote that was put. -/
def putS (node view sl : Int) (s : Ns) : Ns := { s with vo := putL s.vo node view sl }

section
variable {B : Nat} {w0 w W W' : World} {ss rs : List Res} {x : Np} {s s' : Ns} {l l' : Nt}

set_option maxHeartbeats 8000000 in
set_option maxRecDepth 100000 in
theorem nchange_any {m : Mm} {sl : Int} (h : NdIs B w0 W x s l (mmR m ss)) (hv0 : 0 ≤ m.view) (hv1 : m.view ≤ 11) (hn : l.length ≤ 900000000) (ho : s.out.length ≤ 900000000)
    (HBG : enoughP (putS m.fm m.view sl s) m.view = true → ∀ W' ss', NdIs B w0 W' x (movedS (m.view + 1) (picksV (putS m.fm m.view sl s).vo m.view (2 * s.c.f + 1)) (putS m.fm m.view sl s, l)).1 (movedS (m.view + 1) (picksV (putS m.fm m.view sl s).vo m.view (2 * s.c.f + 1)) (putS m.fm m.view sl s, l)).2 ss' → Calls Tryz.prog 228 #[ptrV x.p] W' fun e w' => e = .returned (.tuple #[]) ∧ NdIs B w0 w' x (beginS (movedS (m.view + 1) (picksV (putS m.fm m.view sl s).vo m.view (2 * s.c.f + 1)) (putS m.fm m.view sl s, l))).1 (beginS (movedS (m.view + 1) (picksV (putS m.fm m.view sl s).vo m.view (2 * s.c.f + 1)) (putS m.fm m.view sl s, l))).2 ss') :
    Calls Tryz.prog 179 #[ptrV x.p, .agg (mmA m), .int .i64 sl] W fun e w' => e = .returned (.int .i64 (changeS m.ms sl (s, l)).1) ∧ NdIs B w0 w' x (changeS m.ms sl (s, l)).2.1 (changeS m.ms sl (s, l)).2.2 (mmR m ss) := by
  obtain ⟨kind, fm, view, inst, seq, res, vb, rs, vv, vs, vc, cts, vp, pts⟩ := m
  obtain ⟨r0, hs0, -⟩ := h.side
  obtain ⟨a1, c1, rfl⟩ : ∃ a c, vb = .slice a rs.length c := let ⟨a, c, e, _⟩ := red_reads (k := 5) hs0 rfl; ⟨a, c, e⟩
  obtain ⟨a2, c2, rfl⟩ : ∃ a c, vv = .slice a vs.length c := let ⟨a, c, e, _⟩ := red_reads (k := 4) hs0 rfl; ⟨a, c, e⟩
  obtain ⟨a3, c3, rfl⟩ : ∃ a c, vc = .slice a cts.length c := let ⟨a, c, e, _⟩ := red_reads (k := 2) hs0 rfl; ⟨a, c, e⟩
  obtain ⟨a4, c4, rfl⟩ : ∃ a c, vp = .slice a pts.length c := let ⟨a, c, e, _⟩ := red_reads (k := 0) hs0 rfl; ⟨a, c, e⟩
  simp only at hv0 hv1 HBG
  obtain ⟨fin, hfin⟩ : ∃ fin, fin = changeS (Mm.ms ⟨kind, fm, view, inst, seq, res, .slice a1 rs.length c1, rs, .slice a2 vs.length c2, vs, .slice a3 cts.length c3, cts, .slice a4 pts.length c4, pts⟩) sl (s, l) := ⟨_, rfl⟩
  have HFIN : Hid (fin = if view < s.view ∨ !putB s.vo fm view then (1, (s, l)) else (0, afterVote view (putS fm view sl s, l))) := Lib.hid hfin
  rw [← hfin]
  generalize hms : (⟨kind, fm, view, inst, seq, res, .slice a1 rs.length c1, rs, .slice a2 vs.length c2, vs, .slice a3 cts.length c3, cts, .slice a4 pts.length c4, pts⟩ : Mm) = m at h ⊢
  have H0 := Lib.hid (h.box (mmO m))
  have hb := heap_alloc_new W (mmO m)
  have HQ := Lib.hid HBG
  subst hms
  have y1 := cell_blk hb 1 rfl
  have y2 := cell_blk hb 2 rfl
  have c29 := H0.out.cell 29 rfl (by decide)
  have c20 := H0.out.cell 20 rfl (by decide)
  clear hs0 h hfin HBG
  cases b1 : decide (view < s.view) with
  | true =>
    have hlt : view < s.view := by simpa using b1
    have e1 : fin = (1, (s, l)) := by rw [HFIN.out, if_pos (.inl hlt)]
    have HF := Lib.hid H0.out.drop
    subst e1
    clear HFIN hlt
    go_enter Tryz.func179, Tryz.ntmps179
    go_upto_region 1 with fail
    refine Mix.wp_text2 (by kernel_rfl) (by kernel_rfl) ?_
    go_wp2_with fail
    refine ⟨by rfl, ?_⟩
    go_wp2_with fail
    go_ret
    exact ⟨rfl, HF.out.drew⟩
  | false =>
    have hge : ¬ view < s.view := by simpa using b1
    have HP := Lib.hid (nd_put H0.out.drew fm view sl)
    cases b2 : putB s.vo fm view with
    | false =>
      have e1 : fin = (1, (s, l)) := by rw [HFIN.out, if_pos (.inr (by rw [b2]; rfl))]
      have e2 : putL s.vo fm view sl = s.vo := by unfold putL; rw [b2]; rfl
      rw [b2, e2] at HP
      subst e1
      clear HFIN hge e2
      go_enter Tryz.func179, Tryz.ntmps179
      go_upto_region 1 with fail
      refine Mix.wp_text2 (by kernel_rfl) (by kernel_rfl) ?_
      go_wp2_with fail
      refine HP.out.mono ?_
      rintro e w2 ⟨rfl, h2⟩
      have HF := Lib.hid h2.drop
      clear h2 HP
      go_wp2_with fail
      refine ⟨by rfl, ?_⟩
      go_wp2_with fail
      go_ret
      exact ⟨rfl, HF.out⟩
    | true =>
      obtain ⟨fin2, hf2⟩ : ∃ fin2, fin2 = afterVote view (putS fm view sl s, l) := ⟨_, rfl⟩
      have HF2 := Lib.hid hf2
      have e1 : fin = (0, fin2) := by rw [hf2, HFIN.out, if_neg (by rw [b2]; simp only [Bool.not_true, Bool.false_eq_true, or_false]; exact hge)]
      rw [b2] at HP
      subst e1
      clear HFIN hge hf2
      go_enter Tryz.func179, Tryz.ntmps179
      go_upto_region 1 with fail
      refine Mix.wp_text2 (by kernel_rfl) (by kernel_rfl) ?_
      go_wp2_with fail
      refine HP.out.mono ?_
      rintro e w2 ⟨rfl, h2⟩
      have H2 : Hid (NdIs B w0 w2 x (putS fm view sl s) l _) := Lib.hid h2
      obtain ⟨r2, hs2, -⟩ := h2.side
      have hb2 := hs2.blkAt 0 rfl
      have u2 := cell_blk hb2 2 rfl
      have d20 := h2.cell 20 rfl (by decide)
      have HE := Lib.hid (nd_enough H2.out.drew view)
      clear h2 HP hs2 hb2 y1 y2 c29 c20 hb
      go_wp2_with fail
      refine ⟨by rfl, ?_⟩
      go_upto_region 3 with fail
      refine Mix.wp_text2 (by kernel_rfl) (by kernel_rfl) ?_
      go_wp2_with fail
      refine HE.out.mono ?_
      rintro e w3 ⟨v', rfl, h3⟩
      clear HE H2 u2 d20
      cases b3 : decide ((picksV (putS fm view sl s).vo view (2 * s.c.f + 1)).length = 2 * s.c.f + 1) with
      | false =>
        have hne : ¬ (picksV (putS fm view sl s).vo view (2 * s.c.f + 1)).length = 2 * s.c.f + 1 := by simpa using b3
        have e3 : afterVote view (putS fm view sl s, l) = (putS fm view sl s, l) := by unfold afterVote enoughP; rw [if_neg (by rw [show decide ((picksV (putS fm view sl s).vo view (2 * (putS fm view sl s).c.f + 1)).length = 2 * (putS fm view sl s).c.f + 1) = false from b3]; simp)]
        have HF : Hid (NdIs B w0 w3 x fin2.1 fin2.2 _) := Lib.hid (by rw [HF2.out, e3]; exact h3.drop.drop)
        have hb3 : decide ((picksV (putS fm view sl s).vo view (2 * (putS fm view sl s).c.f + 1)).length = 2 * (putS fm view sl s).c.f + 1) = false := b3
        rw [hb3]
        obtain ⟨a9, c9, hv9⟩ : ∃ a c, v' = .slice a 0 c := by
          rw [if_neg (show ¬ (picksV (putS fm view sl s).vo view (2 * (putS fm view sl s).c.f + 1)).length = 2 * (putS fm view sl s).c.f + 1 from hne)] at h3
          obtain ⟨r3, hs3, -⟩ := h3.side
          obtain ⟨a, c, e, _⟩ := red_reads (k := 0) hs3 rfl
          exact ⟨a, c, e⟩
        clear h3 hne e3 hb3
        subst hv9
        go_wp2_with fail
        refine ⟨by rfl, ?_⟩
        go_wp2_with fail
        go_ret
        exact ⟨rfl, HF.out⟩
      | true =>
        have heq : (picksV (putS fm view sl s).vo view (2 * s.c.f + 1)).length = 2 * s.c.f + 1 := by simpa using b3
        have hen : enoughP (putS fm view sl s) view = true := b3
        have e3 : afterVote view (putS fm view sl s, l) = moveS (view + 1) (picksV (putS fm view sl s).vo view (2 * s.c.f + 1)) (putS fm view sl s, l) := by unfold afterVote; rw [if_pos hen]; rfl
        have HF3 := Lib.hid (HF2.out.trans e3)
        have hb3 : decide ((picksV (putS fm view sl s).vo view (2 * (putS fm view sl s).c.f + 1)).length = 2 * (putS fm view sl s).c.f + 1) = true := b3
        rw [hb3]
        have h4 : NdIs B w0 w3 x (putS fm view sl s) l (redR v' 2 (picksV (putS fm view sl s).vo view (2 * s.c.f + 1)).length (vsCells (picksV (putS fm view sl s).vo view (2 * s.c.f + 1))) :: blk W.heap.size (mmO ⟨kind, fm, view, inst, seq, res, .slice a1 rs.length c1, rs, .slice a2 vs.length c2, vs, .slice a3 cts.length c3, cts, .slice a4 pts.length c4, pts⟩) :: mmR ⟨kind, fm, view, inst, seq, res, .slice a1 rs.length c1, rs, .slice a2 vs.length c2, vs, .slice a3 cts.length c3, cts, .slice a4 pts.length c4, pts⟩ ss) := by
          have := h3
          rw [if_pos (show (picksV (putS fm view sl s).vo view (2 * (putS fm view sl s).c.f + 1)).length = 2 * (putS fm view sl s).c.f + 1 from heq)] at this
          exact this
        obtain ⟨r4, hs4, -⟩ := h4.side
        obtain ⟨a9, c9, rfl⟩ : ∃ a c, v' = .slice a (picksV (putS fm view sl s).vo view (2 * s.c.f + 1)).length c := by
          obtain ⟨a, c, e, _⟩ := red_reads (k := 0) hs4 rfl
          exact ⟨a, c, e⟩
        have y2 := cell_blk (hs4.blkAt 1 rfl) 2 rfl
        have HM := Lib.hid (nmove_any h4 (by rw [heq]; have := h4.ok.c.f2; have : s.c.f ≤ 4 := this; omega) (by omega) (by omega) hn ho (HQ.out hen))
        clear h3 h4 hs4 heq hen e3 hb3 HQ
        go_wp2_with fail
        refine ⟨by rfl, ?_⟩
        go_wp2_with fail
        refine HM.out.mono ?_
        rintro e w5 ⟨rfl, h5⟩
        have HF : Hid (NdIs B w0 w5 x fin2.1 fin2.2 _) := Lib.hid (by rw [HF3.out]; exact h5.drop)
        clear h5 HM
        go_wp2_with fail
        go_ret
        exact ⟨rfl, HF.out⟩

end
end Go.Proofs.YtannckelmojkoaaGreat

/- node: a message by its kind: a vote to leave a view; counts. -/
namespace Go.Proofs.YtannckelmojkoaaGreat
open Go.RowKit Go.Heap

section
variable {B : Nat} {w0 w W W' : World} {ss rs : List Res} {x : Np} {s s' : Ns} {l l' : Nt}

theorem NdIs.putUsed (h : NdIs B w0 W x s l ss) (v : Int) (h0 : 0 ≤ v) : NdIs B w0 (W.setCell ⟨x.p, 35, none⟩ (.int .i64 v)) x { s with used := v } l ss := h.put 35 _ (fun _ => rfl) { h.ok with used0 := h0 } (fun _ c => { c with }) (fun _ => rfl)
theorem NdIs.putBad (h : NdIs B w0 W x s l ss) (v : Int) (h0 : 0 ≤ v) : NdIs B w0 (W.setCell ⟨x.p, 36, none⟩ (.int .i64 v)) x { s with bad := v } l ss := h.put 36 _ (fun _ => rfl) { h.ok with bad0 := h0 } (fun _ c => { c with }) (fun _ => rfl)
theorem NdIs.putStale (h : NdIs B w0 W x s l ss) (v : Int) (h0 : 0 ≤ v) : NdIs B w0 (W.setCell ⟨x.p, 37, none⟩ (.int .i64 v)) x { s with stale := v } l ss := h.put 37 _ (fun _ => rfl) { h.ok with stale0 := h0 } (fun _ c => { c with }) (fun _ => rfl)
theorem NdIs.putFull (h : NdIs B w0 W x s l ss) (v : Int) (h0 : 0 ≤ v) : NdIs B w0 (W.setCell ⟨x.p, 39, none⟩ (.int .i64 v)) x { s with full := v } l ss := h.put 39 _ (fun _ => rfl) { h.ok with full0 := h0 } (fun _ c => { c with }) (fun _ => rfl)

/-- What a function of messages does: take, and what it calls. -/
def TakeC (B : Nat) (w0 : World) (x : Np) (s : Ns) (l : Nt) (fn : FuncId) (m : Mm) (sl : Int) (fin : Int × NSt) : Prop :=
  ∀ W ss, NdIs B w0 W x s l (mmR m ss) → Calls Tryz.prog fn #[ptrV x.p, .agg (mmA m), .int .i64 sl] W fun e w' => e = .returned (.int .i64 fin.1) ∧ NdIs B w0 w' x fin.2.1 fin.2.2 (mmR m ss)

set_option maxHeartbeats 8000000 in
set_option maxRecDepth 100000 in
/-- A vote to leave a view goes to change. -/
theorem ntake_chg {m : Mm} {sl : Int} {fin : Int × NSt} (hk : m.kind = 6) (HC : TakeC B w0 x s l 179 m sl fin) : TakeC B w0 x s l 98 m sl fin := by
  intro W ss h
  obtain ⟨kind, fm, view, inst, seq, res, vb, rs, vv, vs, vc, cts, vp, pts⟩ := m
  obtain ⟨r0, hs0, -⟩ := h.side
  obtain ⟨a1, c1, rfl⟩ : ∃ a c, vb = .slice a rs.length c := let ⟨a, c, e, _⟩ := red_reads (k := 5) hs0 rfl; ⟨a, c, e⟩
  obtain ⟨a2, c2, rfl⟩ : ∃ a c, vv = .slice a vs.length c := let ⟨a, c, e, _⟩ := red_reads (k := 4) hs0 rfl; ⟨a, c, e⟩
  obtain ⟨a3, c3, rfl⟩ : ∃ a c, vc = .slice a cts.length c := let ⟨a, c, e, _⟩ := red_reads (k := 2) hs0 rfl; ⟨a, c, e⟩
  obtain ⟨a4, c4, rfl⟩ : ∃ a c, vp = .slice a pts.length c := let ⟨a, c, e, _⟩ := red_reads (k := 0) hs0 rfl; ⟨a, c, e⟩
  simp only at hk
  subst hk
  have H8 := Lib.hid (HC _ _ (h.alloc (mmO ⟨6, fm, view, inst, seq, res, .slice a1 rs.length c1, rs, .slice a2 vs.length c2, vs, .slice a3 cts.length c3, cts, .slice a4 pts.length c4, pts⟩)))
  have hb := heap_alloc_new W (mmO ⟨6, fm, view, inst, seq, res, .slice a1 rs.length c1, rs, .slice a2 vs.length c2, vs, .slice a3 cts.length c3, cts, .slice a4 pts.length c4, pts⟩)
  clear hs0 h HC
  go_enter Tryz.func98, Tryz.ntmps98
  go_wp2_with fail
  refine H8.out.mono ?_
  rintro e w2 ⟨rfl, h2⟩
  have HF := Lib.hid h2
  clear h2 H8 hb
  go_wp2_with fail
  go_ret
  exact ⟨rfl, HF.out⟩

end
end Go.Proofs.YtannckelmojkoaaGreat
