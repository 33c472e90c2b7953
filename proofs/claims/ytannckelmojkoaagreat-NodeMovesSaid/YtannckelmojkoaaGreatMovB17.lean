/- Parts of the proof, one behind the other. -/
import Derived.Test.YtannckelmojkoaaGreatMovB16

/- pack: lists, certificates, parts; the calls that hand bytes back. -/
namespace Go.Proofs.YtannckelmojkoaaGreat
open Go.RowKit Go.Heap

def wList {α : Type} (one : Wr → α → Wr) (s : Wr) (l : List α) : Wr := if 256 < l.length then ⟨s.out, true⟩ else l.foldl one (wNum s l.length)
def wCert (s : Wr) (c : Cp) : Wr := wList wVote (wList wReq (wNum (wNum (wNum s c.view) c.inst) c.seq) c.rs) c.vs
def wPart (s : Wr) (p : Pa) : Wr := wNum (wList wCert (wList wVote (wNum s p.fm) p.vs) p.cs) p.sl

theorem fold_len {α : Type} (one : Wr → α → Wr) (K : Nat) (h : ∀ s x, (one s x).out.length ≤ s.out.length + K) : ∀ (l : List α) (s : Wr), (l.foldl one s).out.length ≤ s.out.length + K * l.length
  | [], s => by simp
  | x :: l, s => by have h1 := fold_len one K h l (one s x); have h2 := h s x; rw [List.foldl_cons, List.length_cons, Nat.mul_add]; omega
theorem wList_len {α : Type} (one : Wr → α → Wr) (K : Nat) (h : ∀ s x, (one s x).out.length ≤ s.out.length + K) (l : List α) (s : Wr) : (wList one s l).out.length ≤ s.out.length + 6 + K * 256 := by
  unfold wList
  split
  · simp; omega
  · have h1 := fold_len one K h l (wNum s l.length)
    have h2 := wNum_len s l.length
    have h3 : K * l.length ≤ K * 256 := Nat.mul_le_mul_left _ (by omega)
    omega
theorem wCert_len (s : Wr) (c : Cp) : (wCert s c).out.length ≤ s.out.length + 12318 := by
  have h1 := wList_len wVote 12 wVote_len c.vs (wList wReq (wNum (wNum (wNum s c.view) c.inst) c.seq) c.rs)
  have h2 := wList_len wReq 36 wReq_len c.rs (wNum (wNum (wNum s c.view) c.inst) c.seq)
  have h3 := wNums_len [c.view, c.inst, c.seq] s
  simp only [List.foldl_cons, List.foldl_nil, List.length_cons, List.length_nil] at h3
  unfold wCert; omega
theorem wPart_len (s : Wr) (p : Pa) : (wPart s p).out.length ≤ s.out.length + 3156510 := by
  have h0 := wNum_len s p.fm
  have h1 := wList_len wVote 12 wVote_len p.vs (wNum s p.fm)
  have h2 := wList_len wCert 12318 wCert_len p.cs (wList wVote (wNum s p.fm) p.vs)
  have h3 := wNum_len (wList wCert (wList wVote (wNum s p.fm) p.vs) p.cs) p.sl
  unfold wPart; omega

section
variable {B : Nat} {w0 w W W' : World} {ss rs : List Res} {p : Nat} {v bv : Value} {s : Wr}

theorem own_two {a b c d : Res} (h : Own B w0 W (a :: b :: c :: d :: rs)) : Own B w0 W (c :: d :: a :: b :: rs) := ((h.front 2 rfl rfl).front 3 rfl rfl).swap
theorem own_three {a b e c d : Res} (h : Own B w0 W (a :: b :: e :: c :: d :: rs)) : Own B w0 W (c :: d :: a :: b :: e :: rs) := ((h.front 3 rfl rfl).front 4 rfl rfl).swap
theorem ms_imm {r : Res} (h : r.M = []) : Go.Heap.Ms (r :: rs) = Go.Heap.Ms rs := by simp [Go.Heap.Ms, h]
theorem cts_pick (h : Own B w0 W rs) (k : Nat) {cts : List Ct} (e : rs[k]? = some (ctsR cts)) {c : Ct} (hc : c ∈ cts) : Own B w0 W (redR c.vb 6 c.rs.length (rqsCells c.rs) :: redR c.vv 2 c.vs.length (vsCells c.vs) :: rs) := by
  obtain ⟨D, ⟨h1, hlt⟩, h2, h3⟩ := h.get k e
  have g1 : Own B w0 W (redR c.vv 2 c.vs.length (vsCells c.vs) :: rs) := h.new (Upd.refl [] _) ⟨D, ⟨(h1 c hc).v, hlt⟩, h2, h3⟩ (by simp [redR, imm])
  refine g1.new (Upd.refl [] _) ⟨D, ⟨(h1 c hc).b, hlt⟩, ?_, ?_⟩ (by simp [redR, imm])
  · rw [ms_imm rfl]; exact h2
  · rw [ms_imm rfl]; exact h3
theorem cts_lens (h : Own B w0 W rs) (k : Nat) {cts : List Ct} (e : rs[k]? = some (ctsR cts)) {c : Ct} (hc : c ∈ cts) : c.rs.length ≤ 100000 ∧ c.vs.length ≤ 100000 := by
  obtain ⟨D, ⟨h1, hlt⟩, h2, h3⟩ := h.get k e
  exact ⟨(h1 c hc).bn, (h1 c hc).vn⟩
theorem pts_pick (h : Own B w0 W rs) (k : Nat) {pts : List Pt} (e : rs[k]? = some (ptsR pts)) {c : Pt} (hc : c ∈ pts) : Own B w0 W (redR c.vv 2 c.vs.length (vsCells c.vs) :: redR c.cv 5 c.cts.length (c.cts.flatMap ctCells) :: ctsR c.cts :: rs) := by
  obtain ⟨D, ⟨h1, hlt⟩, h2, h3⟩ := h.get k e
  have g1 : Own B w0 W (ctsR c.cts :: rs) := h.new (Upd.refl [] _) ⟨D, ⟨(h1 c hc).cs, hlt⟩, h2, h3⟩ (by simp [ctsR, imm])
  have g2 : Own B w0 W (redR c.cv 5 c.cts.length (c.cts.flatMap ctCells) :: ctsR c.cts :: rs) := by
    refine g1.new (Upd.refl [] _) ⟨D, ⟨(h1 c hc).c, hlt⟩, ?_, ?_⟩ (by simp [redR, imm])
    · rw [ms_imm rfl]; exact h2
    · rw [ms_imm rfl]; exact h3
  refine g2.new (Upd.refl [] _) ⟨D, ⟨(h1 c hc).v, hlt⟩, ?_, ?_⟩ (by simp [redR, imm])
  · rw [ms_imm rfl, ms_imm rfl]; exact h2
  · rw [ms_imm rfl, ms_imm rfl]; exact h3
theorem pts_lens (h : Own B w0 W rs) (k : Nat) {pts : List Pt} (e : rs[k]? = some (ptsR pts)) {c : Pt} (hc : c ∈ pts) : c.vs.length ≤ 100000 ∧ c.cts.length ≤ 100000 := by
  obtain ⟨D, ⟨h1, hlt⟩, h2, h3⟩ := h.get k e
  exact ⟨(h1 c hc).vn, (h1 c hc).cn⟩


theorem listReq_big {l : List (Rq)} {lv : Value} (h : Own B w0 W (wrL p v s (redR lv 6 l.length (rqsCells l) :: ss))) (hb : 256 < l.length) (g : Value) :
    Calls Tryz.prog 295 #[.pointer (some ⟨p, 0, none⟩), lv, g] W fun e w' => e = .returned (.tuple #[]) ∧ ∃ v', Own B w0 w' (wrL p v' (wList wReq s l) (redR lv 6 l.length (rqsCells l) :: ss)) := by
  have hk : (256 : Int) < (l.length : Int) := by omega
  have x1 : W.cell? ⟨p, 1, none⟩ = some (.bool s.bad) := cell_blk h.blk_out 1 rfl
  have z1 := block_frozen h.blk_out 1
  have HE := Lib.hid (show Own B w0 (W.setCell ⟨p, 1, none⟩ (.bool true)) (wrL p v (wList wReq s l) (redR lv 6 l.length (rqsCells l) :: ss)) by
    unfold wList
    rw [if_pos (by simpa using hb)]
    exact Own.storeTo h 1 (.bool true) rfl)
  obtain ⟨ao, cap, rfl, hcap, -⟩ := red_reads (k := 2) h rfl
  clear h hb
  go_enter Tryz.func295, Tryz.ntmps295
  go_wp2_with fail
  refine bodyPost_ret (results_none rfl _ _ _) rfl ?_
  exact ⟨rfl, v, HE.out⟩

set_option maxHeartbeats 4000000 in
set_option maxRecDepth 100000 in
theorem listReq_any {l : List (Rq)} {lv : Value} (h : Own B w0 W (wrL p v s (redR lv 6 l.length (rqsCells l) :: ss))) (hn : l.length ≤ 100000) (hl : s.out.length ≤ 50000000000) :
    Calls Tryz.prog 295 #[.pointer (some ⟨p, 0, none⟩), lv, .func (.func 296) #[] #[]] W fun e w' => e = .returned (.tuple #[]) ∧ ∃ v', Own B w0 w' (wrL p v' (wList wReq s l) (redR lv 6 l.length (rqsCells l) :: ss)) := by
  by_cases hb : 256 < l.length
  · exact listReq_big h hb _
  have hk : decide ((256 : Int) < (l.length : Int)) = false := by simp; omega
  have HE : Hid (wList wReq s l = l.foldl wReq (wNum s l.length)) := Lib.hid (by unfold wList; rw [if_neg (by simpa using hb)]; first | done | simp)
  have HN := Lib.hid (numbers_lit [(l.length : Int)] #[.int .i64 l.length] 1 h W.heap.size rfl rfl rfl (by simp; omega) (by simp))
  have hg : (wNum s l.length).out.length ≤ s.out.length + 6 := wNum_len s l.length
  simp only [List.foldl_cons, List.foldl_nil] at HN
  obtain ⟨ao, cap, rfl, hcap, -⟩ := red_reads (k := 2) h rfl
  generalize wNum s l.length = s1 at *
  clear h
  go_enter Tryz.func295, Tryz.ntmps295
  go_wp2_with fail
  refine HN.out.mono ?_
  rintro e w1 ⟨rfl, v1, h2⟩
  have H := Lib.hid h2
  clear h2 HN
  go_wp2_with fail
  go_loopw [21] (fun i wr => ∃ (k : Nat) (v : Value), i = .int .i64 k ∧ k ≤ l.length ∧ Hid (Own B w0 wr (wrL p v ((l.take k).foldl wReq s1) (redR (.slice ao l.length cap) 6 l.length (rqsCells l) :: ss)))) (fun i _ => l.length - (intOf i).toNat)
  case atStart => exact ⟨0, v1, rfl, by omega, H⟩
  case round =>
    clear H
    obtain ⟨k, v, rfl, hk2, H⟩ := hrel
    by_cases hlt : k < l.length
    · have hkI : (k : Int) < (l.length : Int) := by omega
      have hk0 : (0 : Int) ≤ (k : Int) := by omega
      have hcI : (l.length : Int) ≤ (cap : Int) := by omega
      obtain ⟨ao', cap', e0, -, -, -, -, h5⟩ := red_reads (k := 2) H.out rfl
      simp only [Value.slice.injEq, true_and] at e0
      obtain ⟨rfl, -⟩ := e0
      obtain ⟨b, o, rfl, -, hc⟩ := h5 (by omega)

      obtain ⟨q0, q1, q2, q3, q4, q5⟩ := bat_cells hc k l[k] (by simp)
      have hlen := fold_len wReq 36 wReq_len (l.take k) s1
      have hm : min k l.length = k := by omega
      rw [List.length_take, hm] at hlen
      have HC := Lib.hid (wreq_any l[k] (H.out.alloc (rqBox l[k])) (by have := Nat.mul_le_mul_left 36 (show k ≤ 256 by omega); omega))
      have HS := Lib.hid (foldl_take wReq l k (by simpa using hlt) s1)
      clear hc h5 H hlen
      generalize l[k] = x at *
      go_wp2_with fail
      refine HC.out.mono ?_
      rintro e w2 ⟨rfl, v2, h3⟩
      have H3 : Hid (Own B w0 w2 (wrL p v2 ((l.take (k + 1)).foldl wReq s1) (redR (.slice (some ⟨b, o, none⟩) l.length cap) 6 l.length (rqsCells l) :: ss))) := Lib.hid (by rw [HS.out]; simpa using h3)
      clear h3 HC
      go_wp2_with fail
      go_roundw
      case rel => exact ⟨k + 1, v2, by go_num, by omega, H3⟩
      case measure => simp [intOf]; omega
    · have hkI : decide ((k : Int) < (l.length : Int)) = false := by simp; omega
      have e : k = l.length := by omega
      subst e
      go_wp2_with fail
      refine bodyPost_end (results_none rfl _ _ _) rfl ?_
      have := H.out
      rw [List.take_of_length_le (by simp)] at this
      rw [HE.out]
      exact ⟨rfl, v, this⟩


theorem listVote_big {l : List (Int × Int)} {lv : Value} (h : Own B w0 W (wrL p v s (redR lv 2 l.length (vsCells l) :: ss))) (hb : 256 < l.length) (g : Value) :
    Calls Tryz.prog 298 #[.pointer (some ⟨p, 0, none⟩), lv, g] W fun e w' => e = .returned (.tuple #[]) ∧ ∃ v', Own B w0 w' (wrL p v' (wList wVote s l) (redR lv 2 l.length (vsCells l) :: ss)) := by
  have hk : (256 : Int) < (l.length : Int) := by omega
  have x1 : W.cell? ⟨p, 1, none⟩ = some (.bool s.bad) := cell_blk h.blk_out 1 rfl
  have z1 := block_frozen h.blk_out 1
  have HE := Lib.hid (show Own B w0 (W.setCell ⟨p, 1, none⟩ (.bool true)) (wrL p v (wList wVote s l) (redR lv 2 l.length (vsCells l) :: ss)) by
    unfold wList
    rw [if_pos (by simpa using hb)]
    exact Own.storeTo h 1 (.bool true) rfl)
  obtain ⟨ao, cap, rfl, hcap, -⟩ := red_reads (k := 2) h rfl
  clear h hb
  go_enter Tryz.func298, Tryz.ntmps298
  go_wp2_with fail
  refine bodyPost_ret (results_none rfl _ _ _) rfl ?_
  exact ⟨rfl, v, HE.out⟩

set_option maxHeartbeats 4000000 in
set_option maxRecDepth 100000 in
theorem listVote_any {l : List (Int × Int)} {lv : Value} (h : Own B w0 W (wrL p v s (redR lv 2 l.length (vsCells l) :: ss))) (hn : l.length ≤ 100000) (hl : s.out.length ≤ 50000000000) :
    Calls Tryz.prog 298 #[.pointer (some ⟨p, 0, none⟩), lv, .func (.func 299) #[] #[]] W fun e w' => e = .returned (.tuple #[]) ∧ ∃ v', Own B w0 w' (wrL p v' (wList wVote s l) (redR lv 2 l.length (vsCells l) :: ss)) := by
  by_cases hb : 256 < l.length
  · exact listVote_big h hb _
  have hk : decide ((256 : Int) < (l.length : Int)) = false := by simp; omega
  have HE : Hid (wList wVote s l = l.foldl wVote (wNum s l.length)) := Lib.hid (by unfold wList; rw [if_neg (by simpa using hb)]; first | done | simp)
  have HN := Lib.hid (numbers_lit [(l.length : Int)] #[.int .i64 l.length] 1 h W.heap.size rfl rfl rfl (by simp; omega) (by simp))
  have hg : (wNum s l.length).out.length ≤ s.out.length + 6 := wNum_len s l.length
  simp only [List.foldl_cons, List.foldl_nil] at HN
  obtain ⟨ao, cap, rfl, hcap, -⟩ := red_reads (k := 2) h rfl
  generalize wNum s l.length = s1 at *
  clear h
  go_enter Tryz.func298, Tryz.ntmps298
  go_wp2_with fail
  refine HN.out.mono ?_
  rintro e w1 ⟨rfl, v1, h2⟩
  have H := Lib.hid h2
  clear h2 HN
  go_wp2_with fail
  go_loopw [21] (fun i wr => ∃ (k : Nat) (v : Value), i = .int .i64 k ∧ k ≤ l.length ∧ Hid (Own B w0 wr (wrL p v ((l.take k).foldl wVote s1) (redR (.slice ao l.length cap) 2 l.length (vsCells l) :: ss)))) (fun i _ => l.length - (intOf i).toNat)
  case atStart => exact ⟨0, v1, rfl, by omega, H⟩
  case round =>
    clear H
    obtain ⟨k, v, rfl, hk2, H⟩ := hrel
    by_cases hlt : k < l.length
    · have hkI : (k : Int) < (l.length : Int) := by omega
      have hk0 : (0 : Int) ≤ (k : Int) := by omega
      have hcI : (l.length : Int) ≤ (cap : Int) := by omega
      obtain ⟨ao', cap', e0, -, -, -, -, h5⟩ := red_reads (k := 2) H.out rfl
      simp only [Value.slice.injEq, true_and] at e0
      obtain ⟨rfl, -⟩ := e0
      obtain ⟨b, o, rfl, -, hc⟩ := h5 (by omega)

      obtain ⟨q0, q1⟩ := vts_cells hc k l[k] (by simp)
      have hlen := fold_len wVote 12 wVote_len (l.take k) s1
      have hm : min k l.length = k := by omega
      rw [List.length_take, hm] at hlen
      have HC := Lib.hid (wvote_any l[k] (H.out.alloc (.cells #[.int .i64 l[k].1, .int .i64 l[k].2] 177 (0, 0))) (by have := Nat.mul_le_mul_left 12 (show k ≤ 256 by omega); omega))
      have HS := Lib.hid (foldl_take wVote l k (by simpa using hlt) s1)
      clear hc h5 H hlen
      generalize l[k] = x at *
      go_wp2_with fail
      refine HC.out.mono ?_
      rintro e w2 ⟨rfl, v2, h3⟩
      have H3 : Hid (Own B w0 w2 (wrL p v2 ((l.take (k + 1)).foldl wVote s1) (redR (.slice (some ⟨b, o, none⟩) l.length cap) 2 l.length (vsCells l) :: ss))) := Lib.hid (by rw [HS.out]; simpa using h3)
      clear h3 HC
      go_wp2_with fail
      go_roundw
      case rel => exact ⟨k + 1, v2, by go_num, by omega, H3⟩
      case measure => simp [intOf]; omega
    · have hkI : decide ((k : Int) < (l.length : Int)) = false := by simp; omega
      have e : k = l.length := by omega
      subst e
      go_wp2_with fail
      refine bodyPost_end (results_none rfl _ _ _) rfl ?_
      have := H.out
      rw [List.take_of_length_le (by simp)] at this
      rw [HE.out]
      exact ⟨rfl, v, this⟩


set_option maxHeartbeats 4000000 in
set_option maxRecDepth 100000 in
theorem wcert_any (c : Ct) (h : Own B w0 W (wrL p v s (redR c.vb 6 c.rs.length (rqsCells c.rs) :: redR c.vv 2 c.vs.length (vsCells c.vs) :: ss))) (hr : c.rs.length ≤ 100000) (hv : c.vs.length ≤ 100000) (hl : s.out.length ≤ 40000000000) :
    Calls Tryz.prog 301 #[.pointer (some ⟨p, 0, none⟩), ctAgg c] W fun e w' => e = .returned (.tuple #[]) ∧ ∃ v', Own B w0 w' (wrL p v' (wCert s c.cp) (redR c.vb 6 c.rs.length (rqsCells c.rs) :: redR c.vv 2 c.vs.length (vsCells c.vs) :: ss)) := by
  obtain ⟨view, inst, seq, vb, vv, rs, vs⟩ := c
  simp only [Ct.cp] at h hr hv ⊢
  obtain ⟨a1, c1, rfl, -, -⟩ := red_reads (k := 2) h rfl
  obtain ⟨a2, c2, rfl, -, -⟩ := red_reads (k := 3) h rfl
  have h1 : Own B w0 (W.alloc (ctO view inst seq (.slice a1 rs.length c1) (.slice a2 vs.length c2))) (wrL p v s (blk W.heap.size (ctO view inst seq (.slice a1 rs.length c1) (.slice a2 vs.length c2)) :: redR (.slice a1 rs.length c1) 6 rs.length (rqsCells rs) :: redR (.slice a2 vs.length c2) 2 vs.length (vsCells vs) :: ss)) := (h.box _).rot'
  have hb := h1.blkAt 2 rfl
  have x0 := cell_blk hb 0 rfl
  have x1 := cell_blk hb 1 rfl
  have x2 := cell_blk hb 2 rfl
  have HE : Hid (wCert s ⟨view, inst, seq, rs, vs⟩ = wList wVote (wList wReq ([view, inst, seq].foldl wNum s) rs) vs) := Lib.hid rfl
  have g1 := wNums_len [view, inst, seq] s
  have HN := Lib.hid (numbers_lit [view, inst, seq] #[.int .i64 view, .int .i64 inst, .int .i64 seq] 3 h1 (W.heap.size + 1) hs_alloc rfl rfl (by simp; omega) (by simp))
  simp only [List.length_cons, List.length_nil] at g1
  generalize [view, inst, seq].foldl wNum s = s1 at *
  clear h h1 hb
  go_enter Tryz.func301, Tryz.ntmps301
  go_wp2_with fail
  refine HN.out.mono ?_
  rintro e w1 ⟨rfl, v1, h2⟩
  have y3 := cell_blk (h2.blkAt 2 rfl) 3 rfl
  have HC := Lib.hid (listReq_any ((h2.front 3 rfl rfl).rot') hr (by omega))
  have g2 := wList_len wReq 36 wReq_len rs s1
  generalize wList wReq s1 rs = s2 at *
  clear h2 HN x0 x1 x2
  go_wp2_with fail
  refine HC.out.mono ?_
  rintro e w2 ⟨rfl, v2, h3⟩
  have y4 := cell_blk (h3.blkAt 3 rfl) 4 rfl
  have HV := Lib.hid (listVote_any ((h3.front 4 rfl rfl).rot') hv (by omega))
  clear h3 HC y3
  go_wp2_with fail
  refine HV.out.mono ?_
  rintro e w3 ⟨rfl, v3, h4⟩
  have H4 := Lib.hid h4
  clear h4 HV y4
  go_wp2_with fail
  refine bodyPost_end (results_none rfl _ _ _) rfl ?_
  rw [HE.out]
  exact ⟨rfl, v3, ((H4.out.dropAt 4 (by simp)).front 3 rfl rfl).rot'⟩


theorem listCert_big {l : List (Ct)} {lv : Value} (h : Own B w0 W (wrL p v s (redR lv 5 l.length (l.flatMap ctCells) :: ctsR l :: ss))) (hb : 256 < l.length) (g : Value) :
    Calls Tryz.prog 300 #[.pointer (some ⟨p, 0, none⟩), lv, g] W fun e w' => e = .returned (.tuple #[]) ∧ ∃ v', Own B w0 w' (wrL p v' (wList wCert s (l.map Ct.cp)) (redR lv 5 l.length (l.flatMap ctCells) :: ctsR l :: ss)) := by
  have hk : (256 : Int) < (l.length : Int) := by omega
  have x1 : W.cell? ⟨p, 1, none⟩ = some (.bool s.bad) := cell_blk h.blk_out 1 rfl
  have z1 := block_frozen h.blk_out 1
  have HE := Lib.hid (show Own B w0 (W.setCell ⟨p, 1, none⟩ (.bool true)) (wrL p v (wList wCert s (l.map Ct.cp)) (redR lv 5 l.length (l.flatMap ctCells) :: ctsR l :: ss)) by
    unfold wList
    rw [if_pos (by simpa using hb)]
    exact Own.storeTo h 1 (.bool true) rfl)
  obtain ⟨ao, cap, rfl, hcap, -⟩ := red_reads (k := 2) h rfl
  clear h hb
  go_enter Tryz.func300, Tryz.ntmps300
  go_wp2_with fail
  refine bodyPost_ret (results_none rfl _ _ _) rfl ?_
  exact ⟨rfl, v, HE.out⟩

set_option maxHeartbeats 4000000 in
set_option maxRecDepth 100000 in
theorem listCert_any {l : List (Ct)} {lv : Value} (h : Own B w0 W (wrL p v s (redR lv 5 l.length (l.flatMap ctCells) :: ctsR l :: ss))) (hn : l.length ≤ 100000) (hl : s.out.length ≤ 30000000000) :
    Calls Tryz.prog 300 #[.pointer (some ⟨p, 0, none⟩), lv, .func (.func 301) #[] #[]] W fun e w' => e = .returned (.tuple #[]) ∧ ∃ v', Own B w0 w' (wrL p v' (wList wCert s (l.map Ct.cp)) (redR lv 5 l.length (l.flatMap ctCells) :: ctsR l :: ss)) := by
  by_cases hb : 256 < l.length
  · exact listCert_big h hb _
  have hk : decide ((256 : Int) < (l.length : Int)) = false := by simp; omega
  have HE : Hid (wList wCert s (l.map Ct.cp) = (l.map Ct.cp).foldl wCert (wNum s l.length)) := Lib.hid (by unfold wList; rw [if_neg (by simpa using hb)]; first | done | simp)
  have HN := Lib.hid (numbers_lit [(l.length : Int)] #[.int .i64 l.length] 1 h W.heap.size rfl rfl rfl (by simp; omega) (by simp))
  have hg : (wNum s l.length).out.length ≤ s.out.length + 6 := wNum_len s l.length
  simp only [List.foldl_cons, List.foldl_nil] at HN
  obtain ⟨ao, cap, rfl, hcap, -⟩ := red_reads (k := 2) h rfl
  generalize wNum s l.length = s1 at *
  clear h
  go_enter Tryz.func300, Tryz.ntmps300
  go_wp2_with fail
  refine HN.out.mono ?_
  rintro e w1 ⟨rfl, v1, h2⟩
  have H := Lib.hid h2
  clear h2 HN
  go_wp2_with fail
  go_loopw [21] (fun i wr => ∃ (k : Nat) (v : Value), i = .int .i64 k ∧ k ≤ l.length ∧ Hid (Own B w0 wr (wrL p v (((l.map Ct.cp).take k).foldl wCert s1) (redR (.slice ao l.length cap) 5 l.length (l.flatMap ctCells) :: ctsR l :: ss)))) (fun i _ => l.length - (intOf i).toNat)
  case atStart => exact ⟨0, v1, rfl, by omega, H⟩
  case round =>
    clear H
    obtain ⟨k, v, rfl, hk2, H⟩ := hrel
    by_cases hlt : k < l.length
    · have hkI : (k : Int) < (l.length : Int) := by omega
      have hk0 : (0 : Int) ≤ (k : Int) := by omega
      have hcI : (l.length : Int) ≤ (cap : Int) := by omega
      obtain ⟨ao', cap', e0, -, -, -, -, h5⟩ := red_reads (k := 2) H.out rfl
      simp only [Value.slice.injEq, true_and] at e0
      obtain ⟨rfl, -⟩ := e0
      obtain ⟨b, o, rfl, -, hc⟩ := h5 (by omega)

      have hj : ∀ j, j < 5 → wr.cell? ⟨b, o + k * 5 + j, none⟩ = (ctCells l[k])[j]? := fun j hj => by
        rw [Nat.add_assoc, hc _ (by omega), flat_at ctCells 5 (fun _ => rfl) l k j hlt hj]
      have q0 := hj 0 (by omega)
      have q1 := hj 1 (by omega)
      have q2 := hj 2 (by omega)
      have q3 := hj 3 (by omega)
      have q4 := hj 4 (by omega)
      have hlen := fold_len wCert 12318 wCert_len ((l.map Ct.cp).take k) s1
      have hm : min k l.length = k := by omega
      rw [List.length_take, List.length_map, hm] at hlen
      have hp := cts_pick H.out 3 rfl (List.getElem_mem hlt)
      have hle := cts_lens H.out 3 rfl (List.getElem_mem hlt)
      have hmap : (l.map Ct.cp)[k]'(by simpa using hlt) = l[k].cp := by simp
      have HS := Lib.hid (foldl_take wCert (l.map Ct.cp) k (by simpa using hlt) s1)
      rw [hmap] at HS
      clear hc h5 hj hmap
      generalize hx : l[k] = x at *
      clear hx
      obtain ⟨xview, xinst, xseq, xvb, xvv, xrs, xvs⟩ := x
      simp only [Ct.cp] at HS hp hle
      obtain ⟨bo1, bc1, rfl, -, -⟩ := red_reads (k := 0) hp rfl
      obtain ⟨bo2, bc2, rfl, -, -⟩ := red_reads (k := 1) hp rfl
      have HC := Lib.hid (wcert_any ⟨xview, xinst, xseq, .slice bo1 xrs.length bc1, .slice bo2 xvs.length bc2, xrs, xvs⟩ ((own_two hp).alloc (ctO xview xinst xseq (.slice bo1 xrs.length bc1) (.slice bo2 xvs.length bc2))) hle.1 hle.2 (by have := Nat.mul_le_mul_left 12318 (show k ≤ 256 by omega); omega))
      clear hp H
      simp only [ctCells, List.getElem?_cons_zero, List.getElem?_cons_succ, Nat.add_zero] at q0 q1 q2 q3 q4
      go_wp2_with fail
      refine HC.out.mono ?_
      rintro e w2 ⟨rfl, v2, h3⟩
      have H3 : Hid (Own B w0 w2 (wrL p v2 (((l.map Ct.cp).take (k + 1)).foldl wCert s1) (redR (.slice (some ⟨b, o, none⟩) l.length cap) 5 l.length (l.flatMap ctCells) :: ctsR l :: ss))) := Lib.hid (by rw [HS.out]; exact (h3.dropAt 2 (by simp)).dropAt 2 (by simp))
      clear h3 HC
      go_wp2_with fail
      go_roundw
      case rel => exact ⟨k + 1, v2, by go_num, by omega, H3⟩
      case measure => simp [intOf]; omega
    · have hkI : decide ((k : Int) < (l.length : Int)) = false := by simp; omega
      have e : k = l.length := by omega
      subst e
      go_wp2_with fail
      refine bodyPost_end (results_none rfl _ _ _) rfl ?_
      have := H.out
      rw [List.take_of_length_le (by simp)] at this
      rw [HE.out]
      exact ⟨rfl, v, this⟩


set_option maxHeartbeats 4000000 in
set_option maxRecDepth 100000 in
theorem wpart_any (c : Pt) (h : Own B w0 W (wrL p v s (redR c.vv 2 c.vs.length (vsCells c.vs) :: redR c.cv 5 c.cts.length (c.cts.flatMap ctCells) :: ctsR c.cts :: ss))) (hr : c.vs.length ≤ 100000) (hv : c.cts.length ≤ 100000) (hl : s.out.length ≤ 20000000000) :
    Calls Tryz.prog 303 #[.pointer (some ⟨p, 0, none⟩), ptAgg c] W fun e w' => e = .returned (.tuple #[]) ∧ ∃ v', Own B w0 w' (wrL p v' (wPart s c.pa) (redR c.vv 2 c.vs.length (vsCells c.vs) :: redR c.cv 5 c.cts.length (c.cts.flatMap ctCells) :: ctsR c.cts :: ss)) := by
  obtain ⟨fm, vv, vs, cv, cts, sl⟩ := c
  simp only [Pt.pa] at h hr hv ⊢
  obtain ⟨a1, c1, rfl, -, -⟩ := red_reads (k := 2) h rfl
  obtain ⟨a2, c2, rfl, -, -⟩ := red_reads (k := 3) h rfl
  have h1 : Own B w0 (W.alloc (.cells #[.int .i64 fm, .slice a1 vs.length c1, .slice a2 cts.length c2, .int .i64 sl] 49 (0, 0))) (wrL p v s (blk W.heap.size (.cells #[.int .i64 fm, .slice a1 vs.length c1, .slice a2 cts.length c2, .int .i64 sl] 49 (0, 0)) :: redR (.slice a1 vs.length c1) 2 vs.length (vsCells vs) :: redR (.slice a2 cts.length c2) 5 cts.length (cts.flatMap ctCells) :: ctsR cts :: ss)) := (h.box _).rot'
  have x0 := cell_blk (h1.blkAt 2 rfl) 0 rfl
  have HE : Hid (wPart s ⟨fm, vs, cts.map Ct.cp, sl⟩ = [sl].foldl wNum (wList wCert (wList wVote ([fm].foldl wNum s) vs) (cts.map Ct.cp))) := Lib.hid rfl
  have g1 := wNums_len [fm] s
  have HN := Lib.hid (numbers_lit [fm] #[.int .i64 fm] 1 h1 (W.heap.size + 1) hs_alloc rfl rfl (by simp; omega) (by simp))
  simp only [List.length_cons, List.length_nil] at g1
  generalize [fm].foldl wNum s = s1 at *
  clear h h1
  go_enter Tryz.func303, Tryz.ntmps303
  go_wp2_with fail
  refine HN.out.mono ?_
  rintro e w1 ⟨rfl, v1, h2⟩
  have y1 := cell_blk (h2.blkAt 2 rfl) 1 rfl
  have HC := Lib.hid (listVote_any ((h2.front 3 rfl rfl).rot') hr (by omega))
  have g2 := wList_len wVote 12 wVote_len vs s1
  generalize wList wVote s1 vs = s2 at *
  clear h2 HN x0
  go_wp2_with fail
  refine HC.out.mono ?_
  rintro e w2 ⟨rfl, v2, h3⟩
  have y2 := cell_blk (h3.blkAt 3 rfl) 2 rfl
  have HV := Lib.hid (listCert_any (own_two ((h3.front 5 rfl rfl).front 5 rfl rfl)) hv (by omega))
  have g3 := wList_len wCert 12318 wCert_len (cts.map Ct.cp) s2
  generalize wList wCert s2 (cts.map Ct.cp) = s3 at *
  clear h3 HC y1
  go_wp2_with fail
  refine HV.out.mono ?_
  rintro e w3 ⟨rfl, v3, h4⟩
  have y3 := cell_blk (h4.blkAt 5 rfl) 3 rfl
  have HN4 := Lib.hid (numbers_lit [sl] #[.int .i64 sl] 1 h4 w3.heap.size rfl rfl rfl (by simp; omega) (by simp))
  clear h4 HV y2
  go_wp2_with fail
  refine HN4.out.mono ?_
  rintro e w4 ⟨rfl, v4, h5⟩
  have H5 := Lib.hid h5
  clear h5 HN4 y3
  go_wp2_with fail
  refine bodyPost_end (results_none rfl _ _ _) rfl ?_
  rw [HE.out]
  exact ⟨rfl, v4, ((H5.out.dropAt 5 (by simp)).front 4 rfl rfl).rot'⟩


theorem listPart_big {l : List (Pt)} {lv : Value} (h : Own B w0 W (wrL p v s (redR lv 4 l.length (l.flatMap ptCells) :: ptsR l :: ss))) (hb : 256 < l.length) (g : Value) :
    Calls Tryz.prog 302 #[.pointer (some ⟨p, 0, none⟩), lv, g] W fun e w' => e = .returned (.tuple #[]) ∧ ∃ v', Own B w0 w' (wrL p v' (wList wPart s (l.map Pt.pa)) (redR lv 4 l.length (l.flatMap ptCells) :: ptsR l :: ss)) := by
  have hk : (256 : Int) < (l.length : Int) := by omega
  have x1 : W.cell? ⟨p, 1, none⟩ = some (.bool s.bad) := cell_blk h.blk_out 1 rfl
  have z1 := block_frozen h.blk_out 1
  have HE := Lib.hid (show Own B w0 (W.setCell ⟨p, 1, none⟩ (.bool true)) (wrL p v (wList wPart s (l.map Pt.pa)) (redR lv 4 l.length (l.flatMap ptCells) :: ptsR l :: ss)) by
    unfold wList
    rw [if_pos (by simpa using hb)]
    exact Own.storeTo h 1 (.bool true) rfl)
  obtain ⟨ao, cap, rfl, hcap, -⟩ := red_reads (k := 2) h rfl
  clear h hb
  go_enter Tryz.func302, Tryz.ntmps302
  go_wp2_with fail
  refine bodyPost_ret (results_none rfl _ _ _) rfl ?_
  exact ⟨rfl, v, HE.out⟩

set_option maxHeartbeats 4000000 in
set_option maxRecDepth 100000 in
theorem listPart_any {l : List (Pt)} {lv : Value} (h : Own B w0 W (wrL p v s (redR lv 4 l.length (l.flatMap ptCells) :: ptsR l :: ss))) (hn : l.length ≤ 100000) (hl : s.out.length ≤ 10000000000) :
    Calls Tryz.prog 302 #[.pointer (some ⟨p, 0, none⟩), lv, .func (.func 303) #[] #[]] W fun e w' => e = .returned (.tuple #[]) ∧ ∃ v', Own B w0 w' (wrL p v' (wList wPart s (l.map Pt.pa)) (redR lv 4 l.length (l.flatMap ptCells) :: ptsR l :: ss)) := by
  by_cases hb : 256 < l.length
  · exact listPart_big h hb _
  have hk : decide ((256 : Int) < (l.length : Int)) = false := by simp; omega
  have HE : Hid (wList wPart s (l.map Pt.pa) = (l.map Pt.pa).foldl wPart (wNum s l.length)) := Lib.hid (by unfold wList; rw [if_neg (by simpa using hb)]; first | done | simp)
  have HN := Lib.hid (numbers_lit [(l.length : Int)] #[.int .i64 l.length] 1 h W.heap.size rfl rfl rfl (by simp; omega) (by simp))
  have hg : (wNum s l.length).out.length ≤ s.out.length + 6 := wNum_len s l.length
  simp only [List.foldl_cons, List.foldl_nil] at HN
  obtain ⟨ao, cap, rfl, hcap, -⟩ := red_reads (k := 2) h rfl
  generalize wNum s l.length = s1 at *
  clear h
  go_enter Tryz.func302, Tryz.ntmps302
  go_wp2_with fail
  refine HN.out.mono ?_
  rintro e w1 ⟨rfl, v1, h2⟩
  have H := Lib.hid h2
  clear h2 HN
  go_wp2_with fail
  go_loopw [21] (fun i wr => ∃ (k : Nat) (v : Value), i = .int .i64 k ∧ k ≤ l.length ∧ Hid (Own B w0 wr (wrL p v (((l.map Pt.pa).take k).foldl wPart s1) (redR (.slice ao l.length cap) 4 l.length (l.flatMap ptCells) :: ptsR l :: ss)))) (fun i _ => l.length - (intOf i).toNat)
  case atStart => exact ⟨0, v1, rfl, by omega, H⟩
  case round =>
    clear H
    obtain ⟨k, v, rfl, hk2, H⟩ := hrel
    by_cases hlt : k < l.length
    · have hkI : (k : Int) < (l.length : Int) := by omega
      have hk0 : (0 : Int) ≤ (k : Int) := by omega
      have hcI : (l.length : Int) ≤ (cap : Int) := by omega
      obtain ⟨ao', cap', e0, -, -, -, -, h5⟩ := red_reads (k := 2) H.out rfl
      simp only [Value.slice.injEq, true_and] at e0
      obtain ⟨rfl, -⟩ := e0
      obtain ⟨b, o, rfl, -, hc⟩ := h5 (by omega)

      have hj : ∀ j, j < 4 → wr.cell? ⟨b, o + k * 4 + j, none⟩ = (ptCells l[k])[j]? := fun j hj => by
        rw [Nat.add_assoc, hc _ (by omega), flat_at ptCells 4 (fun _ => rfl) l k j hlt hj]
      have q0 := hj 0 (by omega)
      have q1 := hj 1 (by omega)
      have q2 := hj 2 (by omega)
      have q3 := hj 3 (by omega)
      have hlen := fold_len wPart 3156510 wPart_len ((l.map Pt.pa).take k) s1
      have hm : min k l.length = k := by omega
      rw [List.length_take, List.length_map, hm] at hlen
      have hp := pts_pick H.out 3 rfl (List.getElem_mem hlt)
      have hle := pts_lens H.out 3 rfl (List.getElem_mem hlt)
      have hmap : (l.map Pt.pa)[k]'(by simpa using hlt) = l[k].pa := by simp
      have HS := Lib.hid (foldl_take wPart (l.map Pt.pa) k (by simpa using hlt) s1)
      rw [hmap] at HS
      clear hc h5 hj hmap
      generalize hx : l[k] = x at *
      clear hx
      obtain ⟨xfm, xvv, xvs, xcv, xcts, xsl⟩ := x
      simp only [Pt.pa] at HS hp hle
      obtain ⟨bo1, bc1, rfl, -, -⟩ := red_reads (k := 0) hp rfl
      obtain ⟨bo2, bc2, rfl, -, -⟩ := red_reads (k := 1) hp rfl
      have HC := Lib.hid (wpart_any ⟨xfm, .slice bo1 xvs.length bc1, xvs, .slice bo2 xcts.length bc2, xcts, xsl⟩ ((own_three hp).alloc (.cells #[.int .i64 xfm, .slice bo1 xvs.length bc1, .slice bo2 xcts.length bc2, .int .i64 xsl] 49 (0, 0))) hle.1 hle.2 (by have := Nat.mul_le_mul_left 3156510 (show k ≤ 256 by omega); omega))
      clear hp H
      simp only [ptCells, List.getElem?_cons_zero, List.getElem?_cons_succ, Nat.add_zero] at q0 q1 q2 q3
      go_wp2_with fail
      refine HC.out.mono ?_
      rintro e w2 ⟨rfl, v2, h3⟩
      have H3 : Hid (Own B w0 w2 (wrL p v2 (((l.map Pt.pa).take (k + 1)).foldl wPart s1) (redR (.slice (some ⟨b, o, none⟩) l.length cap) 4 l.length (l.flatMap ptCells) :: ptsR l :: ss))) := Lib.hid (by rw [HS.out]; exact ((h3.dropAt 2 (by simp)).dropAt 2 (by simp)).dropAt 2 (by simp))
      clear h3 HC
      go_wp2_with fail
      go_roundw
      case rel => exact ⟨k + 1, v2, by go_num, by omega, H3⟩
      case measure => simp [intOf]; omega
    · have hkI : decide ((k : Int) < (l.length : Int)) = false := by simp; omega
      have e : k = l.length := by omega
      subst e
      go_wp2_with fail
      refine bodyPost_end (results_none rfl _ _ _) rfl ?_
      have := H.out
      rw [List.take_of_length_le (by simp)] at this
      rw [HE.out]
      exact ⟨rfl, v, this⟩

end
end Go.Proofs.YtannckelmojkoaaGreat

/- pack: the bytes that are handed back; what all writing comes to. -/
namespace Go.Proofs.YtannckelmojkoaaGreat
open Go.RowKit Go.Heap

/-- This writes e, or (ok = false) nothing that counts. -/
def Wrt (f : Wr → Wr) (ok : Bool) (e : Bys) : Prop := ∀ s, (f s).bad = (s.bad || !ok) ∧ (ok = true → (f s).out = s.out ++ e)
theorem Wrt.then {f g : Wr → Wr} {o1 o2 : Bool} {e1 e2 : Bys} (h : Wrt f o1 e1) (k : Wrt g o2 e2) : Wrt (fun s => g (f s)) (o1 && o2) (e1 ++ e2) := fun s => by
  obtain ⟨a1, a2⟩ := h s
  obtain ⟨b1, b2⟩ := k (f s)
  refine ⟨?_, fun ho => ?_⟩
  · simp only [b1, a1]; cases s.bad <;> cases o1 <;> cases o2 <;> rfl
  · simp only [Bool.and_eq_true] at ho
    simp only [b2 ho.2, a2 ho.1, List.append_assoc]
theorem wrt_num (n : Int) : Wrt (fun s => wNum s n) (numOk n) (numB n) := fun s => ⟨rfl, fun h => by simp [wNum, wPut, numX, h]⟩
theorem wrt_sgn (n : Int) : Wrt (fun s => wSgn s n) (sgnOk n) (sgnB n) := fun s => ⟨rfl, fun h => by simp [wSgn, wPut, sgnX, h]⟩
theorem wrt_req (r : Rq) : Wrt (fun s => wReq s r) (reqW r) (reqB r) := by
  have h := (((((wrt_num r.client).then (wrt_num r.time)).then (wrt_num r.kind)).then (wrt_sgn r.key)).then (wrt_sgn r.val)).then (wrt_num r.sl)
  have e1 : reqW r = (((((numOk r.client && numOk r.time) && numOk r.kind) && sgnOk r.key) && sgnOk r.val) && numOk r.sl) := by unfold reqW; simp only [Bool.and_assoc]
  have e2 : reqB r = (((((numB r.client ++ numB r.time) ++ numB r.kind) ++ sgnB r.key) ++ sgnB r.val) ++ numB r.sl) := by unfold reqB; simp only [List.append_assoc]
  rw [e1, e2]; exact h
theorem wrt_vote (x : Int × Int) : Wrt (fun s => wVote s x) (vtW x) (vtB x) := (wrt_num x.1).then (wrt_num x.2)
theorem wrt_fold {α : Type} {one : Wr → α → Wr} {ok : α → Bool} {enc : α → Bys} (h : ∀ x, Wrt (fun s => one s x) (ok x) (enc x)) : ∀ l : List α, Wrt (fun s => l.foldl one s) (l.all ok) (l.flatMap enc)
  | [] => fun s => ⟨by simp, fun _ => by simp⟩
  | x :: l => by
    have := (h x).then (wrt_fold h l)
    simpa only [List.foldl_cons, List.all_cons, List.flatMap_cons] using this
theorem wrt_list {α : Type} {one : Wr → α → Wr} {ok : α → Bool} {enc : α → Bys} (h : ∀ x, Wrt (fun s => one s x) (ok x) (enc x)) (l : List α) : Wrt (fun s => wList one s l) (listW ok l) (listB enc l) := by
  by_cases hb : 256 < l.length
  · have e : listW ok l = false := by unfold listW; rw [decide_eq_false (by omega)]; rfl
    intro s
    rw [e]
    refine ⟨?_, fun h => by cases h⟩
    show (wList one s l).bad = _
    unfold wList
    rw [if_pos hb]; simp
  · have e : listW ok l = (numOk (l.length : Int) && l.all ok) := by
      have : numOk (l.length : Int) = true := by unfold numOk; simp; omega
      unfold listW; rw [decide_eq_true (by omega), this]
    rw [e]
    have := (wrt_num (l.length : Int)).then (wrt_fold h l)
    intro s
    have h2 := this s
    have e2 : wList one s l = l.foldl one (wNum s l.length) := by unfold wList; rw [if_neg hb]
    show (wList one s l).bad = _ ∧ (_ → (wList one s l).out = _)
    rw [e2]
    exact h2
theorem wrt_cert (c : Cp) : Wrt (fun s => wCert s c) (certW c) (certB c) := by
  have h := ((((wrt_num c.view).then (wrt_num c.inst)).then (wrt_num c.seq)).then (wrt_list wrt_req c.rs)).then (wrt_list wrt_vote c.vs)
  have e1 : certW c = ((((numOk c.view && numOk c.inst) && numOk c.seq) && listW reqW c.rs) && listW vtW c.vs) := by unfold certW; simp only [Bool.and_assoc]
  have e2 : certB c = ((((numB c.view ++ numB c.inst) ++ numB c.seq) ++ listB reqB c.rs) ++ listB vtB c.vs) := by unfold certB; simp only [List.append_assoc]
  rw [e1, e2]; exact h
theorem wrt_part (p : Pa) : Wrt (fun s => wPart s p) (partW p) (partB p) := by
  have h := (((wrt_num p.fm).then (wrt_list wrt_vote p.vs)).then (wrt_list wrt_cert p.cs)).then (wrt_num p.sl)
  have e1 : partW p = (((numOk p.fm && listW vtW p.vs) && listW certW p.cs) && numOk p.sl) := by unfold partW; simp only [Bool.and_assoc]
  have e2 : partB p = (((numB p.fm ++ listB vtB p.vs) ++ listB certB p.cs) ++ numB p.sl) := by unfold partB; simp only [List.append_assoc]
  rw [e1, e2]; exact h

/-- What is handed back of a writer. -/
def doneX (s : Wr) : Bys := if s.bad then [] else s.out
abbrev w00 : Wr := ⟨[], false⟩
theorem done_of {f : Wr → Wr} {ok : Bool} {e : Bys} (h : Wrt f ok e) : (f w00).bad = !ok ∧ doneX (f w00) = if ok then e else [] := by
  obtain ⟨h1, h2⟩ := h w00
  simp only [Bool.false_or] at h1
  refine ⟨h1, ?_⟩
  unfold doneX
  rw [h1]
  cases ok with
  | true => simp [h2 rfl]
  | false => simp

/-- What all of a message comes to. -/
def wSec (s w : Wr) : Wr := wPut s (doneX w) (!w.bad)
def wMs (m : Ms) : Wr :=
  wSec (wSec (wSec (wSec (wSgn ([m.kind, m.fm, m.view, m.inst, m.seq].foldl wNum w00) m.res) (wList wReq w00 m.rs)) (wList wVote w00 m.vs)) (wList wCert w00 m.cs)) (wList wPart w00 m.ps)
theorem wrt_sec {f : Wr → Wr} {ok : Bool} {e : Bys} (h : Wrt f ok e) : Wrt (fun s => wSec s (f w00)) ok e := fun s => by
  obtain ⟨h1, h2⟩ := done_of h
  refine ⟨?_, fun ho => ?_⟩
  · simp [wSec, wPut, h1]
  · simp [wSec, wPut, h2, ho]
theorem wMs_body (m : Ms) : (if (wMs m).bad || decide (65536 < (wMs m).out.length) then none else some (wMs m).out) = bodyP m := by
  have h := ((((((((((wrt_num m.kind).then (wrt_num m.fm)).then (wrt_num m.view)).then (wrt_num m.inst)).then (wrt_num m.seq)).then (wrt_sgn m.res)).then (wrt_sec (wrt_list wrt_req m.rs))).then (wrt_sec (wrt_list wrt_vote m.vs))).then (wrt_sec (wrt_list wrt_cert m.cs))).then (wrt_sec (wrt_list wrt_part m.ps))) w00
  have e1 : msW m = (((((((((numOk m.kind && numOk m.fm) && numOk m.view) && numOk m.inst) && numOk m.seq) && sgnOk m.res) && listW reqW m.rs) && listW vtW m.vs) && listW certW m.cs) && listW partW m.ps) := by unfold msW; simp only [Bool.and_assoc]
  have e2 : msB m = (((((((((numB m.kind ++ numB m.fm) ++ numB m.view) ++ numB m.inst) ++ numB m.seq) ++ sgnB m.res) ++ listB reqB m.rs) ++ listB vtB m.vs) ++ listB certB m.cs) ++ listB partB m.ps) := by unfold msB; simp only [List.append_assoc]
  rw [← e1, ← e2] at h
  obtain ⟨h1, h2⟩ := h
  have h1 : (wMs m).bad = (w00.bad || !msW m) := h1
  simp only [Bool.false_or] at h1
  have h2 : msW m = true → (wMs m).out = w00.out ++ msB m := h2
  simp only [List.nil_append] at h2
  unfold bodyP
  rw [h1]
  cases ho : msW m with
  | false => simp
  | true =>
    rw [h2 ho]
    by_cases hl : (msB m).length ≤ 65536
    · simp [hl, show ¬ 65536 < (msB m).length by omega]
    · simp [hl, show 65536 < (msB m).length by omega]

section
variable {B : Nat} {w0 w W W' : World} {ss rs : List Res} {p : Nat} {v bv : Value} {s : Wr}

theorem wdone_any (h : Own B w0 W (wrL p v s ss)) : Calls Tryz.prog 297 #[.pointer (some ⟨p, 0, none⟩)] W fun e w' => ∃ v', e = .returned (.tuple #[v', .bool (!s.bad)]) ∧ Own B w0 w' (bysR v' (doneX s) :: ss) := by
  have H := Lib.hid h
  obtain ⟨out, bad⟩ := s
  obtain ⟨ao, cap, rfl, -, -⟩ := bys_reads (k := 1) h rfl
  have x0 : W.cell? ⟨p, 0, none⟩ = some (.slice ao out.length cap) := cell_blk h.blk_out 0 rfl
  have x1 : W.cell? ⟨p, 1, none⟩ = some (.bool bad) := cell_blk h.blk_out 1 rfl
  clear h
  cases bad with
  | true =>
    have HE := Lib.hid ((H.out.drop.drop).row0 (E := 5) (sz := 1))
    clear H
    go_enter Tryz.func297, Tryz.ntmps297
    go_wp2_with fail
    go_ret2
    exact ⟨_, rfl, HE.out⟩
  | false =>
    have HE := Lib.hid (H.out.drop)
    clear H
    go_enter Tryz.func297, Tryz.ntmps297
    go_wp2_with fail
    go_ret2
    exact ⟨_, rfl, HE.out⟩

theorem own_writer (h : Own B w0 W ss) : Own B w0 (W.alloc (.cells #[.slice none 0 0, .bool false] 377 (0, 0))) (wrL W.heap.size (.slice none 0 0) w00 ss) := (h.row0 (E := 5) (sz := 1)).box _

theorem packBatch_any {l : List (Rq)} {lv : Value} (h : Own B w0 W (redR lv 6 l.length (rqsCells l) :: ss)) (hn : l.length ≤ 100000) : Calls Tryz.prog 276 #[lv] W fun e w' => ∃ v', e = .returned (.tuple #[v', .bool (!(wList wReq w00 l).bad)]) ∧ Own B w0 w' (bysR v' (doneX (wList wReq w00 l)) :: redR lv 6 l.length (rqsCells l) :: ss) := by
  have HC := Lib.hid (listReq_any (own_writer h) hn (by decide))
  obtain ⟨ao, cap, rfl, hcap, -⟩ := red_reads (k := 0) h rfl
  clear h
  generalize wList wReq w00 l = s1 at *
  go_enter Tryz.func276, Tryz.ntmps276
  go_wp2_with fail
  refine HC.out.mono ?_
  rintro e w1 ⟨rfl, v1, h2⟩
  have HD := Lib.hid (wdone_any h2)
  clear h2 HC
  go_wp2_with fail
  refine HD.out.mono ?_
  rintro e w2 ⟨v2, rfl, h3⟩
  have H3 := Lib.hid h3
  clear h3 HD
  go_wp2_with fail
  go_ret2
  exact ⟨_, rfl, H3.out⟩


theorem packVotes_any {l : List (Int × Int)} {lv : Value} (h : Own B w0 W (redR lv 2 l.length (vsCells l) :: ss)) (hn : l.length ≤ 100000) : Calls Tryz.prog 277 #[lv] W fun e w' => ∃ v', e = .returned (.tuple #[v', .bool (!(wList wVote w00 l).bad)]) ∧ Own B w0 w' (bysR v' (doneX (wList wVote w00 l)) :: redR lv 2 l.length (vsCells l) :: ss) := by
  have HC := Lib.hid (listVote_any (own_writer h) hn (by decide))
  obtain ⟨ao, cap, rfl, hcap, -⟩ := red_reads (k := 0) h rfl
  clear h
  generalize wList wVote w00 l = s1 at *
  go_enter Tryz.func277, Tryz.ntmps277
  go_wp2_with fail
  refine HC.out.mono ?_
  rintro e w1 ⟨rfl, v1, h2⟩
  have HD := Lib.hid (wdone_any h2)
  clear h2 HC
  go_wp2_with fail
  refine HD.out.mono ?_
  rintro e w2 ⟨v2, rfl, h3⟩
  have H3 := Lib.hid h3
  clear h3 HD
  go_wp2_with fail
  go_ret2
  exact ⟨_, rfl, H3.out⟩


theorem packCerts_any {l : List (Ct)} {lv : Value} (h : Own B w0 W (redR lv 5 l.length (l.flatMap ctCells) :: ctsR l :: ss)) (hn : l.length ≤ 100000) : Calls Tryz.prog 278 #[lv] W fun e w' => ∃ v', e = .returned (.tuple #[v', .bool (!(wList wCert w00 (l.map Ct.cp)).bad)]) ∧ Own B w0 w' (bysR v' (doneX (wList wCert w00 (l.map Ct.cp))) :: redR lv 5 l.length (l.flatMap ctCells) :: ctsR l :: ss) := by
  have HC := Lib.hid (listCert_any (own_writer h) hn (by decide))
  obtain ⟨ao, cap, rfl, hcap, -⟩ := red_reads (k := 0) h rfl
  clear h
  generalize wList wCert w00 (l.map Ct.cp) = s1 at *
  go_enter Tryz.func278, Tryz.ntmps278
  go_wp2_with fail
  refine HC.out.mono ?_
  rintro e w1 ⟨rfl, v1, h2⟩
  have HD := Lib.hid (wdone_any h2)
  clear h2 HC
  go_wp2_with fail
  refine HD.out.mono ?_
  rintro e w2 ⟨v2, rfl, h3⟩
  have H3 := Lib.hid h3
  clear h3 HD
  go_wp2_with fail
  go_ret2
  exact ⟨_, rfl, H3.out⟩


theorem packParts_any {l : List (Pt)} {lv : Value} (h : Own B w0 W (redR lv 4 l.length (l.flatMap ptCells) :: ptsR l :: ss)) (hn : l.length ≤ 100000) : Calls Tryz.prog 279 #[lv] W fun e w' => ∃ v', e = .returned (.tuple #[v', .bool (!(wList wPart w00 (l.map Pt.pa)).bad)]) ∧ Own B w0 w' (bysR v' (doneX (wList wPart w00 (l.map Pt.pa))) :: redR lv 4 l.length (l.flatMap ptCells) :: ptsR l :: ss) := by
  have HC := Lib.hid (listPart_any (own_writer h) hn (by decide))
  obtain ⟨ao, cap, rfl, hcap, -⟩ := red_reads (k := 0) h rfl
  clear h
  generalize wList wPart w00 (l.map Pt.pa) = s1 at *
  go_enter Tryz.func279, Tryz.ntmps279
  go_wp2_with fail
  refine HC.out.mono ?_
  rintro e w1 ⟨rfl, v1, h2⟩
  have HD := Lib.hid (wdone_any h2)
  clear h2 HC
  go_wp2_with fail
  refine HD.out.mono ?_
  rintro e w2 ⟨v2, rfl, h3⟩
  have H3 := Lib.hid h3
  clear h3 HD
  go_wp2_with fail
  go_ret2
  exact ⟨_, rfl, H3.out⟩

end
end Go.Proofs.YtannckelmojkoaaGreat
