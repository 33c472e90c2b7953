/- Parts of the proof, one behind the other. -/
import Derived.Test.YtannckelmojkoaaGreatAdoB16
set_option maxHeartbeats 32000000
set_option maxRecDepth 100000
namespace Go.Proofs.YtannckelmojkoaaGreat
open Go.RowKit Go.Heap
abbrev rqO (r : Rq) : Obj := .cells #[.int .i64 r.client, .int .i64 r.time, .int .i64 r.kind, .int .i64 r.key, .int .i64 r.val, .int .i64 r.sl] 38 (0, 0)
section
variable {B : Nat} {w0 w W W' : World} {ss rs : List Res} {p : Nat} {v bv : Value} {s : Wr}
theorem znu (h : Own B w0 W rs) (cs : Array Value) (T : TypeId) (n : Nat) (hn : cs.size = n) (hm : n ≤ 1000) : Own B w0 (W.alloc (.cells cs T (0, 0))) (redR (.slice (some ⟨W.heap.size, 0, none⟩) n n) 1 n cs.toList :: rs) := by
 refine (h.alloc (.cells cs T (0, 0))).red (v := .slice (some ⟨W.heap.size, 0, none⟩) n n) ?_ (fun k hk => ?_)
 ·refine ⟨_, n, rfl, Nat.le_refl _, by unfold maxLen; omega, by simp [hn], (fun e => by cases e), fun _ => ⟨W.heap.size, 0, rfl, by simp, fun j hj => ?_⟩⟩
  rw [zac (heap_alloc_new W _)]
  simp
 ·have := zex hk
  simp [blkOf] at this
  subst this
  exact h.fresh (Nat.le_refl _)
theorem za9 (l : List Int) (cs : Array Value) (n : Nat) (h : Own B w0 W (wrL p v s ss)) (b : Nat) (hb : W.heap.size = b) (e : cs.toList = intC l) (hn : l.length = n) (hl : s.out.length + 6 * l.length ≤ 1000000000000) (hll : l.length ≤ 1000) :
  Calls Tryz.prog 307 #[.pointer (some ⟨p, 0, none⟩), .slice (some ⟨b, 0, none⟩) n n] (W.alloc (.cells cs 3 (0, 0))) fun e w' => e = .returned (.tuple #[]) ∧ ∃ v', Own B w0 w' (wrL p v' (l.foldl wNum s) ss) := by
 subst hn
 subst hb
 have hs : cs.size = l.length := by rw [← Array.length_toList, e]; simp
 have h1 := znu h cs 3 l.length hs hll
 rw [e] at h1
 refine (zms h1.rot' hl hll).mono ?_
 rintro e w' ⟨rfl, v', h2⟩
 exact ⟨rfl, v', h2.dropAt 2 (by simp)⟩
theorem zpi (l : List Int) (cs : Array Value) (n : Nat) (h : Own B w0 W (wrL p v s ss)) (b : Nat) (hb : W.heap.size = b) (e : cs.toList = intC l) (hn : l.length = n) (hl : s.out.length + 6 * l.length ≤ 1000000000000) (hll : l.length ≤ 1000) :
  Calls Tryz.prog 308 #[.pointer (some ⟨p, 0, none⟩), .slice (some ⟨b, 0, none⟩) n n] (W.alloc (.cells cs 3 (0, 0))) fun e w' => e = .returned (.tuple #[]) ∧ ∃ v', Own B w0 w' (wrL p v' (l.foldl wSgn s) ss) := by
 subst hn
 subst hb
 have hs : cs.size = l.length := by rw [← Array.length_toList, e]; simp
 have h1 := znu h cs 3 l.length hs hll
 rw [e] at h1
 refine (zmj h1.rot' hl hll).mono ?_
 rintro e w' ⟨rfl, v', h2⟩
 exact ⟨rfl, v', h2.dropAt 2 (by simp)⟩
theorem zfe (s : Wr) (r : Rq) : (wReq s r).out.length ≤ s.out.length + 36 := by
 have h1 := zb7 [r.client, r.time, r.kind] s
 have h2 := zil [r.key, r.val] ([r.client, r.time, r.kind].foldl wNum s)
 have h3 := zb7 [r.sl] ([r.key, r.val].foldl wSgn ([r.client, r.time, r.kind].foldl wNum s))
 simp only [List.length_cons, List.length_nil] at h1 h2 h3
 have e : wReq s r = [r.sl].foldl wNum ([r.key, r.val].foldl wSgn ([r.client, r.time, r.kind].foldl wNum s)) := rfl
 rw [e]; omega
theorem zb6 (s : Wr) (x : Int × Int) : (wVote s x).out.length ≤ s.out.length + 12 := zb7 [x.1, x.2] s
theorem zo1 (r : Rq) (h : Own B w0 W (wrL p v s ss)) (hl : s.out.length ≤ 100000000000) :
  Calls Tryz.prog 296 #[.pointer (some ⟨p, 0, none⟩), .agg #[.int .i64 r.client, .int .i64 r.time, .int .i64 r.kind, .int .i64 r.key, .int .i64 r.val, .int .i64 r.sl]] W fun e w' => e = .returned (.tuple #[]) ∧ ∃ v', Own B w0 w' (wrL p v' (wReq s r) ss) := by
 have h1 : Own B w0 (W.alloc (rqO r)) (wrL p v s (blk W.heap.size (rqO r) :: ss)) := (h.box (rqO r)).rot'
 have H1 := Lib.hid h1
 have hb := h1.blkAt 2 rfl
 have x0 := zaa hb 0 rfl
 have x1 := zaa hb 1 rfl
 have x2 := zaa hb 2 rfl
 have HE : Hid (wReq s r = [r.sl].foldl wNum ([r.key, r.val].foldl wSgn ([r.client, r.time, r.kind].foldl wNum s))) := Lib.hid rfl
 have g1 := zb7 [r.client, r.time, r.kind] s
 have g2 := zil [r.key, r.val] ([r.client, r.time, r.kind].foldl wNum s)
 have HN := Lib.hid (za9 [r.client, r.time, r.kind] #[.int .i64 r.client, .int .i64 r.time, .int .i64 r.kind] 3 h1 (W.heap.size + 1) za4 rfl rfl (by simp; omega) (by simp))
 simp only [List.length_cons, List.length_nil] at g1 g2
 generalize [r.client, r.time, r.kind].foldl wNum s = s1 at *
 clear h h1 hb
 unfold rqO at *
 go_enter Tryz.func296, Tryz.ntmps296
 go_wp2_with fail
 refine HN.out.mono ?_
 rintro e w1 ⟨rfl, v1, h2⟩
 have hb := h2.blkAt 2 rfl
 have y3 := zaa hb 3 rfl
 have y4 := zaa hb 4 rfl
 have HN2 := Lib.hid (zpi [r.key, r.val] #[.int .i64 r.key, .int .i64 r.val] 2 h2 w1.heap.size rfl rfl rfl (by simp; omega) (by simp))
 generalize [r.key, r.val].foldl wSgn s1 = s2 at *
 clear h2 hb HN H1 x0 x1 x2
 go_wp2_with fail
 refine HN2.out.mono ?_
 rintro e w2 ⟨rfl, v2, h3⟩
 have hb := h3.blkAt 2 rfl
 have y5 := zaa hb 5 rfl
 have HN3 := Lib.hid (za9 [r.sl] #[.int .i64 r.sl] 1 h3 w2.heap.size rfl rfl rfl (by simp; omega) (by simp))
 clear h3 hb HN2 y3 y4
 go_wp2_with fail
 refine HN3.out.mono ?_
 rintro e w3 ⟨rfl, v3, h4⟩
 have H4 := Lib.hid h4
 clear h4 HN3
 go_wp2_with fail
 refine bodyPost_end (results_none rfl _ _ _) rfl ?_
 rw [HE.out]
 exact ⟨rfl, v3, H4.out.dropAt 2 (by simp)⟩
theorem zq6 (x : Int × Int) (h : Own B w0 W (wrL p v s ss)) (hl : s.out.length ≤ 100000000000) :
  Calls Tryz.prog 299 #[.pointer (some ⟨p, 0, none⟩), .agg #[.int .i64 x.1, .int .i64 x.2]] W fun e w' => e = .returned (.tuple #[]) ∧ ∃ v', Own B w0 w' (wrL p v' (wVote s x) ss) := by
 have h1 : Own B w0 (W.alloc (.cells #[.int .i64 x.1, .int .i64 x.2] 177 (0, 0))) (wrL p v s (blk W.heap.size (.cells #[.int .i64 x.1, .int .i64 x.2] 177 (0, 0)) :: ss)) := (h.box _).rot'
 have H1 := Lib.hid h1
 have hb := h1.blkAt 2 rfl
 have x0 := zaa hb 0 rfl
 have x1 := zaa hb 1 rfl
 have HN := Lib.hid (za9 [x.1, x.2] #[.int .i64 x.1, .int .i64 x.2] 2 h1 (W.heap.size + 1) za4 rfl rfl (by simp; omega) (by simp))
 clear h h1 hb
 go_enter Tryz.func299, Tryz.ntmps299
 go_wp2_with fail
 refine HN.out.mono ?_
 rintro e w1 ⟨rfl, v1, h2⟩
 have H2 := Lib.hid h2
 clear h2 HN H1
 go_wp2_with fail
 refine bodyPost_end (results_none rfl _ _ _) rfl ?_
 exact ⟨rfl, v1, H2.out.dropAt 2 (by simp)⟩
end
def wList {α : Type} (one : Wr → α → Wr) (s : Wr) (l : List α) : Wr := if 256 < l.length then ⟨s.out, true⟩ else l.foldl one (wNum s l.length)
def wCert (s : Wr) (c : Cp) : Wr := wList wVote (wList wReq (wNum (wNum (wNum s c.view) c.inst) c.seq) c.rs) c.vs
def wPart (s : Wr) (p : Pa) : Wr := wNum (wList wCert (wList wVote (wNum s p.fm) p.vs) p.cs) p.sl
theorem ze2 {α : Type} (one : Wr → α → Wr) (K : Nat) (h : ∀ s x, (one s x).out.length ≤ s.out.length + K) : ∀ (l : List α) (s : Wr), (l.foldl one s).out.length ≤ s.out.length + K * l.length
 | [], s => by simp
 | x :: l, s => by have h1 := ze2 one K h l (one s x); have h2 := h s x; rw [List.foldl_cons, List.length_cons, Nat.mul_add]; omega
theorem zbu {α : Type} (one : Wr → α → Wr) (K : Nat) (h : ∀ s x, (one s x).out.length ≤ s.out.length + K) (l : List α) (s : Wr) : (wList one s l).out.length ≤ s.out.length + 6 + K * 256 := by
 unfold wList
 split
 ·simp; omega
 ·have h1 := ze2 one K h l (wNum s l.length)
  have h2 := zar s l.length
  have h3 : K * l.length ≤ K * 256 := Nat.mul_le_mul_left _ (by omega)
  omega
theorem zf0 (s : Wr) (c : Cp) : (wCert s c).out.length ≤ s.out.length + 12318 := by
 have h1 := zbu wVote 12 zb6 c.vs (wList wReq (wNum (wNum (wNum s c.view) c.inst) c.seq) c.rs)
 have h2 := zbu wReq 36 zfe c.rs (wNum (wNum (wNum s c.view) c.inst) c.seq)
 have h3 := zb7 [c.view, c.inst, c.seq] s
 simp only [List.foldl_cons, List.foldl_nil, List.length_cons, List.length_nil] at h3
 unfold wCert; omega
theorem zll (s : Wr) (p : Pa) : (wPart s p).out.length ≤ s.out.length + 3156510 := by
 have h0 := zar s p.fm
 have h1 := zbu wVote 12 zb6 p.vs (wNum s p.fm)
 have h2 := zbu wCert 12318 zf0 p.cs (wList wVote (wNum s p.fm) p.vs)
 have h3 := zar (wList wCert (wList wVote (wNum s p.fm) p.vs) p.cs) p.sl
 unfold wPart; omega
section
variable {B : Nat} {w0 w W W' : World} {ss rs : List Res} {p : Nat} {v bv : Value} {s : Wr}
theorem zhe {a b c d : Res} (h : Own B w0 W (a :: b :: c :: d :: rs)) : Own B w0 W (c :: d :: a :: b :: rs) := ((h.front 2 rfl rfl).front 3 rfl rfl).swap
theorem zlh {a b e c d : Res} (h : Own B w0 W (a :: b :: e :: c :: d :: rs)) : Own B w0 W (c :: d :: a :: b :: e :: rs) := ((h.front 3 rfl rfl).front 4 rfl rfl).swap
theorem zh4 {r : Res} (h : r.M = []) : Go.Heap.Ms (r :: rs) = Go.Heap.Ms rs := by simp [Go.Heap.Ms, h]
theorem zky (h : Own B w0 W rs) (k : Nat) {cts : List Ct} (e : rs[k]? = some (ctsR cts)) {c : Ct} (hc : c ∈ cts) : Own B w0 W (redR c.vb 6 c.rs.length (zam c.rs) :: redR c.vv 2 c.vs.length (zan c.vs) :: rs) := by
 obtain ⟨D, ⟨h1, hlt⟩, h2, h3⟩ := h.get k e
 have g1 : Own B w0 W (redR c.vv 2 c.vs.length (zan c.vs) :: rs) := h.new (Upd.refl [] _) ⟨D, ⟨(h1 c hc).v, hlt⟩, h2, h3⟩ (by simp [redR, imm])
 refine g1.new (Upd.refl [] _) ⟨D, ⟨(h1 c hc).b, hlt⟩, ?_, ?_⟩ (by simp [redR, imm])
 ·rw [zh4 rfl]; exact h2
 ·rw [zh4 rfl]; exact h3
theorem zqm (h : Own B w0 W rs) (k : Nat) {cts : List Ct} (e : rs[k]? = some (ctsR cts)) {c : Ct} (hc : c ∈ cts) : c.rs.length ≤ 100000 ∧ c.vs.length ≤ 100000 := by
 obtain ⟨D, ⟨h1, hlt⟩, h2, h3⟩ := h.get k e
 exact ⟨(h1 c hc).bn, (h1 c hc).vn⟩
theorem zqf (h : Own B w0 W rs) (k : Nat) {pts : List Pt} (e : rs[k]? = some (ptsR pts)) {c : Pt} (hc : c ∈ pts) : Own B w0 W (redR c.vv 2 c.vs.length (zan c.vs) :: redR c.cv 5 c.cts.length (c.cts.flatMap zal) :: ctsR c.cts :: rs) := by
 obtain ⟨D, ⟨h1, hlt⟩, h2, h3⟩ := h.get k e
 have g1 : Own B w0 W (ctsR c.cts :: rs) := h.new (Upd.refl [] _) ⟨D, ⟨(h1 c hc).cs, hlt⟩, h2, h3⟩ (by simp [ctsR, imm])
 have g2 : Own B w0 W (redR c.cv 5 c.cts.length (c.cts.flatMap zal) :: ctsR c.cts :: rs) := by
  refine g1.new (Upd.refl [] _) ⟨D, ⟨(h1 c hc).c, hlt⟩, ?_, ?_⟩ (by simp [redR, imm])
  ·rw [zh4 rfl]; exact h2
  ·rw [zh4 rfl]; exact h3
 refine g2.new (Upd.refl [] _) ⟨D, ⟨(h1 c hc).v, hlt⟩, ?_, ?_⟩ (by simp [redR, imm])
 ·rw [zh4 rfl, zh4 rfl]; exact h2
 ·rw [zh4 rfl, zh4 rfl]; exact h3
theorem zol (h : Own B w0 W rs) (k : Nat) {pts : List Pt} (e : rs[k]? = some (ptsR pts)) {c : Pt} (hc : c ∈ pts) : c.vs.length ≤ 100000 ∧ c.cts.length ≤ 100000 := by
 obtain ⟨D, ⟨h1, hlt⟩, h2, h3⟩ := h.get k e
 exact ⟨(h1 c hc).vn, (h1 c hc).cn⟩
theorem zm7 {l : List (Rq)} {lv : Value} (h : Own B w0 W (wrL p v s (redR lv 6 l.length (zam l) :: ss))) (hb : 256 < l.length) (g : Value) :
  Calls Tryz.prog 295 #[.pointer (some ⟨p, 0, none⟩), lv, g] W fun e w' => e = .returned (.tuple #[]) ∧ ∃ v', Own B w0 w' (wrL p v' (wList wReq s l) (redR lv 6 l.length (zam l) :: ss)) := by
 have hk : (256 : Int) < (l.length : Int) := by omega
 have x1 : W.cell? ⟨p, 1, none⟩ = some (.bool s.bad) := zaa h.blk_out 1 rfl
 have z1 := zab h.blk_out 1
 have HE := Lib.hid (show Own B w0 (W.setCell ⟨p, 1, none⟩ (.bool true)) (wrL p v (wList wReq s l) (redR lv 6 l.length (zam l) :: ss)) by
  unfold wList
  rw [if_pos (by simpa using hb)]
  exact Own.storeTo h 1 (.bool true) rfl)
 obtain ⟨ao, cap, rfl, hcap, -⟩ := zad (k := 2) h rfl
 clear h hb
 go_enter Tryz.func295, Tryz.ntmps295
 go_wp2_with fail
 refine bodyPost_ret (results_none rfl _ _ _) rfl ?_
 exact ⟨rfl, v, HE.out⟩
theorem zha {l : List (Rq)} {lv : Value} (h : Own B w0 W (wrL p v s (redR lv 6 l.length (zam l) :: ss))) (hn : l.length ≤ 100000) (hl : s.out.length ≤ 50000000000) :
  Calls Tryz.prog 295 #[.pointer (some ⟨p, 0, none⟩), lv, .func (.func 296) #[] #[]] W fun e w' => e = .returned (.tuple #[]) ∧ ∃ v', Own B w0 w' (wrL p v' (wList wReq s l) (redR lv 6 l.length (zam l) :: ss)) := by
 by_cases hb : 256 < l.length
 ·exact zm7 h hb _
 have hk : decide ((256 : Int) < (l.length : Int)) = false := by simp; omega
 have HE : Hid (wList wReq s l = l.foldl wReq (wNum s l.length)) := Lib.hid (by unfold wList; rw [if_neg (by simpa using hb)]; first | done | simp)
 have HN := Lib.hid (za9 [(l.length : Int)] #[.int .i64 l.length] 1 h W.heap.size rfl rfl rfl (by simp; omega) (by simp))
 have hg : (wNum s l.length).out.length ≤ s.out.length + 6 := zar s l.length
 simp only [List.foldl_cons, List.foldl_nil] at HN
 obtain ⟨ao, cap, rfl, hcap, -⟩ := zad (k := 2) h rfl
 generalize wNum s l.length = s1 at *
 clear h
 go_enter Tryz.func295, Tryz.ntmps295
 go_wp2_with fail
 refine HN.out.mono ?_
 rintro e w1 ⟨rfl, v1, h2⟩
 have H := Lib.hid h2
 clear h2 HN
 go_wp2_with fail
 go_loopw [21] (fun i wr => ∃ (k : Nat) (v : Value), i = .int .i64 k ∧ k ≤ l.length ∧ Hid (Own B w0 wr (wrL p v ((l.take k).foldl wReq s1) (redR (.slice ao l.length cap) 6 l.length (zam l) :: ss)))) (fun i _ => l.length - (intOf i).toNat)
 case atStart => exact ⟨0, v1, rfl, by omega, H⟩
 case round =>
  clear H
  obtain ⟨k, v, rfl, hk2, H⟩ := hrel
  by_cases hlt : k < l.length
  ·have hkI : (k : Int) < (l.length : Int) := by omega
   have hk0 : (0 : Int) ≤ (k : Int) := by omega
   have hcI : (l.length : Int) ≤ (cap : Int) := by omega
   obtain ⟨ao', cap', e0, -, -, -, -, h5⟩ := zad (k := 2) H.out rfl
   simp only [Value.slice.injEq, true_and] at e0
   obtain ⟨rfl, -⟩ := e0
   obtain ⟨b, o, rfl, -, hc⟩ := h5 (by omega)
   obtain ⟨q0, q1, q2, q3, q4, q5⟩ := zbp hc k l[k] (by simp)
   have hlen := ze2 wReq 36 zfe (l.take k) s1
   have hm : min k l.length = k := by omega
   rw [List.length_take, hm] at hlen
   have HC := Lib.hid (zo1 l[k] (H.out.alloc (rqBox l[k])) (by have := Nat.mul_le_mul_left 36 (show k ≤ 256 by omega); omega))
   have HS := Lib.hid (zco wReq l k (by simpa using hlt) s1)
   clear hc h5 H hlen
   generalize l[k] = x at *
   go_wp2_with fail
   refine HC.out.mono ?_
   rintro e w2 ⟨rfl, v2, h3⟩
   have H3 : Hid (Own B w0 w2 (wrL p v2 ((l.take (k + 1)).foldl wReq s1) (redR (.slice (some ⟨b, o, none⟩) l.length cap) 6 l.length (zam l) :: ss))) := Lib.hid (by rw [HS.out]; simpa using h3)
   clear h3 HC
   go_wp2_with fail
   go_roundw
   case rel => exact ⟨k + 1, v2, by go_num, by omega, H3⟩
   case measure => simp [intOf]; omega
  ·have hkI : decide ((k : Int) < (l.length : Int)) = false := by simp; omega
   have e : k = l.length := by omega
   subst e
   go_wp2_with fail
   refine bodyPost_end (results_none rfl _ _ _) rfl ?_
   have := H.out
   rw [List.take_of_length_le (by simp)] at this
   rw [HE.out]
   exact ⟨rfl, v, this⟩
theorem zkd {l : List (Int × Int)} {lv : Value} (h : Own B w0 W (wrL p v s (redR lv 2 l.length (zan l) :: ss))) (hb : 256 < l.length) (g : Value) :
  Calls Tryz.prog 298 #[.pointer (some ⟨p, 0, none⟩), lv, g] W fun e w' => e = .returned (.tuple #[]) ∧ ∃ v', Own B w0 w' (wrL p v' (wList wVote s l) (redR lv 2 l.length (zan l) :: ss)) := by
 have hk : (256 : Int) < (l.length : Int) := by omega
 have x1 : W.cell? ⟨p, 1, none⟩ = some (.bool s.bad) := zaa h.blk_out 1 rfl
 have z1 := zab h.blk_out 1
 have HE := Lib.hid (show Own B w0 (W.setCell ⟨p, 1, none⟩ (.bool true)) (wrL p v (wList wVote s l) (redR lv 2 l.length (zan l) :: ss)) by
  unfold wList
  rw [if_pos (by simpa using hb)]
  exact Own.storeTo h 1 (.bool true) rfl)
 obtain ⟨ao, cap, rfl, hcap, -⟩ := zad (k := 2) h rfl
 clear h hb
 go_enter Tryz.func298, Tryz.ntmps298
 go_wp2_with fail
 refine bodyPost_ret (results_none rfl _ _ _) rfl ?_
 exact ⟨rfl, v, HE.out⟩
theorem zej {l : List (Int × Int)} {lv : Value} (h : Own B w0 W (wrL p v s (redR lv 2 l.length (zan l) :: ss))) (hn : l.length ≤ 100000) (hl : s.out.length ≤ 50000000000) :
  Calls Tryz.prog 298 #[.pointer (some ⟨p, 0, none⟩), lv, .func (.func 299) #[] #[]] W fun e w' => e = .returned (.tuple #[]) ∧ ∃ v', Own B w0 w' (wrL p v' (wList wVote s l) (redR lv 2 l.length (zan l) :: ss)) := by
 by_cases hb : 256 < l.length
 ·exact zkd h hb _
 have hk : decide ((256 : Int) < (l.length : Int)) = false := by simp; omega
 have HE : Hid (wList wVote s l = l.foldl wVote (wNum s l.length)) := Lib.hid (by unfold wList; rw [if_neg (by simpa using hb)]; first | done | simp)
 have HN := Lib.hid (za9 [(l.length : Int)] #[.int .i64 l.length] 1 h W.heap.size rfl rfl rfl (by simp; omega) (by simp))
 have hg : (wNum s l.length).out.length ≤ s.out.length + 6 := zar s l.length
 simp only [List.foldl_cons, List.foldl_nil] at HN
 obtain ⟨ao, cap, rfl, hcap, -⟩ := zad (k := 2) h rfl
 generalize wNum s l.length = s1 at *
 clear h
 go_enter Tryz.func298, Tryz.ntmps298
 go_wp2_with fail
 refine HN.out.mono ?_
 rintro e w1 ⟨rfl, v1, h2⟩
 have H := Lib.hid h2
 clear h2 HN
 go_wp2_with fail
 go_loopw [21] (fun i wr => ∃ (k : Nat) (v : Value), i = .int .i64 k ∧ k ≤ l.length ∧ Hid (Own B w0 wr (wrL p v ((l.take k).foldl wVote s1) (redR (.slice ao l.length cap) 2 l.length (zan l) :: ss)))) (fun i _ => l.length - (intOf i).toNat)
 case atStart => exact ⟨0, v1, rfl, by omega, H⟩
 case round =>
  clear H
  obtain ⟨k, v, rfl, hk2, H⟩ := hrel
  by_cases hlt : k < l.length
  ·have hkI : (k : Int) < (l.length : Int) := by omega
   have hk0 : (0 : Int) ≤ (k : Int) := by omega
   have hcI : (l.length : Int) ≤ (cap : Int) := by omega
   obtain ⟨ao', cap', e0, -, -, -, -, h5⟩ := zad (k := 2) H.out rfl
   simp only [Value.slice.injEq, true_and] at e0
   obtain ⟨rfl, -⟩ := e0
   obtain ⟨b, o, rfl, -, hc⟩ := h5 (by omega)
   obtain ⟨q0, q1⟩ := zfy hc k l[k] (by simp)
   have hlen := ze2 wVote 12 zb6 (l.take k) s1
   have hm : min k l.length = k := by omega
   rw [List.length_take, hm] at hlen
   have HC := Lib.hid (zq6 l[k] (H.out.alloc (.cells #[.int .i64 l[k].1, .int .i64 l[k].2] 177 (0, 0))) (by have := Nat.mul_le_mul_left 12 (show k ≤ 256 by omega); omega))
   have HS := Lib.hid (zco wVote l k (by simpa using hlt) s1)
   clear hc h5 H hlen
   generalize l[k] = x at *
   go_wp2_with fail
   refine HC.out.mono ?_
   rintro e w2 ⟨rfl, v2, h3⟩
   have H3 : Hid (Own B w0 w2 (wrL p v2 ((l.take (k + 1)).foldl wVote s1) (redR (.slice (some ⟨b, o, none⟩) l.length cap) 2 l.length (zan l) :: ss))) := Lib.hid (by rw [HS.out]; simpa using h3)
   clear h3 HC
   go_wp2_with fail
   go_roundw
   case rel => exact ⟨k + 1, v2, by go_num, by omega, H3⟩
   case measure => simp [intOf]; omega
  ·have hkI : decide ((k : Int) < (l.length : Int)) = false := by simp; omega
   have e : k = l.length := by omega
   subst e
   go_wp2_with fail
   refine bodyPost_end (results_none rfl _ _ _) rfl ?_
   have := H.out
   rw [List.take_of_length_le (by simp)] at this
   rw [HE.out]
   exact ⟨rfl, v, this⟩
theorem zry (c : Ct) (h : Own B w0 W (wrL p v s (redR c.vb 6 c.rs.length (zam c.rs) :: redR c.vv 2 c.vs.length (zan c.vs) :: ss))) (hr : c.rs.length ≤ 100000) (hv : c.vs.length ≤ 100000) (hl : s.out.length ≤ 40000000000) :
  Calls Tryz.prog 301 #[.pointer (some ⟨p, 0, none⟩), ctAgg c] W fun e w' => e = .returned (.tuple #[]) ∧ ∃ v', Own B w0 w' (wrL p v' (wCert s c.cp) (redR c.vb 6 c.rs.length (zam c.rs) :: redR c.vv 2 c.vs.length (zan c.vs) :: ss)) := by
 obtain ⟨view, inst, seq, vb, vv, rs, vs⟩ := c
 simp only [Ct.cp] at h hr hv ⊢
 obtain ⟨a1, c1, rfl, -, -⟩ := zad (k := 2) h rfl
 obtain ⟨a2, c2, rfl, -, -⟩ := zad (k := 3) h rfl
 have h1 : Own B w0 (W.alloc (ctO view inst seq (.slice a1 rs.length c1) (.slice a2 vs.length c2))) (wrL p v s (blk W.heap.size (ctO view inst seq (.slice a1 rs.length c1) (.slice a2 vs.length c2)) :: redR (.slice a1 rs.length c1) 6 rs.length (zam rs) :: redR (.slice a2 vs.length c2) 2 vs.length (zan vs) :: ss)) := (h.box _).rot'
 have hb := h1.blkAt 2 rfl
 have x0 := zaa hb 0 rfl
 have x1 := zaa hb 1 rfl
 have x2 := zaa hb 2 rfl
 have HE : Hid (wCert s ⟨view, inst, seq, rs, vs⟩ = wList wVote (wList wReq ([view, inst, seq].foldl wNum s) rs) vs) := Lib.hid rfl
 have g1 := zb7 [view, inst, seq] s
 have HN := Lib.hid (za9 [view, inst, seq] #[.int .i64 view, .int .i64 inst, .int .i64 seq] 3 h1 (W.heap.size + 1) za4 rfl rfl (by simp; omega) (by simp))
 simp only [List.length_cons, List.length_nil] at g1
 generalize [view, inst, seq].foldl wNum s = s1 at *
 clear h h1 hb
 go_enter Tryz.func301, Tryz.ntmps301
 go_wp2_with fail
 refine HN.out.mono ?_
 rintro e w1 ⟨rfl, v1, h2⟩
 have y3 := zaa (h2.blkAt 2 rfl) 3 rfl
 have HC := Lib.hid (zha ((h2.front 3 rfl rfl).rot') hr (by omega))
 have g2 := zbu wReq 36 zfe rs s1
 generalize wList wReq s1 rs = s2 at *
 clear h2 HN x0 x1 x2
 go_wp2_with fail
 refine HC.out.mono ?_
 rintro e w2 ⟨rfl, v2, h3⟩
 have y4 := zaa (h3.blkAt 3 rfl) 4 rfl
 have HV := Lib.hid (zej ((h3.front 4 rfl rfl).rot') hv (by omega))
 clear h3 HC y3
 go_wp2_with fail
 refine HV.out.mono ?_
 rintro e w3 ⟨rfl, v3, h4⟩
 have H4 := Lib.hid h4
 clear h4 HV y4
 go_wp2_with fail
 refine bodyPost_end (results_none rfl _ _ _) rfl ?_
 rw [HE.out]
 exact ⟨rfl, v3, ((H4.out.dropAt 4 (by simp)).front 3 rfl rfl).rot'⟩
theorem zki {l : List (Ct)} {lv : Value} (h : Own B w0 W (wrL p v s (redR lv 5 l.length (l.flatMap zal) :: ctsR l :: ss))) (hb : 256 < l.length) (g : Value) :
  Calls Tryz.prog 300 #[.pointer (some ⟨p, 0, none⟩), lv, g] W fun e w' => e = .returned (.tuple #[]) ∧ ∃ v', Own B w0 w' (wrL p v' (wList wCert s (l.map Ct.cp)) (redR lv 5 l.length (l.flatMap zal) :: ctsR l :: ss)) := by
 have hk : (256 : Int) < (l.length : Int) := by omega
 have x1 : W.cell? ⟨p, 1, none⟩ = some (.bool s.bad) := zaa h.blk_out 1 rfl
 have z1 := zab h.blk_out 1
 have HE := Lib.hid (show Own B w0 (W.setCell ⟨p, 1, none⟩ (.bool true)) (wrL p v (wList wCert s (l.map Ct.cp)) (redR lv 5 l.length (l.flatMap zal) :: ctsR l :: ss)) by
  unfold wList
  rw [if_pos (by simpa using hb)]
  exact Own.storeTo h 1 (.bool true) rfl)
 obtain ⟨ao, cap, rfl, hcap, -⟩ := zad (k := 2) h rfl
 clear h hb
 go_enter Tryz.func300, Tryz.ntmps300
 go_wp2_with fail
 refine bodyPost_ret (results_none rfl _ _ _) rfl ?_
 exact ⟨rfl, v, HE.out⟩
theorem zgw {l : List (Ct)} {lv : Value} (h : Own B w0 W (wrL p v s (redR lv 5 l.length (l.flatMap zal) :: ctsR l :: ss))) (hn : l.length ≤ 100000) (hl : s.out.length ≤ 30000000000) :
  Calls Tryz.prog 300 #[.pointer (some ⟨p, 0, none⟩), lv, .func (.func 301) #[] #[]] W fun e w' => e = .returned (.tuple #[]) ∧ ∃ v', Own B w0 w' (wrL p v' (wList wCert s (l.map Ct.cp)) (redR lv 5 l.length (l.flatMap zal) :: ctsR l :: ss)) := by
 by_cases hb : 256 < l.length
 ·exact zki h hb _
 have hk : decide ((256 : Int) < (l.length : Int)) = false := by simp; omega
 have HE : Hid (wList wCert s (l.map Ct.cp) = (l.map Ct.cp).foldl wCert (wNum s l.length)) := Lib.hid (by unfold wList; rw [if_neg (by simpa using hb)]; first | done | simp)
 have HN := Lib.hid (za9 [(l.length : Int)] #[.int .i64 l.length] 1 h W.heap.size rfl rfl rfl (by simp; omega) (by simp))
 have hg : (wNum s l.length).out.length ≤ s.out.length + 6 := zar s l.length
 simp only [List.foldl_cons, List.foldl_nil] at HN
 obtain ⟨ao, cap, rfl, hcap, -⟩ := zad (k := 2) h rfl
 generalize wNum s l.length = s1 at *
 clear h
 go_enter Tryz.func300, Tryz.ntmps300
 go_wp2_with fail
 refine HN.out.mono ?_
 rintro e w1 ⟨rfl, v1, h2⟩
 have H := Lib.hid h2
 clear h2 HN
 go_wp2_with fail
 go_loopw [21] (fun i wr => ∃ (k : Nat) (v : Value), i = .int .i64 k ∧ k ≤ l.length ∧ Hid (Own B w0 wr (wrL p v (((l.map Ct.cp).take k).foldl wCert s1) (redR (.slice ao l.length cap) 5 l.length (l.flatMap zal) :: ctsR l :: ss)))) (fun i _ => l.length - (intOf i).toNat)
 case atStart => exact ⟨0, v1, rfl, by omega, H⟩
 case round =>
  clear H
  obtain ⟨k, v, rfl, hk2, H⟩ := hrel
  by_cases hlt : k < l.length
  ·have hkI : (k : Int) < (l.length : Int) := by omega
   have hk0 : (0 : Int) ≤ (k : Int) := by omega
   have hcI : (l.length : Int) ≤ (cap : Int) := by omega
   obtain ⟨ao', cap', e0, -, -, -, -, h5⟩ := zad (k := 2) H.out rfl
   simp only [Value.slice.injEq, true_and] at e0
   obtain ⟨rfl, -⟩ := e0
   obtain ⟨b, o, rfl, -, hc⟩ := h5 (by omega)
   have hj : ∀ j, j < 5 → wr.cell? ⟨b, o + k * 5 + j, none⟩ = (zal l[k])[j]? := fun j hj => by
    rw [Nat.add_assoc, hc _ (by omega), zdl zal 5 (fun _ => rfl) l k j hlt hj]
   have q0 := hj 0 (by omega)
   have q1 := hj 1 (by omega)
   have q2 := hj 2 (by omega)
   have q3 := hj 3 (by omega)
   have q4 := hj 4 (by omega)
   have hlen := ze2 wCert 12318 zf0 ((l.map Ct.cp).take k) s1
   have hm : min k l.length = k := by omega
   rw [List.length_take, List.length_map, hm] at hlen
   have hp := zky H.out 3 rfl (List.getElem_mem hlt)
   have hle := zqm H.out 3 rfl (List.getElem_mem hlt)
   have hmap : (l.map Ct.cp)[k]'(by simpa using hlt) = l[k].cp := by simp
   have HS := Lib.hid (zco wCert (l.map Ct.cp) k (by simpa using hlt) s1)
   rw [hmap] at HS
   clear hc h5 hj hmap
   generalize hx : l[k] = x at *
   clear hx
   obtain ⟨xview, xinst, xseq, xvb, xvv, xrs, xvs⟩ := x
   simp only [Ct.cp] at HS hp hle
   obtain ⟨bo1, bc1, rfl, -, -⟩ := zad (k := 0) hp rfl
   obtain ⟨bo2, bc2, rfl, -, -⟩ := zad (k := 1) hp rfl
   have HC := Lib.hid (zry ⟨xview, xinst, xseq, .slice bo1 xrs.length bc1, .slice bo2 xvs.length bc2, xrs, xvs⟩ ((zhe hp).alloc (ctO xview xinst xseq (.slice bo1 xrs.length bc1) (.slice bo2 xvs.length bc2))) hle.1 hle.2 (by have := Nat.mul_le_mul_left 12318 (show k ≤ 256 by omega); omega))
   clear hp H
   simp only [zal, List.getElem?_cons_zero, List.getElem?_cons_succ, Nat.add_zero] at q0 q1 q2 q3 q4
   go_wp2_with fail
   refine HC.out.mono ?_
   rintro e w2 ⟨rfl, v2, h3⟩
   have H3 : Hid (Own B w0 w2 (wrL p v2 (((l.map Ct.cp).take (k + 1)).foldl wCert s1) (redR (.slice (some ⟨b, o, none⟩) l.length cap) 5 l.length (l.flatMap zal) :: ctsR l :: ss))) := Lib.hid (by rw [HS.out]; exact (h3.dropAt 2 (by simp)).dropAt 2 (by simp))
   clear h3 HC
   go_wp2_with fail
   go_roundw
   case rel => exact ⟨k + 1, v2, by go_num, by omega, H3⟩
   case measure => simp [intOf]; omega
  ·have hkI : decide ((k : Int) < (l.length : Int)) = false := by simp; omega
   have e : k = l.length := by omega
   subst e
   go_wp2_with fail
   refine bodyPost_end (results_none rfl _ _ _) rfl ?_
   have := H.out
   rw [List.take_of_length_le (by simp)] at this
   rw [HE.out]
   exact ⟨rfl, v, this⟩
theorem zs5 (c : Pt) (h : Own B w0 W (wrL p v s (redR c.vv 2 c.vs.length (zan c.vs) :: redR c.cv 5 c.cts.length (c.cts.flatMap zal) :: ctsR c.cts :: ss))) (hr : c.vs.length ≤ 100000) (hv : c.cts.length ≤ 100000) (hl : s.out.length ≤ 20000000000) :
  Calls Tryz.prog 303 #[.pointer (some ⟨p, 0, none⟩), ptAgg c] W fun e w' => e = .returned (.tuple #[]) ∧ ∃ v', Own B w0 w' (wrL p v' (wPart s c.pa) (redR c.vv 2 c.vs.length (zan c.vs) :: redR c.cv 5 c.cts.length (c.cts.flatMap zal) :: ctsR c.cts :: ss)) := by
 obtain ⟨fm, vv, vs, cv, cts, sl⟩ := c
 simp only [Pt.pa] at h hr hv ⊢
 obtain ⟨a1, c1, rfl, -, -⟩ := zad (k := 2) h rfl
 obtain ⟨a2, c2, rfl, -, -⟩ := zad (k := 3) h rfl
 have h1 : Own B w0 (W.alloc (.cells #[.int .i64 fm, .slice a1 vs.length c1, .slice a2 cts.length c2, .int .i64 sl] 49 (0, 0))) (wrL p v s (blk W.heap.size (.cells #[.int .i64 fm, .slice a1 vs.length c1, .slice a2 cts.length c2, .int .i64 sl] 49 (0, 0)) :: redR (.slice a1 vs.length c1) 2 vs.length (zan vs) :: redR (.slice a2 cts.length c2) 5 cts.length (cts.flatMap zal) :: ctsR cts :: ss)) := (h.box _).rot'
 have x0 := zaa (h1.blkAt 2 rfl) 0 rfl
 have HE : Hid (wPart s ⟨fm, vs, cts.map Ct.cp, sl⟩ = [sl].foldl wNum (wList wCert (wList wVote ([fm].foldl wNum s) vs) (cts.map Ct.cp))) := Lib.hid rfl
 have g1 := zb7 [fm] s
 have HN := Lib.hid (za9 [fm] #[.int .i64 fm] 1 h1 (W.heap.size + 1) za4 rfl rfl (by simp; omega) (by simp))
 simp only [List.length_cons, List.length_nil] at g1
 generalize [fm].foldl wNum s = s1 at *
 clear h h1
 go_enter Tryz.func303, Tryz.ntmps303
 go_wp2_with fail
 refine HN.out.mono ?_
 rintro e w1 ⟨rfl, v1, h2⟩
 have y1 := zaa (h2.blkAt 2 rfl) 1 rfl
 have HC := Lib.hid (zej ((h2.front 3 rfl rfl).rot') hr (by omega))
 have g2 := zbu wVote 12 zb6 vs s1
 generalize wList wVote s1 vs = s2 at *
 clear h2 HN x0
 go_wp2_with fail
 refine HC.out.mono ?_
 rintro e w2 ⟨rfl, v2, h3⟩
 have y2 := zaa (h3.blkAt 3 rfl) 2 rfl
 have HV := Lib.hid (zgw (zhe ((h3.front 5 rfl rfl).front 5 rfl rfl)) hv (by omega))
 have g3 := zbu wCert 12318 zf0 (cts.map Ct.cp) s2
 generalize wList wCert s2 (cts.map Ct.cp) = s3 at *
 clear h3 HC y1
 go_wp2_with fail
 refine HV.out.mono ?_
 rintro e w3 ⟨rfl, v3, h4⟩
 have y3 := zaa (h4.blkAt 5 rfl) 3 rfl
 have HN4 := Lib.hid (za9 [sl] #[.int .i64 sl] 1 h4 w3.heap.size rfl rfl rfl (by simp; omega) (by simp))
 clear h4 HV y2
 go_wp2_with fail
 refine HN4.out.mono ?_
 rintro e w4 ⟨rfl, v4, h5⟩
 have H5 := Lib.hid h5
 clear h5 HN4 y3
 go_wp2_with fail
 refine bodyPost_end (results_none rfl _ _ _) rfl ?_
 rw [HE.out]
 exact ⟨rfl, v4, ((H5.out.dropAt 5 (by simp)).front 4 rfl rfl).rot'⟩
theorem zk7 {l : List (Pt)} {lv : Value} (h : Own B w0 W (wrL p v s (redR lv 4 l.length (l.flatMap zat) :: ptsR l :: ss))) (hb : 256 < l.length) (g : Value) :
  Calls Tryz.prog 302 #[.pointer (some ⟨p, 0, none⟩), lv, g] W fun e w' => e = .returned (.tuple #[]) ∧ ∃ v', Own B w0 w' (wrL p v' (wList wPart s (l.map Pt.pa)) (redR lv 4 l.length (l.flatMap zat) :: ptsR l :: ss)) := by
 have hk : (256 : Int) < (l.length : Int) := by omega
 have x1 : W.cell? ⟨p, 1, none⟩ = some (.bool s.bad) := zaa h.blk_out 1 rfl
 have z1 := zab h.blk_out 1
 have HE := Lib.hid (show Own B w0 (W.setCell ⟨p, 1, none⟩ (.bool true)) (wrL p v (wList wPart s (l.map Pt.pa)) (redR lv 4 l.length (l.flatMap zat) :: ptsR l :: ss)) by
  unfold wList
  rw [if_pos (by simpa using hb)]
  exact Own.storeTo h 1 (.bool true) rfl)
 obtain ⟨ao, cap, rfl, hcap, -⟩ := zad (k := 2) h rfl
 clear h hb
 go_enter Tryz.func302, Tryz.ntmps302
 go_wp2_with fail
 refine bodyPost_ret (results_none rfl _ _ _) rfl ?_
 exact ⟨rfl, v, HE.out⟩
theorem zkv {l : List (Pt)} {lv : Value} (h : Own B w0 W (wrL p v s (redR lv 4 l.length (l.flatMap zat) :: ptsR l :: ss))) (hn : l.length ≤ 100000) (hl : s.out.length ≤ 10000000000) :
  Calls Tryz.prog 302 #[.pointer (some ⟨p, 0, none⟩), lv, .func (.func 303) #[] #[]] W fun e w' => e = .returned (.tuple #[]) ∧ ∃ v', Own B w0 w' (wrL p v' (wList wPart s (l.map Pt.pa)) (redR lv 4 l.length (l.flatMap zat) :: ptsR l :: ss)) := by
 by_cases hb : 256 < l.length
 ·exact zk7 h hb _
 have hk : decide ((256 : Int) < (l.length : Int)) = false := by simp; omega
 have HE : Hid (wList wPart s (l.map Pt.pa) = (l.map Pt.pa).foldl wPart (wNum s l.length)) := Lib.hid (by unfold wList; rw [if_neg (by simpa using hb)]; first | done | simp)
 have HN := Lib.hid (za9 [(l.length : Int)] #[.int .i64 l.length] 1 h W.heap.size rfl rfl rfl (by simp; omega) (by simp))
 have hg : (wNum s l.length).out.length ≤ s.out.length + 6 := zar s l.length
 simp only [List.foldl_cons, List.foldl_nil] at HN
 obtain ⟨ao, cap, rfl, hcap, -⟩ := zad (k := 2) h rfl
 generalize wNum s l.length = s1 at *
 clear h
 go_enter Tryz.func302, Tryz.ntmps302
 go_wp2_with fail
 refine HN.out.mono ?_
 rintro e w1 ⟨rfl, v1, h2⟩
 have H := Lib.hid h2
 clear h2 HN
 go_wp2_with fail
 go_loopw [21] (fun i wr => ∃ (k : Nat) (v : Value), i = .int .i64 k ∧ k ≤ l.length ∧ Hid (Own B w0 wr (wrL p v (((l.map Pt.pa).take k).foldl wPart s1) (redR (.slice ao l.length cap) 4 l.length (l.flatMap zat) :: ptsR l :: ss)))) (fun i _ => l.length - (intOf i).toNat)
 case atStart => exact ⟨0, v1, rfl, by omega, H⟩
 case round =>
  clear H
  obtain ⟨k, v, rfl, hk2, H⟩ := hrel
  by_cases hlt : k < l.length
  ·have hkI : (k : Int) < (l.length : Int) := by omega
   have hk0 : (0 : Int) ≤ (k : Int) := by omega
   have hcI : (l.length : Int) ≤ (cap : Int) := by omega
   obtain ⟨ao', cap', e0, -, -, -, -, h5⟩ := zad (k := 2) H.out rfl
   simp only [Value.slice.injEq, true_and] at e0
   obtain ⟨rfl, -⟩ := e0
   obtain ⟨b, o, rfl, -, hc⟩ := h5 (by omega)
   have hj : ∀ j, j < 4 → wr.cell? ⟨b, o + k * 4 + j, none⟩ = (zat l[k])[j]? := fun j hj => by
    rw [Nat.add_assoc, hc _ (by omega), zdl zat 4 (fun _ => rfl) l k j hlt hj]
   have q0 := hj 0 (by omega)
   have q1 := hj 1 (by omega)
   have q2 := hj 2 (by omega)
   have q3 := hj 3 (by omega)
   have hlen := ze2 wPart 3156510 zll ((l.map Pt.pa).take k) s1
   have hm : min k l.length = k := by omega
   rw [List.length_take, List.length_map, hm] at hlen
   have hp := zqf H.out 3 rfl (List.getElem_mem hlt)
   have hle := zol H.out 3 rfl (List.getElem_mem hlt)
   have hmap : (l.map Pt.pa)[k]'(by simpa using hlt) = l[k].pa := by simp
   have HS := Lib.hid (zco wPart (l.map Pt.pa) k (by simpa using hlt) s1)
   rw [hmap] at HS
   clear hc h5 hj hmap
   generalize hx : l[k] = x at *
   clear hx
   obtain ⟨xfm, xvv, xvs, xcv, xcts, xsl⟩ := x
   simp only [Pt.pa] at HS hp hle
   obtain ⟨bo1, bc1, rfl, -, -⟩ := zad (k := 0) hp rfl
   obtain ⟨bo2, bc2, rfl, -, -⟩ := zad (k := 1) hp rfl
   have HC := Lib.hid (zs5 ⟨xfm, .slice bo1 xvs.length bc1, xvs, .slice bo2 xcts.length bc2, xcts, xsl⟩ ((zlh hp).alloc (.cells #[.int .i64 xfm, .slice bo1 xvs.length bc1, .slice bo2 xcts.length bc2, .int .i64 xsl] 49 (0, 0))) hle.1 hle.2 (by have := Nat.mul_le_mul_left 3156510 (show k ≤ 256 by omega); omega))
   clear hp H
   simp only [zat, List.getElem?_cons_zero, List.getElem?_cons_succ, Nat.add_zero] at q0 q1 q2 q3
   go_wp2_with fail
   refine HC.out.mono ?_
   rintro e w2 ⟨rfl, v2, h3⟩
   have H3 : Hid (Own B w0 w2 (wrL p v2 (((l.map Pt.pa).take (k + 1)).foldl wPart s1) (redR (.slice (some ⟨b, o, none⟩) l.length cap) 4 l.length (l.flatMap zat) :: ptsR l :: ss))) := Lib.hid (by rw [HS.out]; exact ((h3.dropAt 2 (by simp)).dropAt 2 (by simp)).dropAt 2 (by simp))
   clear h3 HC
   go_wp2_with fail
   go_roundw
   case rel => exact ⟨k + 1, v2, by go_num, by omega, H3⟩
   case measure => simp [intOf]; omega
  ·have hkI : decide ((k : Int) < (l.length : Int)) = false := by simp; omega
   have e : k = l.length := by omega
   subst e
   go_wp2_with fail
   refine bodyPost_end (results_none rfl _ _ _) rfl ?_
   have := H.out
   rw [List.take_of_length_le (by simp)] at this
   rw [HE.out]
   exact ⟨rfl, v, this⟩
end
def Wrt (f : Wr → Wr) (ok : Bool) (e : Bys) : Prop := ∀ s, (f s).bad = (s.bad || !ok) ∧ (ok = true → (f s).out = s.out ++ e)
theorem Wrt.then {f g : Wr → Wr} {o1 o2 : Bool} {e1 e2 : Bys} (h : Wrt f o1 e1) (k : Wrt g o2 e2) : Wrt (fun s => g (f s)) (o1 && o2) (e1 ++ e2) := fun s => by
 obtain ⟨a1, a2⟩ := h s
 obtain ⟨b1, b2⟩ := k (f s)
 refine ⟨?_, fun ho => ?_⟩
 ·simp only [b1, a1]; cases s.bad <;> cases o1 <;> cases o2 <;> rfl
 ·simp only [Bool.and_eq_true] at ho
  simp only [b2 ho.2, a2 ho.1, List.append_assoc]
theorem za0 (n : Int) : Wrt (fun s => wNum s n) (numOk n) (numB n) := fun s => ⟨rfl, fun h => by simp [wNum, wPut, numX, h]⟩
theorem zqj (n : Int) : Wrt (fun s => wSgn s n) (sgnOk n) (sgnB n) := fun s => ⟨rfl, fun h => by simp [wSgn, wPut, sgnX, h]⟩
theorem zjm (r : Rq) : Wrt (fun s => wReq s r) (reqW r) (reqB r) := by
 have h := (((((za0 r.client).then (za0 r.time)).then (za0 r.kind)).then (zqj r.key)).then (zqj r.val)).then (za0 r.sl)
 have e1 : reqW r = (((((numOk r.client && numOk r.time) && numOk r.kind) && sgnOk r.key) && sgnOk r.val) && numOk r.sl) := by unfold reqW; simp only [Bool.and_assoc]
 have e2 : reqB r = (((((numB r.client ++ numB r.time) ++ numB r.kind) ++ sgnB r.key) ++ sgnB r.val) ++ numB r.sl) := by unfold reqB; simp only [List.append_assoc]
 rw [e1, e2]; exact h
theorem ze8 (x : Int × Int) : Wrt (fun s => wVote s x) (vtW x) (vtB x) := (za0 x.1).then (za0 x.2)
theorem zpc {α : Type} {one : Wr → α → Wr} {ok : α → Bool} {enc : α → Bys} (h : ∀ x, Wrt (fun s => one s x) (ok x) (enc x)) : ∀ l : List α, Wrt (fun s => l.foldl one s) (l.all ok) (l.flatMap enc)
 | [] => fun s => ⟨by simp, fun _ => by simp⟩
 | x :: l => by
  have := (h x).then (zpc h l)
  simpa only [List.foldl_cons, List.all_cons, List.flatMap_cons] using this
theorem zdp {α : Type} {one : Wr → α → Wr} {ok : α → Bool} {enc : α → Bys} (h : ∀ x, Wrt (fun s => one s x) (ok x) (enc x)) (l : List α) : Wrt (fun s => wList one s l) (listW ok l) (listB enc l) := by
 by_cases hb : 256 < l.length
 ·have e : listW ok l = false := by unfold listW; rw [decide_eq_false (by omega)]; rfl
  intro s
  rw [e]
  refine ⟨?_, fun h => by cases h⟩
  show (wList one s l).bad = _
  unfold wList
  rw [if_pos hb]; simp
 ·have e : listW ok l = (numOk (l.length : Int) && l.all ok) := by
   have : numOk (l.length : Int) = true := by unfold numOk; simp; omega
   unfold listW; rw [decide_eq_true (by omega), this]
  rw [e]
  have := (za0 (l.length : Int)).then (zpc h l)
  intro s
  have h2 := this s
  have e2 : wList one s l = l.foldl one (wNum s l.length) := by unfold wList; rw [if_neg hb]
  show (wList one s l).bad = _ ∧ (_ → (wList one s l).out = _)
  rw [e2]
  exact h2
theorem zno (c : Cp) : Wrt (fun s => wCert s c) (certW c) (certB c) := by
 have h := ((((za0 c.view).then (za0 c.inst)).then (za0 c.seq)).then (zdp zjm c.rs)).then (zdp ze8 c.vs)
 have e1 : certW c = ((((numOk c.view && numOk c.inst) && numOk c.seq) && listW reqW c.rs) && listW vtW c.vs) := by unfold certW; simp only [Bool.and_assoc]
 have e2 : certB c = ((((numB c.view ++ numB c.inst) ++ numB c.seq) ++ listB reqB c.rs) ++ listB vtB c.vs) := by unfold certB; simp only [List.append_assoc]
 rw [e1, e2]; exact h
theorem zug (p : Pa) : Wrt (fun s => wPart s p) (partW p) (partB p) := by
 have h := (((za0 p.fm).then (zdp ze8 p.vs)).then (zdp zno p.cs)).then (za0 p.sl)
 have e1 : partW p = (((numOk p.fm && listW vtW p.vs) && listW certW p.cs) && numOk p.sl) := by unfold partW; simp only [Bool.and_assoc]
 have e2 : partB p = (((numB p.fm ++ listB vtB p.vs) ++ listB certB p.cs) ++ numB p.sl) := by unfold partB; simp only [List.append_assoc]
 rw [e1, e2]; exact h
def doneX (s : Wr) : Bys := if s.bad then [] else s.out
abbrev w00 : Wr := ⟨[], false⟩
theorem ztl {f : Wr → Wr} {ok : Bool} {e : Bys} (h : Wrt f ok e) : (f w00).bad = !ok ∧ doneX (f w00) = if ok then e else [] := by
 obtain ⟨h1, h2⟩ := h w00
 simp only [Bool.false_or] at h1
 refine ⟨h1, ?_⟩
 unfold doneX
 rw [h1]
 cases ok with
 | true => simp [h2 rfl]
 | false => simp
def wSec (s w : Wr) : Wr := wPut s (doneX w) (!w.bad)
def wMs (m : Ms) : Wr :=
 wSec (wSec (wSec (wSec (wSgn ([m.kind, m.fm, m.view, m.inst, m.seq].foldl wNum w00) m.res) (wList wReq w00 m.rs)) (wList wVote w00 m.vs)) (wList wCert w00 m.cs)) (wList wPart w00 m.ps)
theorem zmb {f : Wr → Wr} {ok : Bool} {e : Bys} (h : Wrt f ok e) : Wrt (fun s => wSec s (f w00)) ok e := fun s => by
 obtain ⟨h1, h2⟩ := ztl h
 refine ⟨?_, fun ho => ?_⟩
 ·simp [wSec, wPut, h1]
 ·simp [wSec, wPut, h2, ho]
theorem zwr (m : Ms) : (if (wMs m).bad || decide (65536 < (wMs m).out.length) then none else some (wMs m).out) = bodyP m := by
 have h := ((((((((((za0 m.kind).then (za0 m.fm)).then (za0 m.view)).then (za0 m.inst)).then (za0 m.seq)).then (zqj m.res)).then (zmb (zdp zjm m.rs))).then (zmb (zdp ze8 m.vs))).then (zmb (zdp zno m.cs))).then (zmb (zdp zug m.ps))) w00
 have e1 : msW m = (((((((((numOk m.kind && numOk m.fm) && numOk m.view) && numOk m.inst) && numOk m.seq) && sgnOk m.res) && listW reqW m.rs) && listW vtW m.vs) && listW certW m.cs) && listW partW m.ps) := by unfold msW; simp only [Bool.and_assoc]
 have e2 : msB m = (((((((((numB m.kind ++ numB m.fm) ++ numB m.view) ++ numB m.inst) ++ numB m.seq) ++ sgnB m.res) ++ listB reqB m.rs) ++ listB vtB m.vs) ++ listB certB m.cs) ++ listB partB m.ps) := by unfold msB; simp only [List.append_assoc]
 rw [← e1, ← e2] at h
 obtain ⟨h1, h2⟩ := h
 have h1 : (wMs m).bad = (w00.bad || !msW m) := h1
 simp only [Bool.false_or] at h1
 have h2 : msW m = true → (wMs m).out = w00.out ++ msB m := h2
 simp only [List.nil_append] at h2
 unfold bodyP
 rw [h1]
 cases ho : msW m with
 | false => simp
 | true =>
  rw [h2 ho]
  by_cases hl : (msB m).length ≤ 65536
  ·simp [hl, show ¬ 65536 < (msB m).length by omega]
  ·simp [hl, show 65536 < (msB m).length by omega]
section
variable {B : Nat} {w0 w W W' : World} {ss rs : List Res} {p : Nat} {v bv : Value} {s : Wr}
theorem ze1 (h : Own B w0 W (wrL p v s ss)) : Calls Tryz.prog 297 #[.pointer (some ⟨p, 0, none⟩)] W fun e w' => ∃ v', e = .returned (.tuple #[v', .bool (!s.bad)]) ∧ Own B w0 w' (bysR v' (doneX s) :: ss) := by
 have H := Lib.hid h
 obtain ⟨out, bad⟩ := s
 obtain ⟨ao, cap, rfl, -, -⟩ := zao (k := 1) h rfl
 have x0 : W.cell? ⟨p, 0, none⟩ = some (.slice ao out.length cap) := zaa h.blk_out 0 rfl
 have x1 : W.cell? ⟨p, 1, none⟩ = some (.bool bad) := zaa h.blk_out 1 rfl
 clear h
 cases bad with
 | true =>
  have HE := Lib.hid ((H.out.drop.drop).row0 (E := 5) (sz := 1))
  clear H
  go_enter Tryz.func297, Tryz.ntmps297
  go_wp2_with fail
  go_ret2
  exact ⟨_, rfl, HE.out⟩
 | false =>
  have HE := Lib.hid (H.out.drop)
  clear H
  go_enter Tryz.func297, Tryz.ntmps297
  go_wp2_with fail
  go_ret2
  exact ⟨_, rfl, HE.out⟩
theorem zd2 (h : Own B w0 W ss) : Own B w0 (W.alloc (.cells #[.slice none 0 0, .bool false] 377 (0, 0))) (wrL W.heap.size (.slice none 0 0) w00 ss) := (h.row0 (E := 5) (sz := 1)).box _
theorem znc (r : Rq) (h : Own B w0 W ss) : Calls Tryz.prog 285 #[.agg #[.int .i64 r.client, .int .i64 r.time, .int .i64 r.kind, .int .i64 r.key, .int .i64 r.val, .int .i64 r.sl]] W fun e w' => ∃ v', e = .returned (.tuple #[v', .bool (reqW r)]) ∧ Own B w0 w' (bysR v' (if reqW r then reqB r else []) :: ss) := by
 have h1 := zd2 (h.alloc (rqO r))
 simp only [za4] at h1
 have HC := Lib.hid (zo1 r h1 (by decide))
 obtain ⟨e1, e2⟩ := ztl (zjm r)
 have e3 : reqW r = !(wReq w00 r).bad := by rw [show (wReq w00 r).bad = !reqW r from e1]; simp
 rw [← e2, e3]
 clear e1 e2 e3 h h1
 generalize wReq w00 r = s1 at *
 go_enter Tryz.func285, Tryz.ntmps285
 go_wp2_with fail
 refine HC.out.mono ?_
 rintro e w1 ⟨rfl, v1, h2⟩
 have HD := Lib.hid (ze1 h2)
 clear h2 HC
 go_wp2_with fail
 refine HD.out.mono ?_
 rintro e w2 ⟨v2, rfl, h3⟩
 have H3 := Lib.hid h3
 clear h3 HD
 go_wp2_with fail
 go_ret2
 exact ⟨_, rfl, H3.out⟩
theorem zi3 {l : List (Rq)} {lv : Value} (h : Own B w0 W (redR lv 6 l.length (zam l) :: ss)) (hn : l.length ≤ 100000) : Calls Tryz.prog 276 #[lv] W fun e w' => ∃ v', e = .returned (.tuple #[v', .bool (!(wList wReq w00 l).bad)]) ∧ Own B w0 w' (bysR v' (doneX (wList wReq w00 l)) :: redR lv 6 l.length (zam l) :: ss) := by
 have HC := Lib.hid (zha (zd2 h) hn (by decide))
 obtain ⟨ao, cap, rfl, hcap, -⟩ := zad (k := 0) h rfl
 clear h
 generalize wList wReq w00 l = s1 at *
 go_enter Tryz.func276, Tryz.ntmps276
 go_wp2_with fail
 refine HC.out.mono ?_
 rintro e w1 ⟨rfl, v1, h2⟩
 have HD := Lib.hid (ze1 h2)
 clear h2 HC
 go_wp2_with fail
 refine HD.out.mono ?_
 rintro e w2 ⟨v2, rfl, h3⟩
 have H3 := Lib.hid h3
 clear h3 HD
 go_wp2_with fail
 go_ret2
 exact ⟨_, rfl, H3.out⟩
theorem zjf {l : List (Int × Int)} {lv : Value} (h : Own B w0 W (redR lv 2 l.length (zan l) :: ss)) (hn : l.length ≤ 100000) : Calls Tryz.prog 277 #[lv] W fun e w' => ∃ v', e = .returned (.tuple #[v', .bool (!(wList wVote w00 l).bad)]) ∧ Own B w0 w' (bysR v' (doneX (wList wVote w00 l)) :: redR lv 2 l.length (zan l) :: ss) := by
 have HC := Lib.hid (zej (zd2 h) hn (by decide))
 obtain ⟨ao, cap, rfl, hcap, -⟩ := zad (k := 0) h rfl
 clear h
 generalize wList wVote w00 l = s1 at *
 go_enter Tryz.func277, Tryz.ntmps277
 go_wp2_with fail
 refine HC.out.mono ?_
 rintro e w1 ⟨rfl, v1, h2⟩
 have HD := Lib.hid (ze1 h2)
 clear h2 HC
 go_wp2_with fail
 refine HD.out.mono ?_
 rintro e w2 ⟨v2, rfl, h3⟩
 have H3 := Lib.hid h3
 clear h3 HD
 go_wp2_with fail
 go_ret2
 exact ⟨_, rfl, H3.out⟩
theorem zi9 {l : List (Ct)} {lv : Value} (h : Own B w0 W (redR lv 5 l.length (l.flatMap zal) :: ctsR l :: ss)) (hn : l.length ≤ 100000) : Calls Tryz.prog 278 #[lv] W fun e w' => ∃ v', e = .returned (.tuple #[v', .bool (!(wList wCert w00 (l.map Ct.cp)).bad)]) ∧ Own B w0 w' (bysR v' (doneX (wList wCert w00 (l.map Ct.cp))) :: redR lv 5 l.length (l.flatMap zal) :: ctsR l :: ss) := by
 have HC := Lib.hid (zgw (zd2 h) hn (by decide))
 obtain ⟨ao, cap, rfl, hcap, -⟩ := zad (k := 0) h rfl
 clear h
 generalize wList wCert w00 (l.map Ct.cp) = s1 at *
 go_enter Tryz.func278, Tryz.ntmps278
 go_wp2_with fail
 refine HC.out.mono ?_
 rintro e w1 ⟨rfl, v1, h2⟩
 have HD := Lib.hid (ze1 h2)
 clear h2 HC
 go_wp2_with fail
 refine HD.out.mono ?_
 rintro e w2 ⟨v2, rfl, h3⟩
 have H3 := Lib.hid h3
 clear h3 HD
 go_wp2_with fail
 go_ret2
 exact ⟨_, rfl, H3.out⟩
theorem ziy {l : List (Pt)} {lv : Value} (h : Own B w0 W (redR lv 4 l.length (l.flatMap zat) :: ptsR l :: ss)) (hn : l.length ≤ 100000) : Calls Tryz.prog 279 #[lv] W fun e w' => ∃ v', e = .returned (.tuple #[v', .bool (!(wList wPart w00 (l.map Pt.pa)).bad)]) ∧ Own B w0 w' (bysR v' (doneX (wList wPart w00 (l.map Pt.pa))) :: redR lv 4 l.length (l.flatMap zat) :: ptsR l :: ss) := by
 have HC := Lib.hid (zkv (zd2 h) hn (by decide))
 obtain ⟨ao, cap, rfl, hcap, -⟩ := zad (k := 0) h rfl
 clear h
 generalize wList wPart w00 (l.map Pt.pa) = s1 at *
 go_enter Tryz.func279, Tryz.ntmps279
 go_wp2_with fail
 refine HC.out.mono ?_
 rintro e w1 ⟨rfl, v1, h2⟩
 have HD := Lib.hid (ze1 h2)
 clear h2 HC
 go_wp2_with fail
 refine HD.out.mono ?_
 rintro e w2 ⟨v2, rfl, h3⟩
 have H3 := Lib.hid h3
 clear h3 HD
 go_wp2_with fail
 go_ret2
 exact ⟨_, rfl, H3.out⟩
end
end Go.Proofs.YtannckelmojkoaaGreat
