/- Parts of the proof, one behind the other. -/
import Derived.Test.YtannckelmojkoaaGreatAdoB29
set_option maxHeartbeats 32000000
set_option maxRecDepth 100000
namespace Go.Proofs.YtannckelmojkoaaGreat
open Go.RowKit Go.Heap
theorem own_pf {B : Nat} {w0 W : World} {rs : List Res} {cts : List Ct} {c : Ct} (h : Own B w0 W rs) (fm : Int) (k : Nat) (e : rs[k]? = some (ctsR cts)) (hc : c ∈ cts) : Own B w0 (W.alloc (ctO c.view c.inst c.seq c.vb c.vv)) (mmR (pfX fm c (.slice (some ⟨W.heap.size, 0, none⟩) 1 1)) rs) := by
 have h1 := zc3 2 (zc3 6 h)
 have h2 : Own B w0 W (ctsR [c] :: _) := h1.mkCts (fun c' hc' => by
  rw [List.mem_singleton] at hc'
  subst hc'
  exact zvs h1 (k + 2) (by simpa using e) c' hc)
 have h3 := h2.alloc (ctO c.view c.inst c.seq c.vb c.vv)
 have h4 : Own B w0 (W.alloc (ctO c.view c.inst c.seq c.vb c.vv)) (redR (.slice (some ⟨W.heap.size, 0, none⟩) 1 1) 5 1 ([c].flatMap zal) :: _) := h3.red ⟨_, _, rfl, by omega, by unfold maxLen; omega, rfl, (fun e => by cases e), fun _ => ⟨W.heap.size, 0, rfl, by simp, fun j hj => by
  rw [Nat.zero_add, zac (heap_alloc_new W (ctO c.view c.inst c.seq c.vb c.vv))]
  simp [zal]⟩⟩ (fun k hk hm => by
  simp [blkIf, blkOf] at hk
  subst hk
  exact h2.fresh (Nat.le_refl _) hm)
 have h5 : Own B w0 _ (ptsR [] :: _) := h4.mkPts (by simp)
 exact zc3 4 h5
theorem NdIs.prf {B : Nat} {w0 W : World} {x : Np} {s : Ns} {l : Nt} {ss : List Res} {cts : List Ct} {c : Ct} (h : NdIs B w0 W x s l ss) (fm : Int) (k : Nat) (e : ss[k]? = some (ctsR cts)) (hc : c ∈ cts) : NdIs B w0 (W.alloc (ctO c.view c.inst c.seq c.vb c.vv)) x s l (mmR (pfX fm c (.slice (some ⟨W.heap.size, 0, none⟩) 1 1)) ss) := by
 obtain ⟨r, hs, hk⟩ := h.side
 exact hk _ (mmR _ ss) (own_pf hs fm k (by rw [List.getElem?_append_left (List.getElem?_eq_some_iff.1 e).1]; exact e) hc)
theorem NdIs.more {B : Nat} {w0 W : World} {x : Np} {s : Ns} {l l1 l2 : Nt} {ss : List Res} {rn : Nat} {vp : Value} {vt : Rn} (h : NdIs B w0 W x s l (rnR rn vp vt l1 ss)) (hl : Px l1 l2) : NdIs B w0 W x s l (rnR rn vp vt l2 ss) := by
 obtain ⟨t, rfl⟩ := hl
 exact h.onSide (fun r hr => rn_more (ss := ss ++ [r]) hr (fun x hx => List.mem_append_left _ hx))
theorem NdIs.dropL {B : Nat} {w0 W : World} {x : Np} {s : Ns} {l : Nt} {ss : List Res} : ∀ {pre : List Res}, NdIs B w0 W x s l (pre ++ ss) → NdIs B w0 W x s l ss
 | [], h => h
 | _ :: _, h => NdIs.dropL (NdIs.drop h)
theorem reps_ks {f : Nat} {L : Nt} {o : List (Int × Bys)} {os : List Sd} (h : zfb f L o) (e : os.map Sd.p = o) (j : Nat) (hj : j < os.length) (hj2 : j < (List.replicate os.length (10 : Int)).length) : ∃ (m : Ms) (sl : Int), openP L f 2 os[j].b = some (m, sl) ∧ m.kind = (List.replicate os.length (10 : Int))[j] ∧ 0 ≤ (List.replicate os.length (10 : Int))[j] ∧ (List.replicate os.length (10 : Int))[j] ≤ 10 := by
 have h1 : os[j].p ∈ o := by rw [← e]; exact List.mem_map_of_mem (List.getElem_mem hj)
 obtain ⟨m, sl, g1, g2⟩ := h _ h1
 refine ⟨m, sl, g1, ?_⟩
 rw [List.getElem_replicate]
 exact ⟨g2, by omega, by omega⟩
theorem bk_new (cps : List Cp) (f : Nat) (id : Int) : BkAd cps 0 (newS (stdC f) id).bk := by
 refine ⟨⟨rfl, rfl, rfl, ⟨rfl, fun v hv => ?_⟩⟩, rfl, fun j hj => by omega, fun c hc => ?_⟩
 ·have : v = 0 := by
   have h : (newS (stdC f) id).bk.st.map Prod.snd = List.replicate 64 0 := rfl
   rw [h] at hv
   exact List.eq_of_mem_replicate hv
  omega
 ·show ((List.replicate 2 ((0, 0) : Int × Int)).getD c (0, 0)).1 ≤ 0
  rcases c with _ | _ | c
  ·simp
  ·simp
  ·omega
abbrev bO (has : List Bool) : Obj := .cells (has.map Value.bool).toArray 100 (0, 0)
theorem bO_set (has : List Bool) (k : Nat) : setIn k (.bool true) (bO has) = bO (has.set k true) := by
 unfold setIn
 simp [List.map_set]
theorem ztb {W : World} {b k : Nat} {has : List Bool} (h : W.heap[b]? = some (bO has)) (hk : k < has.length) : W.cell? ⟨b, k, none⟩ = some (.bool (has.getD k false)) := by
 rw [zac h]
 simp [hk, List.getD]
theorem dsH_nil (cps : Nat → Cp) : dsH cps (List.replicate 8 false) = List.replicate 16 none := rfl
theorem ct_at {w : World} {ao : Option Addr} {n cap : Nat} {cts : List Ct} (h : Reads w (.slice ao n cap) 5 cts.length (cts.flatMap zal)) (k : Nat) (hk : k < cts.length) : ∃ b o, ao = some ⟨b, o, none⟩ ∧
  w.cell? ⟨b, o + k * 5, none⟩ = some (.int .i64 cts[k].view) ∧ w.cell? ⟨b, o + k * 5 + 1, none⟩ = some (.int .i64 cts[k].inst) ∧ w.cell? ⟨b, o + k * 5 + 2, none⟩ = some (.int .i64 cts[k].seq) ∧ w.cell? ⟨b, o + k * 5 + 3, none⟩ = some cts[k].vb ∧ w.cell? ⟨b, o + k * 5 + 4, none⟩ = some cts[k].vv := by
 obtain ⟨ao', cap', e, -, -, -, -, h5⟩ := h
 cases e
 obtain ⟨b, o, rfl, hb, hc⟩ := h5 (by omega)
 have hj : ∀ j, j < 5 → w.cell? ⟨b, o + k * 5 + j, none⟩ = (zal cts[k])[j]? := fun j hj => by
  rw [Nat.add_assoc, hc _ (by omega), zdl zal 5 (fun _ => rfl) cts k j hk hj]
 exact ⟨b, o, rfl, hj 0 (by omega), hj 1 (by omega), hj 2 (by omega), hj 3 (by omega), hj 4 (by omega)⟩
theorem ct_at2 {w : World} {b o n cap : Nat} {cts : List Ct} (h : Reads w (.slice (some ⟨b, o, none⟩) n cap) 5 cts.length (cts.flatMap zal)) (k : Nat) (hk : k < cts.length) :
  w.cell? ⟨b, o + k * 5, none⟩ = some (.int .i64 cts[k].view) ∧ w.cell? ⟨b, o + k * 5 + 1, none⟩ = some (.int .i64 cts[k].inst) ∧ w.cell? ⟨b, o + k * 5 + 2, none⟩ = some (.int .i64 cts[k].seq) ∧ w.cell? ⟨b, o + k * 5 + 3, none⟩ = some cts[k].vb ∧ w.cell? ⟨b, o + k * 5 + 4, none⟩ = some cts[k].vv := by
 obtain ⟨b', o', e, h1⟩ := ct_at h k hk
 simp only [Option.some.injEq, Addr.mk.injEq, and_true] at e
 obtain ⟨rfl, rfl⟩ := e
 exact h1
theorem ad_ad {w : World} {q b o : Nat} {ob : Obj} {c0 c1 c2 c3 c4 c5 c6 c7 : Value} (h : w.drew.cell? ⟨q, 0, none⟩ = some c0 ∧ w.drew.cell? ⟨q, 1, none⟩ = some c1 ∧ w.drew.cell? ⟨q + 1, 0, none⟩ = some c2 ∧ w.drew.cell? ⟨b, o, none⟩ = some c3 ∧ w.drew.cell? ⟨b, o + 1, none⟩ = some c4 ∧ w.drew.cell? ⟨b, o + 2, none⟩ = some c5 ∧ w.drew.cell? ⟨b, o + 3, none⟩ = some c6 ∧ w.drew.cell? ⟨b, o + 4, none⟩ = some c7) :
  (w.alloc ob).drew.cell? ⟨q, 0, none⟩ = some c0 ∧ (w.alloc ob).drew.cell? ⟨q, 1, none⟩ = some c1 ∧ (w.alloc ob).drew.cell? ⟨q + 1, 0, none⟩ = some c2 ∧ (w.alloc ob).drew.cell? ⟨b, o, none⟩ = some c3 ∧ (w.alloc ob).drew.cell? ⟨b, o + 1, none⟩ = some c4 ∧ (w.alloc ob).drew.cell? ⟨b, o + 2, none⟩ = some c5 ∧ (w.alloc ob).drew.cell? ⟨b, o + 3, none⟩ = some c6 ∧ (w.alloc ob).drew.cell? ⟨b, o + 4, none⟩ = some c7 :=
 ⟨zaf (w := w) h.1, zaf (w := w) h.2.1, zaf (w := w) h.2.2.1, zaf (w := w) h.2.2.2.1, zaf (w := w) h.2.2.2.2.1, zaf (w := w) h.2.2.2.2.2.1, zaf (w := w) h.2.2.2.2.2.2.1, zaf (w := w) h.2.2.2.2.2.2.2⟩
section
variable {B : Nat} {w0 W : World} {x : Np} {l : Nt} {ss : List Res} {f : Nat} {id n u st : Int} {ds : List (Option Cp)} {bk : Lp} {o : List (Int × Bys)} {sp : Bool}
theorem ad_out (h : NdIs B w0 W x (adS f id ds n bk o u st sp) l ss) : Calls Tryz.prog 26 #[ptrV x.p] W fun e w' => ∃ (a : Option Addr) (k : Nat) (os : List Sd), e = .returned (.slice a os.length k) ∧ os.map Sd.p = o ∧ NdIs B w0 w' x (adS f id ds n bk [] u st sp) l (redR (.slice a os.length k) 2 os.length (os.flatMap sdC) :: sdsR os :: ss) := zv7 h
theorem zvt {a : Option Addr} {k : Nat} {os : List Sd} (h : NdIs B w0 W x (adS f id ds n bk [] u st sp) l (redR (.slice a os.length k) 2 os.length (os.flatMap sdC) :: sdsR os :: ss)) (hr : zfb f l o) (e : os.map Sd.p = o) (hn : o.length ≤ 1000000000) :
  Calls Tryz.prog 39 #[.slice a os.length k, .agg (cfA (stdC f)), ptrV x.nt] W fun e w' => e = .returned (.agg #[.int .i64 0, .int .i64 0, .int .i64 0, .int .i64 0, .int .i64 0, .int .i64 0, .int .i64 0, .int .i64 0, .int .i64 0, .int .i64 0, .int .i64 o.length]) ∧ NdIs B w0 w' x (adS f id ds n bk [] u st sp) l (redR (.slice a os.length k) 2 os.length (os.flatMap sdC) :: sdsR os :: ss) := by
 have hl : os.length = o.length := by rw [← e, List.length_map]
 have h1 := zrb (s := adS f id ds n bk [] u st sp) (l := l) (os := os) (ks := List.replicate os.length 10) (by simp) (fun j hj hj2 => reps_ks hr e j hj hj2) (by omega) h
 rw [zm2, hl] at h1
 rw [hl]
 exact h1
theorem zlx (h : NdIs B w0 W x (adS f id ds n bk o u st sp) l ss) : Calls Tryz.prog 49 #[ptrV x.p] W fun e w' => ∃ y : Lg, e = .returned (ptrV y.p) ∧ LgOk y ∧ y.lp = bk ∧ NdIs B w0 w' x (adS f id ds n bk o u st sp) l (lgL y ++ ss) := zng h
theorem ad_len {y : Lg} (h : NdIs B w0 W x (adS f id ds n bk o u st sp) l (lgL y ++ ss)) {m : Nat} (e : y.lp = bk) (hm : bk.es.length = m) : Calls Tryz.prog 50 #[ptrV y.p] W fun e w' => e = .returned (.int .i64 m) ∧ W = w' := by
 obtain ⟨r, hs, -⟩ := h.side
 have h1 := zpk (y := y) (ss := ss ++ [r]) (by simpa [List.append_assoc] using hs)
 have h2 : y.es.length = m := by rw [← hm, ← e]; rfl
 rw [h2] at h1
 exact h1
theorem ad_all {y : Lg} (h : NdIs B w0 W x (adS f id ds n bk o u st sp) l (lgL y ++ ss)) (hy : LgOk y) (e : y.lp = bk) {m : Nat} (hm : bk.es.length = m) : Calls Tryz.prog 51 #[ptrV y.p] W fun e w' => ∃ a c, e = .returned (.slice a m c) ∧ m ≤ c ∧ NdIs B w0 w' x (adS f id ds n bk o u st sp) l (enR (.slice a m c) bk.es :: ss) := by
 obtain ⟨r, hs, hk⟩ := h.side
 refine (zjo (x := y) (ss := ss ++ [r]) (by simpa [List.append_assoc] using hs) hy).mono ?_
 rintro e' w' ⟨v, rfl, h2⟩
 have h3 : y.es = bk.es := by rw [← e]; rfl
 rw [h3] at h2
 have h4 : Own B w0 w' (enR v bk.es :: (ss ++ [r])) := ((((h2.dropAt 1 (by simp)).dropAt 1 (by simp)).dropAt 1 (by simp)).dropAt 1 (by simp)).dropAt 1 (by simp)
 obtain ⟨a, c, hv, hc, -⟩ := owns_reads (zak h4.head)
 rw [hm] at hv hc
 subst hv
 exact ⟨a, c, rfl, hc, hk w' (_ :: ss) h4⟩
theorem ad_view (h : NdIs B w0 W x (adS f id ds n bk o u st sp) l ss) : Calls Tryz.prog 24 #[ptrV x.p] W fun e w' => e = .returned (.int .i64 0) ∧ W = w' := zq5 h
end
theorem ad_row {B : Nat} {w0 W : World} {es : List En} {rs : List Res} {cts : List Ct} {r : Rq} {i1 i2 i3 j m m2 c1 c3 : Nat} {a1 a3 : Option Addr} (h : Own B w0 W rs) (e1 : rs[i1]? = some (enR (.slice a1 m c1) es)) (e2 : rs[i2]? = some (ownR 42 5 (.slice a3 m2 c3) cts.length (cts.flatMap zal))) (e3 : rs[i3]? = some (ctsR cts))
  (hj : j < es.length) (hk : j < cts.length) (hr : es[j].rq = r) (hc : cts[j].rs = [r]) :
  ∃ b o b3 o3 b2 o2 c2, a1 = some ⟨b, o, none⟩ ∧ a3 = some ⟨b3, o3, none⟩ ∧ W.cell? ⟨b3, o3 + j * 5 + 3, none⟩ = some (.slice (some ⟨b2, o2, none⟩) 1 c2) ∧ 1 ≤ c2 ∧
   (W.cell? ⟨b, o + j * 7, none⟩ = some (.int .i64 r.client) ∧ W.cell? ⟨b, o + j * 7 + 1, none⟩ = some (.int .i64 r.time) ∧ W.cell? ⟨b, o + j * 7 + 2, none⟩ = some (.int .i64 r.kind) ∧ W.cell? ⟨b, o + j * 7 + 3, none⟩ = some (.int .i64 r.key) ∧ W.cell? ⟨b, o + j * 7 + 4, none⟩ = some (.int .i64 r.val) ∧ W.cell? ⟨b, o + j * 7 + 5, none⟩ = some (.int .i64 r.sl)) ∧
   (W.cell? ⟨b2, o2, none⟩ = some (.int .i64 r.client) ∧ W.cell? ⟨b2, o2 + 1, none⟩ = some (.int .i64 r.time) ∧ W.cell? ⟨b2, o2 + 2, none⟩ = some (.int .i64 r.kind) ∧ W.cell? ⟨b2, o2 + 3, none⟩ = some (.int .i64 r.key) ∧ W.cell? ⟨b2, o2 + 4, none⟩ = some (.int .i64 r.val) ∧ W.cell? ⟨b2, o2 + 5, none⟩ = some (.int .i64 r.sl)) := by
 obtain ⟨a, cp, hv, -, -, -, -, hcell⟩ := owns_reads (zak (h.get i1 e1))
 simp only [Value.slice.injEq] at hv
 obtain ⟨rfl, -, -⟩ := hv
 obtain ⟨b, o, rfl, -, hcl⟩ := hcell (by omega)
 obtain ⟨b3, o3, rfl, -, -, -, g3, -⟩ := ct_at (owns_reads (zak (h.get i2 e2))) j hk
 have h5 := zky h i3 e3 (List.getElem_mem hk)
 obtain ⟨a2, c2, hv2, hc2, -, -, -, hcell2⟩ := zad (k := 0) h5 rfl
 rw [hc] at hv2 hc2 hcell2
 obtain ⟨b2, o2, rfl, -, hcl2⟩ := hcell2 (by simp)
 obtain ⟨q0, q1, q2, q3, q4, q5⟩ := zbp hcl2 0 r (by simp)
 simp only [Nat.zero_mul, Nat.add_zero] at q0 q1 q2 q3 q4 q5
 have hl : (za8 es).length = es.length * 7 := ens_len es
 have g : ∀ i, i < 6 → W.cell? ⟨b, o + j * 7 + i, none⟩ = (zdi es[j])[i]? := fun i hi => by
  have := hcl (j * 7 + i) (by omega)
  rw [flat_get (cells := zdi) (sz := 7) (fun _ => rfl) es j i es[j] (by simp) (by omega), ← Nat.add_assoc] at this
  exact this
 refine ⟨b, o, b3, o3, b2, o2, c2, rfl, rfl, ?_, by simpa using hc2, ⟨?_, ?_, ?_, ?_, ?_, ?_⟩, q0, q1, q2, q3, q4, q5⟩
 ·rw [g3, hv2]; rfl
 ·have := g 0 (by omega); rw [← hr]; exact this
 ·have := g 1 (by omega); rw [← hr]; exact this
 ·have := g 2 (by omega); rw [← hr]; exact this
 ·have := g 3 (by omega); rw [← hr]; exact this
 ·have := g 4 (by omega); rw [← hr]; exact this
 ·have := g 5 (by omega); rw [← hr]; exact this
theorem zvw {W w : World} {x : Np} {s : Ns} {l : Nt} {ss : List Res} (h : NdIs W.heap.size W w x s l ss) : Upd [] W w := by
 obtain ⟨r, hs, -⟩ := h.side
 exact Upd.of_below hs.below
abbrev stdO (f : Nat) : Obj := .cells (cfA (stdC f)) 30 (0, 0)
theorem zv4 {B : Nat} {w0 W : World} {x : Np} {s : Ns} {l l' : Nt} {rn e17 q b o cp f k : Nat} {vp : Value} {vt : Rn} {has : List Bool} {cts : List Ct} (h : NdIs B w0 W x s l (rnR rn vp vt l' (blk e17 (bO has) :: ownR 42 5 (.slice (some ⟨b, o, none⟩) cts.length cp) cts.length (cts.flatMap zal) :: ctsR cts :: [blk (q + 1) (stdO f), blk q (twO x.nt rn)]))) (hk : k < cts.length) :
  W.cell? ⟨q, 0, none⟩ = some (.pointer (some ⟨x.nt, 0, none⟩)) ∧ W.cell? ⟨q, 1, none⟩ = some (.pointer (some ⟨rn, 0, none⟩)) ∧ W.cell? ⟨q + 1, 0, none⟩ = some (.int .i64 f) ∧ W.cell? ⟨b, o + k * 5, none⟩ = some (.int .i64 cts[k].view) ∧ W.cell? ⟨b, o + k * 5 + 1, none⟩ = some (.int .i64 cts[k].inst) ∧ W.cell? ⟨b, o + k * 5 + 2, none⟩ = some (.int .i64 cts[k].seq) ∧ W.cell? ⟨b, o + k * 5 + 3, none⟩ = some cts[k].vb ∧ W.cell? ⟨b, o + k * 5 + 4, none⟩ = some cts[k].vv := by
 obtain ⟨r, hs, -⟩ := h.side
 exact ⟨zaa (hs.blkAt 7 rfl) 0 rfl, zaa (hs.blkAt 7 rfl) 1 rfl, zaa (hs.blkAt 6 rfl) 0 rfl, ct_at2 (owns_reads (zak (hs.get 4 rfl))) k hk⟩
theorem Tryz.idx10 (m : Int) (w : World) : (Instr.index 84 (.agg #[.int .i64 0, .int .i64 0, .int .i64 0, .int .i64 0, .int .i64 0, .int .i64 0, .int .i64 0, .int .i64 0, .int .i64 0, .int .i64 0, .int .i64 m]) (.int .i64 10)).run Tryz.prog w = .ok (.int .i64 m) w := by kernel_rfl
theorem Tryz.infoCt : (Tryz.prog.info? 42).map (fun i => (i.zero, i.size, i.bytes)) = some (some (.agg #[.int .i64 0, .int .i64 0, .int .i64 0, .slice none 0 0, .slice none 0 0]), 5, 72) := by kernel_rfl
structure CtsMade (f : Nat) (l : Nt) (cts : List Ct) : Prop where
 g : zcw f l (cts.map Ct.cp)
 n : cts.length ≤ 5
abbrev adL (ao : Option Addr) (cp : Nat) (cts : List Ct) (rs : List Res) : List Res := ownR 42 5 (.slice ao cts.length cp) cts.length (cts.flatMap zal) :: ctsR cts :: rs
theorem znj {B : Nat} {w0 W : World} {rs : List Res} (h : Own B w0 W rs) (r : Rq) : Own B w0 (W.alloc (rqO r)) (batR (.slice (some ⟨W.heap.size, 0, none⟩) 1 1) [r] :: rs) := by
 have h1 := h.alloc (rqO r)
 refine h1.red (v := .slice (some ⟨W.heap.size, 0, none⟩) 1 1) (sz := 6) (n := 1) (xs := zam [r]) ⟨_, _, rfl, by omega, by unfold maxLen; omega, rfl, (fun e => by cases e), fun _ => ⟨W.heap.size, 0, rfl, by simp, fun j hj => ?_⟩⟩ (fun k hk hm => ?_)
 ·rw [Nat.zero_add, zac (heap_alloc_new W (rqO r))]
  simp [zam, za5]
 ·simp [blkIf, blkOf] at hk
  subst hk
  exact h.fresh (Nat.le_refl _) hm
theorem adopts_any (a0 a1 : Int) (v2 : Value) (a2 : List Int) {W : World} (h2 : Ints W v2 a2) (v3 : Value) (a3 : List Op3) (h3 : Opz W v3 a3) :
  Calls Tryz.prog 9 #[.int .i64 a0, .int .i64 a1, v2, v3] W fun e w' => e = .returned (.bool true) ∧ Upd [] W w' := by
 obtain ⟨i0, hi, hz0, hz1, hz2⟩ := info_parts Tryz.infoCt
 obtain ⟨o2, k2, hv2, hk2, hmx2, -⟩ := id h2
 subst hv2
 obtain ⟨o3, k3, hv3, hk3, hmx3, -⟩ := id h3
 subst hv3
 have HI2 := Lib.hid h2
 have HI3 := Lib.hid h3
 have hm0 := zhh a0 4 (by omega)
 obtain ⟨f, hf⟩ : ∃ f : Nat, 1 + a0 % 4 = f := ⟨(1 + a0 % 4).toNat, by omega⟩
 have hf1 : 1 ≤ f := by omega
 have hf2 : f ≤ 4 := by omega
 have hf1I : 1 ≤ (f : Int) := by omega
 have hf2I : (f : Int) ≤ 4 := by omega
 have HST := Lib.hid (zr6 a0 a1 f hf1 hf2 hf (Own.start (Below.refl W.heap.size W) (Nat.le_refl _)))
 have hm1 := zhh a1 (3 * (f : Int) + 1) (by omega)
 have HW1 := Lib.hid (fun w => zdn a1 (3 * (f : Int) + 1) w (by omega) (by omega))
 generalize a1 % (3 * (f : Int) + 1) = id at *
 have HNo := Lib.hid (fun w => zf8 (f : Int) w hf1I hf2I)
 clear hf hm0 h2 h3
 go_enter Tryz.func9, Tryz.ntmps9
 go_wp2_with fail
 refine HST.out.mono ?_
 rintro e w1 ⟨x, rn, rfl, h1⟩
 have H2 := Lib.hid ((h1.box (twO x.nt rn)).box (stdO f))
 clear h1 HST
 go_upto_block 0 with fail
 generalize World.alloc (World.alloc w1 _) _ = w2 at *
 simp only [za4] at H2
 generalize w1.heap.size = q at *
 have H3 : Hid (NdIs W.heap.size W w2 x (newS (stdC f) id) [] (rnR rn (.slice none 0 0) ⟨.slice none 0 0, []⟩ [] [blk (q + 1) (stdO f), blk q (twO x.nt rn)])) := Lib.hid (H2.out.perm ((List.perm_append_comm (l₁ := [_, _]) (l₂ := [_, _, _])).append_right []))
 clear H2
 go_cut [13] (fun t wx => ∃ (l : Nt) (vp : Value) (vt : Rn) (ao : Option Addr) (cp : Nat) (cts : List Ct), t = .slice ao cts.length cp ∧ l.length ≤ 100 ∧ cts.length ≤ 5 ∧ Hid (CtsMade f l cts) ∧ Hid (NdIs W.heap.size W wx x (newS (stdC f) id) l (adL ao cp cts (rnR rn vp vt l [blk (q + 1) (stdO f), blk q (twO x.nt rn)]))))
 case first =>
  go_wp2_with fail
  go_loopw [13, 14] (fun t iv wr => ∃ (i : Nat) (l : Nt) (vp : Value) (vt : Rn) (ao : Option Addr) (cp : Nat) (cts : List Ct), i ≤ a3.length ∧ iv = .int .i64 i ∧ t = .slice ao cts.length cp ∧ l.length ≤ 12 * cts.length ∧ cts.length ≤ 5 ∧ Hid (CtsMade f l cts) ∧ Hid (NdIs W.heap.size W wr x (newS (stdC f) id) l (adL ao cp cts (rnR rn vp vt l [blk (q + 1) (stdO f), blk q (twO x.nt rn)])))) (fun _ iv _ => a3.length - (intOf iv).toNat)
  case atStart => exact ⟨0, [], .slice none 0 0, ⟨.slice none 0 0, []⟩, none, 0, [], by omega, rfl, rfl, by simp, by simp, Lib.hid ⟨fun j hj => by simp at hj, by simp⟩, Lib.hid (H3.out.onSide (fun r hr => by
   have g1 : Own _ _ _ (ctsR [] :: _) := hr.mkCts (by simp)
   exact g1.row0))⟩
  case round =>
   clear H3
   obtain ⟨i, l, vp, vt, ao, cp, cts, hi3, rfl, rfl, hln, hc5, HM, H⟩ := hrel
   have hiB : (i : Int) ≤ 9223372036854775807 := by have := hmx3; unfold maxLen at this; omega
   by_cases hlt : i < a3.length
   ·have hiI : (i : Int) < (a3.length : Int) := by omega
    by_cases h5 : cts.length < 5
    ·have h5I : (cts.length : Int) < 5 := by omega
     have hi0 : (0 : Int) ≤ (i : Int) := by omega
     have hk3I : (a3.length : Int) ≤ (k3 : Int) := by omega
     obtain ⟨b3, u3, hb3, x0, x1, x2⟩ := opz_at (HI3.out.upd (zvw H.out)) hlt
     subst hb3
     have HV := Lib.hid (fun w => zso a3[i].kind a3[i].key a3[i].val w)
     have HOP : Hid (okOp a3[i].kind a3[i].key a3[i].val = okReq ⟨0, 1, a3[i].kind, a3[i].key, a3[i].val, 0⟩ 1) := Lib.hid rfl
     generalize okOp a3[i].kind a3[i].key a3[i].val = ok at *
     generalize a3[i].kind = kind at *
     generalize a3[i].key = key at *
     generalize a3[i].val = val at *
     have HLT := Lib.hid hlt
     have hiB2 : (i : Int) + 1 ≤ 9223372036854775807 := by have := hmx3; unfold maxLen at this; omega
     cases ok with
     | false =>
      go_wp2_with fail
      refine (HV.out _).mono ?_
      rintro e w3 ⟨rfl, hu⟩
      have H4 := Lib.hid (H.out.upd0 hu)
      clear hu H HV x0 x1 x2 HOP
      go_wp2_with fail
      go_roundw
      case rel => exact ⟨i + 1, l, vp, vt, ao, cp, cts, by have := HLT.out; omega, by go_num, rfl, hln, hc5, HM, H4⟩
      case measure => have := HLT.out; simp [intOf]; omega
     | true =>
      go_wp2_with fail
      refine (HV.out _).mono ?_
      rintro e w3 ⟨rfl, hu⟩
      have H4 := Lib.hid (H.out.upd0 hu)
      have y0 := (World.cell?_of_block (hu.block b3 (World.block_lt_of_cell? _ _ x0) (by simp))).trans x0
      have y1 := (World.cell?_of_block (hu.block b3 (World.block_lt_of_cell? _ _ x0) (by simp))).trans x1
      have y2 := (World.cell?_of_block (hu.block b3 (World.block_lt_of_cell? _ _ x0) (by simp))).trans x2
      have hc0 : (0 : Int) ≤ (cts.length : Int) := by omega
      clear hu H HV x0 x1 x2
      go_upto_region 11 with fail
      have HR : Hid (NdIs W.heap.size W (w3.alloc (rqO (rq0 cts.length kind key val))) x (newS (stdC f) id) l (adL ao cp cts (rnR rn vp vt l [blk (q + 1) (stdO f), blk q (twO x.nt rn)]))) := Lib.hid (H4.out.alloc _)
      have hb4 := heap_alloc_new w3 (rqO (rq0 cts.length kind key val))
      have r0 := zaa hb4 0 rfl
      have r1 := zaa hb4 1 rfl
      have r2 := zaa hb4 2 rfl
      have r3 := zaa hb4 3 rfl
      have r4 := zaa hb4 4 rfl
      have r5 := zaa hb4 5 rfl
      generalize hw4 : w3.alloc (rqO (rq0 cts.length kind key val)) = w4 at HR r0 r1 r2 r3 r4 r5
      have hw4' : w3.alloc (.cells #[.int .i64 ((cts.length : Int) % 2), .int .i64 (1 + (cts.length : Int)), .int .i64 kind, .int .i64 key, .int .i64 val, .int .i64 0] 38) = w4 := hw4
      rw [hw4']
      obtain ⟨rr, hs, hback⟩ := HR.out.sideN
      have HBK := Lib.hid hback
      have g1 := znj hs (rq0 cts.length kind key val)
      have t0 : w4.cell? ⟨q, 0, none⟩ = some (.pointer (some ⟨x.nt, 0, none⟩)) := zaa (hs.blkAt 8 rfl) 0 rfl
      have t1 : w4.cell? ⟨q, 1, none⟩ = some (.pointer (some ⟨rn, 0, none⟩)) := zaa (hs.blkAt 8 rfl) 1 rfl
      have f0 : w4.cell? ⟨q + 1, 0, none⟩ = some (.int .i64 f) := zaa (hs.blkAt 7 rfl) 0 rfl
      have g2 := g1.front 7 rfl rfl
      dsimp only [List.eraseIdx] at g2
      have g3 := g2.front 7 rfl rfl
      dsimp only [List.eraseIdx] at g3
      have g4 := g3.front 7 rfl rfl
      dsimp only [List.eraseIdx] at g4
      have g5 := g4.front 5 rfl rfl
      dsimp only [List.eraseIdx] at g5
      have g6 := g5.front 5 rfl rfl
      dsimp only [List.eraseIdx] at g6
      have HC := Lib.hid (zoa (kind := 5) (skip := cts.length) (view := (cts.length : Int) % 3) (inst := 0) (seq := (cts.length : Int) + 1) g6 HR.out.nok (by omega) hf1 hf2)
      have HCP : Hid (∀ a1 c1 a2 c2, Ct.cp ⟨(cts.length : Int) % 3, 0, (cts.length : Int) + 1, .slice a1 1 c1, .slice a2 (2 * f + 1) c2, [rqS l (rq0 cts.length kind key val)], (crtP 5 f cts.length l ((cts.length : Int) % 3) 0 ((cts.length : Int) + 1) (rq0 cts.length kind key val)).1.vs⟩ = (crtP 5 f cts.length l ((cts.length : Int) % 3) 0 ((cts.length : Int) + 1) (rq0 cts.length kind key val)).1) := Lib.hid (fun _ _ _ _ => rfl)
      have HCG := Lib.hid (zv2 (f := f) (j := cts.length) (l := l) (kind := kind) (key := key) (val := val) h5 HOP.out.symm (by omega) hf1 hf2)
      have HPX := Lib.hid (zxq 5 f cts.length l ((cts.length : Int) % 3) 0 ((cts.length : Int) + 1) (rq0 cts.length kind key val))
      have HNK := Lib.hid (crt_nok (kind := 5) (skip := cts.length) (view := (cts.length : Int) % 3) (inst := 0) (seq := (cts.length : Int) + 1) (r := rq0 cts.length kind key val) HR.out.nok hf2)
      generalize crtP 5 f cts.length l ((cts.length : Int) % 3) 0 ((cts.length : Int) + 1) (rq0 cts.length kind key val) = P at HC HCP HCG HPX HNK
      obtain ⟨c, l'⟩ := P
      generalize rqS l (rq0 cts.length kind key val) = rS at *
      clear g1 g2 g3 g4 g5 g6 hs hb4 hback HR H4 y0 y1 y2 hw4 hw4' HOP HLT hlt
      have HLT : Hid (i < a3.length) := Lib.hid (by omega)
      go_wp2_with fail
      refine HC.out.mono ?_
      rintro e w5 ⟨a1, c1, a2, c2, vp', vt', rfl, j1⟩
      clear HC t0 t1 f0 r0 r1 r2 r3 r4 r5
      have j2 := j1.dropAt 7 (by simp)
      dsimp only [List.eraseIdx] at j2
      have j3 := j2.front 8 rfl rfl
      dsimp only [List.eraseIdx] at j3
      have j4 := j3.front 8 rfl rfl
      dsimp only [List.eraseIdx] at j4
      have j5 := j4.front 3 rfl rfl
      dsimp only [List.eraseIdx] at j5
      have j6 := j5.front 3 rfl rfl
      dsimp only [List.eraseIdx] at j6
      have j7 := j6.front 5 rfl rfl
      dsimp only [List.eraseIdx] at j7
      have j8 := j7.front 5 rfl rfl
      dsimp only [List.eraseIdx] at j8
      have H5 : Hid (NdIs W.heap.size W w5 x (newS (stdC f) id) l' (redR (.slice a2 (2 * f + 1) c2) 2 (2 * f + 1) (zan c.vs) :: batR (.slice a1 1 c1) [rS] :: adL ao cp cts (rnR rn vp' vt' l' [blk (q + 1) (stdO f), blk q (twO x.nt rn)]))) := Lib.hid (HBK.out _ _ (_ :: _ :: adL ao cp cts (rnR rn vp' vt' l' [blk (q + 1) (stdO f), blk q (twO x.nt rn)])) HNK.out j8)
      clear j1 j2 j3 j4 j5 j6 j7 j8 HBK
      obtain ⟨r9, hs9, hback9⟩ := H5.out.side
      have HBK := Lib.hid hback9
      have HX := Lib.hid (hs9.box (ctO ((cts.length : Int) % 3) 0 ((cts.length : Int) + 1) (.slice a1 1 c1) (.slice a2 (2 * f + 1) c2)))
      have HNB := Lib.hid (heap_alloc_new w5 (ctO ((cts.length : Int) % 3) 0 ((cts.length : Int) + 1) (.slice a1 1 c1) (.slice a2 (2 * f + 1) c2)))
      clear hs9 hback9 H5
      go_wp2_with (at_builtin; refine zba rfl (.tmp 63) (.tmp 76) 44 rfl 42 i0 (.agg #[.int .i64 0, .int .i64 0, .int .i64 0, .slice none 0 0, .slice none 0 0]) 5 72 Tryz.underlying44 hi hz0 hz1 hz2 rfl (by decide) HX.out 3 (.slice ao cts.length cp) cts.length (cts.flatMap zal) rfl rfl w5.heap.size #[.int .i64 ((cts.length : Int) % 3), .int .i64 0, .int .i64 ((cts.length : Int) + 1), .slice a1 1 c1, .slice a2 (2 * f + 1) c2] 42 (0, 0) rfl HNB.out rfl (by simp [Value.oneCell']) (by unfold maxLen; omega) (by omega) ?_)
      intro g cap w6 k1
      have k2 := k1.drop
      have k3 := k2.front 3 rfl rfl
      dsimp only [List.eraseIdx] at k3
      have k4 := k3.front 2 rfl rfl
      dsimp only [List.eraseIdx] at k4
      have k5 := k4.front 2 rfl rfl
      dsimp only [List.eraseIdx] at k5
      have hvl : c.vs.length = 2 * f + 1 := HCG.out.vl
      have hd := HCP.out a1 c1 a2 c2
      generalize hdd : (⟨(cts.length : Int) % 3, 0, (cts.length : Int) + 1, .slice a1 1 c1, .slice a2 (2 * f + 1) c2, [rS], c.vs⟩ : Ct) = d at hd
      have k6 : Own _ _ _ (ctsR (cts ++ [d]) :: _) := zub (c := d) (by
       subst hdd
       show Own _ _ _ (redR (.slice a2 (2 * f + 1) c2) 2 c.vs.length (zan c.vs) :: batR (.slice a1 1 c1) [rS] :: _)
       rw [hvl]
       exact k5) (by subst hdd; simp) (by subst hdd; show c.vs.length ≤ _; omega)
      have H6 : Hid (NdIs W.heap.size W w6 x (newS (stdC f) id) l' (adL (some ⟨g, 0, none⟩) cap (cts ++ [d]) (rnR rn vp' vt' l' [blk (q + 1) (stdO f), blk q (twO x.nt rn)]))) := Lib.hid (HBK.out _ (adL (some ⟨g, 0, none⟩) cap (cts ++ [d]) (rnR rn vp' vt' l' [blk (q + 1) (stdO f), blk q (twO x.nt rn)])) (by
       unfold adL
       rw [List.length_append, List.flatMap_append, show [d].flatMap zal = [.int .i64 ((cts.length : Int) % 3), .int .i64 0, .int .i64 ((cts.length : Int) + 1), .slice a1 1 c1, .slice a2 (2 * f + 1) c2] from by subst hdd; rfl]
       exact k6.swap))
      have HM2 : Hid (CtsMade f l' (cts ++ [d])) := Lib.hid ⟨by
       rw [List.map_append, List.map_cons, List.map_nil, hd]
       exact zcw.snoc (HM.out.g.px HPX.out.1) (by rw [List.length_map]; exact HCG.out), by simp; omega⟩
      have HN2 : Hid (l'.length ≤ 12 * (cts.length + 1)) := Lib.hid (by have := HPX.out.2; omega)
      clear k1 k2 k3 k4 k5 k6 hvl hd hdd HBK HX HNB HCG HCP HPX HNK
      go_wp2_with fail
      go_roundw
      case rel => exact ⟨i + 1, l', vp', vt', _, cap, cts ++ [d], by have := HLT.out; omega, by go_num, by rw [List.length_append]; rfl, by rw [List.length_append]; exact HN2.out, by rw [List.length_append, List.length_cons, List.length_nil]; omega, HM2, H6⟩
      case measure => have := HLT.out; simp [intOf]; omega
    ·have h5I : decide ((cts.length : Int) < 5) = false := by simp; omega
     go_wp2_with fail
     go_meet
     exact ⟨l, vp, vt, ao, cp, cts, rfl, by omega, hc5, HM, H⟩
   ·have hiI : decide ((i : Int) < (a3.length : Int)) = false := by simp; omega
    go_wp2_with fail
    go_meet
    exact ⟨l, vp, vt, ao, cp, cts, rfl, by omega, hc5, HM, H⟩
 case rest =>
  clear H3
  obtain ⟨l, vp, vt, ao, cp, cts, rfl, hln, hc5, HM, H⟩ := hcut
  have H1 : Hid (NdIs W.heap.size W (wc.alloc (bO (List.replicate 8 false))) x (adS f id (dsH (cpL (cts.map Ct.cp)) (List.replicate 8 false)) (0 : Nat) (newS (stdC f) id).bk [] 0 0 false) l (blk wc.heap.size (bO (List.replicate 8 false)) :: adL ao cp cts (rnR rn vp vt l [blk (q + 1) (stdO f), blk q (twO x.nt rn)]))) := Lib.hid (by
   rw [dsH_nil]
   exact (ad_new (f := f) (id := id)).symm ▸ H.out.box _)
  have HCG : Hid (zcw f l (cts.map Ct.cp)) := Lib.hid HM.out.g
  have HBN := Lib.hid (bk_new (cts.map Ct.cp) f id)
  have hcl0 : (0 : Int) ≤ (cts.length : Int) := by omega
  have hcl5 : (cts.length : Int) ≤ 5 := by omega
  generalize hw9 : wc.alloc (bO (List.replicate 8 false)) = w9 at H1
  have hw9' : wc.alloc (.cells #[.bool false, .bool false, .bool false, .bool false, .bool false, .bool false, .bool false, .bool false] 100) = w9 := hw9
  clear H HM
  go_upto_block 2 with fail
  clear hw9 hw9'
  generalize wc.heap.size = e17 at *
  have hmB : (cts.map Ct.cp).length = cts.length := by simp
  go_cut [18] (fun _ wx => ∃ (n : Nat) (bk : Lp) (L : Nt) (vp : Value) (vt : Rn) (has : List Bool) (u st : Int), Hid (NdIs W.heap.size W wx x (adS f id (dsH (cpL (cts.map Ct.cp)) has) n bk [] u st false) L (blk e17 (bO has) :: adL ao cp cts (rnR rn vp vt L [blk (q + 1) (stdO f), blk q (twO x.nt rn)]))) ∧ Hid (BkAd (cts.map Ct.cp) n bk) ∧ Hid (zcw f L (cts.map Ct.cp)) ∧ n ≤ cts.length)
  case first =>
   go_wp2_with fail
   go_loopw [18, 19] (fun nv iv wr => ∃ (i n : Nat) (bk : Lp) (L : Nt) (vp : Value) (vt : Rn) (has : List Bool) (u st : Int), nv = .int .i64 n ∧ iv = .int .i64 i ∧ i ≤ 20 ∧ n ≤ cts.length ∧ L.length ≤ 100 + 20 * i ∧ Hid (NdIs W.heap.size W wr x (adS f id (dsH (cpL (cts.map Ct.cp)) has) n bk [] u st false) L (blk e17 (bO has) :: adL ao cp cts (rnR rn vp vt L [blk (q + 1) (stdO f), blk q (twO x.nt rn)]))) ∧ Hid (BkAd (cts.map Ct.cp) n bk) ∧ Hid (zcw f L (cts.map Ct.cp)) ∧
    Hid (has.length = 8 ∧ (∀ j, cts.length ≤ j → has.getD j false = false) ∧ (∀ j, j < n → has.getD j false = true) ∧ has.getD n false = false ∧ 0 ≤ u ∧ u ≤ i ∧ 0 ≤ st ∧ st ≤ i)) (fun _ iv _ => 20 - (intOf iv).toNat)
   case atStart => exact ⟨0, 0, _, l, vp, vt, _, 0, 0, rfl, rfl, by omega, by omega, by omega, H1, HBN, HCG, Lib.hid ⟨by simp, fun j hj => by rw [List.getD_eq_getElem?_getD, List.getElem?_replicate]; split <;> rfl, fun j hj => by omega, rfl, by omega, by omega, by omega, by omega⟩⟩
   case round =>
    clear H1 HBN HCG
    obtain ⟨i, n, bk, L, vp, vt, has, u, st, rfl, rfl, hi20, hnc, hLl, H, HB, HG, HF⟩ := hrel
    have hi0 : (0 : Int) ≤ (i : Int) := by omega
    have hiB : (i : Int) + 1 ≤ 9223372036854775807 := by omega
    by_cases hlt : i < a2.length
    ·have hltI : (i : Int) < (a2.length : Int) := by omega
     by_cases h20 : i < 20
     ·have h20I : (i : Int) < 20 := by omega
      by_cases hc0 : 0 < cts.length
      ·have hc0I : (0 : Int) < (cts.length : Int) := by omega
       obtain ⟨-, b2, u2, hb2, -, y2⟩ := (HI2.out.upd (zvw H.out) (by simp)).at i hlt
       subst hb2
       have hk2I : (a2.length : Int) ≤ (k2 : Int) := by omega
       have HW2 := Lib.hid (fun w => zdn a2[i] cts.length w (by omega) (by omega))
       have hkm := zhh a2[i] (cts.length : Int) (by omega)
       generalize a2[i] = z at *
       obtain ⟨k, hk⟩ : ∃ k : Nat, z % (cts.length : Int) = k := ⟨(z % (cts.length : Int)).toNat, by omega⟩
       rw [hk] at HW2 hkm
       have hkl : k < cts.length := by omega
       clear hk
       go_wp2_with fail
       refine (HW2.out _).mono ?_
       rintro e w' ⟨rfl, rfl⟩
       clear y2 HW2
       go_upto_region 18 with fail
       have HCK : Hid (CtGood f L k (cpL (cts.map Ct.cp) k)) := Lib.hid (HG.out k (by simpa using hkl))
       have hcm : cts[k] ∈ cts := List.getElem_mem hkl
       have hcpk : cpL (cts.map Ct.cp) k = cts[k].cp := by unfold cpL; simp [List.getD, hkl]
       obtain ⟨r1, hs1, -⟩ := H.out.side
       obtain ⟨b3, u3, hb3, g0, g1, g2, g3, g4⟩ := ct_at (owns_reads (zak (hs1.get 1 rfl))) k hkl
       subst hb3
       have t0 : wr.drew.cell? ⟨q, 0, none⟩ = some (.pointer (some ⟨x.nt, 0, none⟩)) := zaa (hs1.blkAt 7 rfl) 0 rfl
       have t1 : wr.drew.cell? ⟨q, 1, none⟩ = some (.pointer (some ⟨rn, 0, none⟩)) := zaa (hs1.blkAt 7 rfl) 1 rfl
       have f0 : wr.drew.cell? ⟨q + 1, 0, none⟩ = some (.int .i64 f) := zaa (hs1.blkAt 6 rfl) 0 rfl
       obtain ⟨fm, hfm⟩ : ∃ fm : Int, (id + 1) % (3 * (f : Int) + 1) = fm := ⟨_, rfl⟩
       have hfm2 := zhh (id + 1) (3 * (f : Int) + 1) (by omega)
       rw [hfm] at hfm2
       have HH := H.out.perm ((List.perm_append_comm (l₁ := [_, _, _]) (l₂ := [_, _, _])).append_right [blk (q + 1) (stdO f), blk q (twO x.nt rn)])
       have hPF := (HH.prf fm 5 rfl hcm).drew
       obtain ⟨e1, e2, e3, e4, e5, e6, e7, e8⟩ := HF.out
       have hsl := zdh L fm (pfB fm cts[k].cp)
       obtain ⟨n', bk', o, L', u', st', d1, d2, d3, d4, d5, d6, d7, d8, d9, d10, d11, d12, d13, d14, d15, d16⟩ := ad_give (fm := fm) (u := u) (st := st) (cps := cts.map Ct.cp) (k := k) hf2 hm1.1 (by omega) (by rw [hmB]; exact hc5) (HG.out.px (zjn L fm (pfB fm cts[k].cp))) e1 (by rw [hmB]; exact e2) e3 e4 (by rw [hmB]; exact hnc) HB.out (by rw [hmB]; exact hkl) (by omega)
       rw [hcpk] at d1 d2
       have hck := HCK.out
       rw [hcpk] at hck
       have hgv := zu0 (f := f) hPF rfl hf1 hf2 hfm2.1 (by omega) hck.rs hck.vl hck.w hck.ok rfl (by omega) (by show ([] : List (Int × Bys)).length ≤ _; simp) rfl rfl (by rw [d1]; show u ≤ _; omega) (by rw [d1]; show (0 : Int) ≤ _; omega) (by rw [d1]; show st ≤ _; omega) (by rw [d1]; show (0 : Int) ≤ _; omega) (by rw [d1]; show ([] : List Int).length ≤ _; simp)
       rw [d2] at hgv
       have HGV := Lib.hid hgv
       have HPX := Lib.hid d11
       have HD5 := Lib.hid d5
       have HD6 := Lib.hid d6
       have HD7 : Hid (∀ j, cts.length ≤ j → (has.set k true).getD j false = false) := Lib.hid (by rw [hmB] at d7; exact d7)
       have HD8 := Lib.hid d8
       have HD9 := Lib.hid d9
       have HD10 := Lib.hid d10
       have HLN : Hid (L'.length ≤ 100 + 20 * (i + 1)) := Lib.hid (by omega)
       have HUS : Hid (0 ≤ u' ∧ u' ≤ ((i + 1 : Nat) : Int) ∧ 0 ≤ st' ∧ st' ≤ ((i + 1 : Nat) : Int)) := Lib.hid (by omega)
       have HG2 : Hid (zcw f L' (cts.map Ct.cp)) := Lib.hid (HG.out.px ((zjn L fm (pfB fm cts[k].cp)).trans d11))
       have HHL : Hid (has.length = 8) := Lib.hid e1
       have hnn : n ≤ n' := d3
       have hnc' : n' ≤ cts.length := by rw [hmB] at d4; exact d4
       have d0 : wr.drew.cell? ⟨q, 0, none⟩ = some (.pointer (some ⟨x.nt, 0, none⟩)) ∧ wr.drew.cell? ⟨q, 1, none⟩ = some (.pointer (some ⟨rn, 0, none⟩)) ∧ wr.drew.cell? ⟨q + 1, 0, none⟩ = some (.int .i64 f) ∧ wr.drew.cell? ⟨b3, u3 + k * 5, none⟩ = some (.int .i64 cts[k].view) ∧ wr.drew.cell? ⟨b3, u3 + k * 5 + 1, none⟩ = some (.int .i64 cts[k].inst) ∧ wr.drew.cell? ⟨b3, u3 + k * 5 + 2, none⟩ = some (.int .i64 cts[k].seq) ∧ wr.drew.cell? ⟨b3, u3 + k * 5 + 3, none⟩ = some cts[k].vb ∧ wr.drew.cell? ⟨b3, u3 + k * 5 + 4, none⟩ = some cts[k].vv := ⟨t0, t1, f0, g0, g1, g2, g3, g4⟩
       clear t0 t1 f0 g0 g1 g2 g3 g4 hgv d1 d2 d3 d4 d5 d6 d7 d8 d9 d10 d11 d12 d13 d14 d15 d16 e1 e2 e3 e4 e5 e6 e7 e8 hsl hck HCK hcm hs1 HH hPF hcpk HB HG HF
       have hi1 : id + 1 ≤ 9223372036854775807 := by omega
       have hi9 : 0 ≤ id := hm1.1
       have hfm0 : 0 ≤ fm := hfm2.1
       have hfm9 : fm ≤ 100 := by omega
       have hdv : 3 * (f : Int) + 1 ≠ 0 := by omega
       have htm : (IntKind.i64.wrap (id + 1)).tmod (3 * (f : Int) + 1) = fm := by rw [IntWalk.i64_in (id + 1) ⟨by omega, by omega⟩, ← hfm]; exact Int.tmod_eq_emod_of_nonneg (by omega)
       go_cut [20] (fun t wx => t = .int .i64 k ∧ ∃ (vp' : Value) (vt' : Rn), Hid (NdIs W.heap.size W wx x (adS f id (dsH (cpL (cts.map Ct.cp)) (has.set k true)) n' bk' o u' st' false) L' (rnR rn vp' vt' L' (blk e17 (bO has) :: ownR 42 5 (.slice (some ⟨b3, u3, none⟩) cts.length cp) cts.length (cts.flatMap zal) :: ctsR cts :: [blk (q + 1) (stdO f), blk q (twO x.nt rn)]))))
       case first =>
        go_region_held3 (fun w' => w'.cell? ⟨q, 0, none⟩ = some (.pointer (some ⟨x.nt, 0, none⟩)) ∧ w'.cell? ⟨q, 1, none⟩ = some (.pointer (some ⟨rn, 0, none⟩)) ∧ w'.cell? ⟨q + 1, 0, none⟩ = some (.int .i64 f) ∧ w'.cell? ⟨b3, u3 + k * 5, none⟩ = some (.int .i64 cts[k].view) ∧ w'.cell? ⟨b3, u3 + k * 5 + 1, none⟩ = some (.int .i64 cts[k].inst) ∧ w'.cell? ⟨b3, u3 + k * 5 + 2, none⟩ = some (.int .i64 cts[k].seq) ∧ w'.cell? ⟨b3, u3 + k * 5 + 3, none⟩ = some cts[k].vb ∧ w'.cell? ⟨b3, u3 + k * 5 + 4, none⟩ = some cts[k].vv)
         (first | (with_reducible exact d0) | (with_reducible exact e0) | (with_reducible exact ad_ad d0))
         (first
          | (go_at_call 17; refine (HNo.out _).mono ?_; rintro e w' ⟨rfl, rfl⟩)
          | (go_at_call 16; refine (HW1.out _).mono ?_; rintro e w' ⟨rfl, rfl⟩)
          | (go_at_call 23; (try rw [htm]); refine HGV.out.mono ?_; rintro e w5 ⟨rfl, vp', vt', h5⟩; have e0 := zv4 h5 hkl; have H5 := Lib.hid (h5.more HPX.out); clear h5))
        all_goals go_wp2_with fail
        all_goals go_meet
        all_goals exact ⟨rfl, vp', vt', H5⟩
       case rest =>
        obtain ⟨rfl, vp', vt', H5⟩ := hcut
        clear d0 HGV HPX H
        obtain ⟨r2, hs2, hback2⟩ := H5.out.side
        have HBK := Lib.hid hback2
        dsimp only [rnR, List.cons_append, List.nil_append] at hs2
        have j1 := hs2.front 3 rfl rfl
        dsimp only [List.eraseIdx] at j1
        have hk8 : k < has.length := by have := HHL.out; omega
        have cc : wc.cell? ⟨e17, k, none⟩ = some (.bool (has.getD k false)) := ztb (j1.blkAt 0 rfl) hk8
        have cz := zab (j1.blkAt 0 rfl) k
        have j2 := Own.storeTo j1 k (.bool true) (bO_set has k)
        have j3 := j2.front 5 rfl rfl
        dsimp only [List.eraseIdx] at j3
        have j4 := j3.front 5 rfl rfl
        dsimp only [List.eraseIdx] at j4
        have j5 := j4.front 2 rfl rfl
        dsimp only [List.eraseIdx] at j5
        have H6 : Hid (NdIs W.heap.size W (wc.setCell ⟨e17, k, none⟩ (.bool true)) x (adS f id (dsH (cpL (cts.map Ct.cp)) (has.set k true)) n' bk' o u' st' false) L' (blk e17 (bO (has.set k true)) :: adL (some ⟨b3, u3, none⟩) cp cts (rnR rn vp' vt' L' [blk (q + 1) (stdO f), blk q (twO x.nt rn)]))) := Lib.hid (HBK.out _ (blk e17 (bO (has.set k true)) :: adL (some ⟨b3, u3, none⟩) cp cts (rnR rn vp' vt' L' [blk (q + 1) (stdO f), blk q (twO x.nt rn)])) j5)
        clear hs2 hback2 HBK j1 j2 j3 j4 j5 H5
        have hk0 : (0 : Int) ≤ (k : Int) := by omega
        have hk8I : (k : Int) < 8 := by have := HHL.out; omega
        have hH8 : (has.set k true).length = 8 := by rw [List.length_set]; exact HHL.out
        generalize has.set k true = has' at *
        go_upto_block 4 with fail
        clear cc cz
        generalize World.setCell wc _ _ = y at *
        go_cut [18] (fun t wx => t = .int .i64 n' ∧ wx = y)
        case first =>
         go_wp2_with fail
         go_loopw [18] (fun t wx => ∃ m : Nat, t = .int .i64 m ∧ m ≤ n' ∧ wx = y) (fun t _ => n' - (intOf t).toNat)
         case atStart => exact ⟨n, rfl, hnn, rfl⟩
         case round =>
          obtain ⟨m, rfl, hm1', rfl⟩ := hrel
          obtain ⟨r6, hs6, -⟩ := H6.out.side
          have hm8 : m < has'.length := by omega
          have cm : _ = some (Value.bool (has'.getD m false)) := ztb (hs6.blkAt 0 rfl) hm8
          have hm0 : (0 : Int) ≤ (m : Int) := by omega
          have hm8I : (m : Int) < 8 := by omega
          have hmB : (m : Int) + 1 ≤ 9223372036854775807 := by omega
          clear hs6 hm8
          by_cases hmn : m < n'
          ·rw [HD5.out m hmn] at cm
           have hmI : (m : Int) < (cts.length : Int) := by omega
           go_wp2_with fail
           go_roundw
           case rel => exact ⟨m + 1, by go_num, by omega, by first | trivial | rfl⟩
           case measure => simp [intOf]; omega
          ·obtain rfl : m = n' := by omega
           by_cases hx : m < cts.length
           ·rw [HD6.out] at cm
            have hmI : (m : Int) < (cts.length : Int) := by omega
            go_wp2_with fail
            go_meet
            exact ⟨rfl, rfl⟩
           ·have hmI : decide ((m : Int) < (cts.length : Int)) = false := decide_eq_false (by omega)
            clear cm
            go_wp2_with fail
            go_meet
            exact ⟨rfl, rfl⟩
        case rest =>
         obtain ⟨rfl, hwy⟩ := hcut
         rw [hwy]
         clear hwy
         go_upto_region 23 with fail
         obtain ⟨r6, hs6, -⟩ := H6.out.side
         have p0 : y.drew.cell? ⟨q + 1, 0, none⟩ = some (.int .i64 f) := zaa (hs6.blkAt 6 rfl) 0 rfl
         have p1 : y.drew.cell? ⟨q + 1, 1, none⟩ = some (.int .i64 2) := zaa (hs6.blkAt 6 rfl) 1 rfl
         have p2 : y.drew.cell? ⟨q + 1, 2, none⟩ = some (.int .i64 2) := zaa (hs6.blkAt 6 rfl) 2 rfl
         have p3 : y.drew.cell? ⟨q + 1, 3, none⟩ = some (.int .i64 4) := zaa (hs6.blkAt 6 rfl) 3 rfl
         have p4 : y.drew.cell? ⟨q + 1, 4, none⟩ = some (.int .i64 64) := zaa (hs6.blkAt 6 rfl) 4 rfl
         have p5 : y.drew.cell? ⟨q + 1, 5, none⟩ = some (.int .i64 8) := zaa (hs6.blkAt 6 rfl) 5 rfl
         have p6 : y.drew.cell? ⟨q + 1, 6, none⟩ = some (.int .i64 8) := zaa (hs6.blkAt 6 rfl) 6 rfl
         have p7 : y.drew.cell? ⟨q + 1, 7, none⟩ = some (.int .i64 8) := zaa (hs6.blkAt 6 rfl) 7 rfl
         have p8 : y.drew.cell? ⟨q + 1, 8, none⟩ = some (.int .i64 1) := zaa (hs6.blkAt 6 rfl) 8 rfl
         have p9 : y.drew.cell? ⟨q + 1, 9, none⟩ = some (.int .i64 2) := zaa (hs6.blkAt 6 rfl) 9 rfl
         have p10 : y.drew.cell? ⟨q + 1, 10, none⟩ = some (.int .i64 12) := zaa (hs6.blkAt 6 rfl) 10 rfl
         have p11 : y.drew.cell? ⟨q + 1, 11, none⟩ = some (.int .i64 8) := zaa (hs6.blkAt 6 rfl) 11 rfl
         have p12 : y.drew.cell? ⟨q + 1, 12, none⟩ = some (.int .i64 6) := zaa (hs6.blkAt 6 rfl) 12 rfl
         have p13 : y.drew.cell? ⟨q + 1, 13, none⟩ = some (.int .i64 2) := zaa (hs6.blkAt 6 rfl) 13 rfl
         have p14 : y.drew.cell? ⟨q + 1, 14, none⟩ = some (.int .i64 6) := zaa (hs6.blkAt 6 rfl) 14 rfl
         have t0 : y.drew.cell? ⟨q, 0, none⟩ = some (ptrV x.nt) := zaa (hs6.blkAt 7 rfl) 0 rfl
         have HO := Lib.hid (ad_out H6.out.drew)
         clear hs6
         refine Held.wp_held [(q + 1, 0, [.int .i64 f, .int .i64 2, .int .i64 2, .int .i64 4, .int .i64 64, .int .i64 8, .int .i64 8, .int .i64 8, .int .i64 1, .int .i64 2, .int .i64 12, .int .i64 8, .int .i64 6, .int .i64 2, .int .i64 6]), (q, 0, [ptrV x.nt])] [(2, 0), (4, 1)] [5, 13, 14] [(2, true), (4, false), (8, false), (1, false)] (by kernel_rfl) (by kernel_rfl) ⟨⟨p0, p1, p2, p3, p4, p5, p6, p7, p8, p9, p10, p11, p12, p13, p14, trivial⟩, ⟨t0, trivial⟩, trivial⟩ ?_
         simp only [Held.cutAt, Held.walk, List.take_succ_cons, List.take_zero, List.drop_succ_cons, List.drop_zero]
         go_wp2_with fail
         refine HO.out.mono ?_
         rintro e w6 ⟨oa, ok, os, rfl, hos, h6⟩
         clear p0 p1 p2 p3 p4 p5 p6 p7 p8 p9 p10 p11 p12 p13 p14 t0 HO
         have HOS := Lib.hid hos
         obtain ⟨r7, hs7, -⟩ := h6.side
         have p0 : w6.cell? ⟨q + 1, 0, none⟩ = some (.int .i64 f) := zaa (hs7.blkAt 8 rfl) 0 rfl
         have p1 : w6.cell? ⟨q + 1, 1, none⟩ = some (.int .i64 2) := zaa (hs7.blkAt 8 rfl) 1 rfl
         have p2 : w6.cell? ⟨q + 1, 2, none⟩ = some (.int .i64 2) := zaa (hs7.blkAt 8 rfl) 2 rfl
         have p3 : w6.cell? ⟨q + 1, 3, none⟩ = some (.int .i64 4) := zaa (hs7.blkAt 8 rfl) 3 rfl
         have p4 : w6.cell? ⟨q + 1, 4, none⟩ = some (.int .i64 64) := zaa (hs7.blkAt 8 rfl) 4 rfl
         have p5 : w6.cell? ⟨q + 1, 5, none⟩ = some (.int .i64 8) := zaa (hs7.blkAt 8 rfl) 5 rfl
         have p6 : w6.cell? ⟨q + 1, 6, none⟩ = some (.int .i64 8) := zaa (hs7.blkAt 8 rfl) 6 rfl
         have p7 : w6.cell? ⟨q + 1, 7, none⟩ = some (.int .i64 8) := zaa (hs7.blkAt 8 rfl) 7 rfl
         have p8 : w6.cell? ⟨q + 1, 8, none⟩ = some (.int .i64 1) := zaa (hs7.blkAt 8 rfl) 8 rfl
         have p9 : w6.cell? ⟨q + 1, 9, none⟩ = some (.int .i64 2) := zaa (hs7.blkAt 8 rfl) 9 rfl
         have p10 : w6.cell? ⟨q + 1, 10, none⟩ = some (.int .i64 12) := zaa (hs7.blkAt 8 rfl) 10 rfl
         have p11 : w6.cell? ⟨q + 1, 11, none⟩ = some (.int .i64 8) := zaa (hs7.blkAt 8 rfl) 11 rfl
         have p12 : w6.cell? ⟨q + 1, 12, none⟩ = some (.int .i64 6) := zaa (hs7.blkAt 8 rfl) 12 rfl
         have p13 : w6.cell? ⟨q + 1, 13, none⟩ = some (.int .i64 2) := zaa (hs7.blkAt 8 rfl) 13 rfl
         have p14 : w6.cell? ⟨q + 1, 14, none⟩ = some (.int .i64 6) := zaa (hs7.blkAt 8 rfl) 14 rfl
         have t0 : w6.cell? ⟨q, 0, none⟩ = some (ptrV x.nt) := zaa (hs7.blkAt 9 rfl) 0 rfl
         have HK := Lib.hid (zvt h6 HD10.out hos (by have := HD9.out; omega))
         clear h6 hs7 hos
         go_wp2_with fail
         refine ⟨⟨⟨p0, p1, p2, p3, p4, p5, p6, p7, p8, p9, p10, p11, p12, p13, p14, trivial⟩, ⟨t0, trivial⟩, trivial⟩, ?_⟩
         go_wp2_with fail
         refine HK.out.mono ?_
         rintro e w7 ⟨rfl, h7⟩
         have HLG := Lib.hid (zlx h7)
         have hix := Tryz.idx10 (o.length : Int)
         have hsub : (n' : Int) - (n : Int) = (o.length : Int) := by have := HD9.out; omega
         clear HK h7
         go_wp2_with fail
         refine ⟨trivial, ?_⟩
         go_wp2_with fail
         refine HLG.out.mono ?_
         rintro e w8 ⟨y8, rfl, -, hlp, h8⟩
         have HLE := Lib.hid (ad_len h8 hlp HD8.out.es)
         have H8 := Lib.hid h8
         have H9 : Hid (NdIs W.heap.size W w8 x (adS f id (dsH (cpL (cts.map Ct.cp)) has') n' bk' [] u' st' false) L' (blk e17 (bO has') :: adL (some ⟨b3, u3, none⟩) cp cts (rnR rn vp' vt' L' [blk (q + 1) (stdO f), blk q (twO x.nt rn)]))) := Lib.hid h8.dropL.drop.drop
         clear HLG h8 hlp H8
         go_wp2_with fail
         refine ⟨trivial, ?_⟩
         go_wp2_with fail
         refine HLE.out.mono ?_
         rintro e w' ⟨rfl, rfl⟩
         clear HLE
         go_wp2_with fail
         refine ⟨trivial, ?_⟩
         go_wp2_with fail
         refine ⟨trivial, by rfl, ⟨⟨rfl, .inr ⟨by kernel_rfl, by kernel_rfl⟩⟩, ⟨rfl, .inl ⟨by kernel_rfl, rfl⟩⟩, trivial⟩, ?_⟩
         go_wp2_with fail
         go_roundw
         case rel => exact ⟨i + 1, n', bk', L', vp', vt', has', u', st', rfl, by go_num, by omega, hnc', HLN.out, H9, HD8, HG2, Lib.hid ⟨hH8, HD7.out, HD5.out, HD6.out, HUS.out.1, HUS.out.2.1, HUS.out.2.2.1, HUS.out.2.2.2⟩⟩
         case measure => simp [intOf]; omega
      ·have hc0I : decide ((0 : Int) < (cts.length : Int)) = false := decide_eq_false (by omega)
       go_wp2_with fail
       go_meet
       exact ⟨n, bk, L, vp, vt, has, u, st, H, HB, HG, hnc⟩
     ·have h20I : decide ((i : Int) < 20) = false := by simp; omega
      go_wp2_with fail
      go_meet
      exact ⟨n, bk, L, vp, vt, has, u, st, H, HB, HG, hnc⟩
    ·have hltI : decide ((i : Int) < (a2.length : Int)) = false := by simp; omega
     go_wp2_with fail
     go_meet
     exact ⟨n, bk, L, vp, vt, has, u, st, H, HB, HG, hnc⟩
  case rest =>
   clear H1 HBN HCG
   obtain ⟨n, bk, L, vp, vt, has, u, st, H, HB, HG, hnc⟩ := hcut
   have HLG := Lib.hid (zlx H.out)
   clear H
   go_wp2_with fail
   refine HLG.out.mono ?_
   rintro e w3 ⟨y, rfl, hyk, hlp, h3⟩
   have HA := Lib.hid (ad_all h3 hyk hlp HB.out.es)
   clear h3 HLG hlp hyk
   go_wp2_with fail
   refine HA.out.mono ?_
   rintro e w4 ⟨va, vc, rfl, hvc, h4⟩
   have H4 := Lib.hid h4
   clear h4 HA
   have hn0 : (0 : Int) ≤ (n : Int) := by omega
   have hn5 : (n : Int) ≤ 5 := by omega
   have hvcI : (n : Int) ≤ (vc : Int) := by omega
   go_wp2_with fail
   go_loopw [156] (fun t wx => ∃ j : Nat, t = .int .i64 j ∧ j ≤ n ∧ Hid (NdIs W.heap.size W wx x (adS f id (dsH (cpL (cts.map Ct.cp)) has) n bk [] u st false) L (enR (.slice va n vc) bk.es :: blk e17 (bO has) :: adL ao cp cts (rnR rn vp vt L [blk (q + 1) (stdO f), blk q (twO x.nt rn)])))) (fun t _ => n - (intOf t).toNat)
   case atStart => exact ⟨0, rfl, by omega, H4⟩
   case round =>
    clear H4
    obtain ⟨j, rfl, hjn, H⟩ := hrel
    by_cases hj : j < n
    ·have hjI : (j : Int) < (n : Int) := by omega
     have hj0 : (0 : Int) ≤ (j : Int) := by omega
     have hjc : (j : Int) < (cts.length : Int) := by omega
     have hjc2 : j < cts.length := by omega
     have hje : j < bk.es.length := by rw [HB.out.es]; exact hj
     have hcj := HG.out j (by simpa using hjc2)
     have hcpj : cpL (cts.map Ct.cp) j = cts[j].cp := by unfold cpL; simp [List.getD, hjc2]
     have hrq := HB.out.rq j hj
     rw [List.getElem?_eq_getElem hje] at hrq
     simp only [Option.map_some, Option.some.injEq] at hrq
     have hrs := hcj.rs
     unfold rqL at hrq
     rw [hcpj] at hrs hrq
     obtain ⟨r9, hs9, -⟩ := H.out.side
     obtain ⟨b, o, b3, o3, b2, o2, c2, rfl, rfl, g3, hc2, ⟨k0, k1, k2, k3, k4, k5⟩, q0, q1, q2, q3, q4, q5⟩ := ad_row (i1 := 0) (i2 := 2) (i3 := 3) hs9 rfl rfl rfl hje hjc2 hrq hrs
     generalize reqAt cts[j].cp.rs 0 = r at *
     have hc2I : (1 : Int) ≤ (c2 : Int) := by omega
     have heq : ∀ wx, (Op.equalIn 10000 38 (rqAgg r) (rqAgg r)).run Tryz.prog wx = .ok true wx := fun wx => by rw [zfr]; simp
     unfold rqAgg at heq
     have hgd := Tryz.guardReq
     have HJ : Hid (j < n) := Lib.hid hj
     clear hs9 hcj hcpj hrq hrs
     go_wp2_with fail
     go_quiet (fail)
     go_wp2_with fail
     go_roundw
     case rel => exact ⟨j + 1, by go_num, by have := HJ.out; omega, Lib.hid (H.out.drewN _)⟩
     case measure => have := HJ.out; simp [intOf]; omega
    ·have hjI : decide ((j : Int) < (n : Int)) = false := decide_eq_false (by omega)
     have HV := Lib.hid (ad_view H.out)
     have HU := Lib.hid (zvw H.out)
     clear H
     go_wp2_with fail
     refine HV.out.mono ?_
     rintro e w' ⟨rfl, rfl⟩
     clear HV
     go_wp2_with fail
     refine (zmx _).mono ?_
     rintro e w9 ⟨rfl, hu⟩
     have HU2 := Lib.hid (HU.out.trans hu)
     clear hu HU
     go_wp2_with fail
     go_ret
     exact ⟨rfl, HU2.out⟩
end Go.Proofs.YtannckelmojkoaaGreat
