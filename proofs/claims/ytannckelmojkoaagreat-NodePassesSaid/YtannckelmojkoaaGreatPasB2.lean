/- Parts of the proof, one behind the other. -/
import Derived.Test.YtannckelmojkoaaGreatPasB1
set_option maxHeartbeats 32000000
set_option maxRecDepth 100000
namespace Go.Proofs.YtannckelmojkoaaGreat
open Go.RowKit Go.Heap
theorem Tryz.infoCt3 : (Tryz.prog.info? 42).map (fun i => (i.zero, i.size, i.bytes)) = some (some (.agg #[.int .i64 0, .int .i64 0, .int .i64 0, .slice none 0 0, .slice none 0 0]), 5, 72) := by kernel_rfl
section
variable {B : Nat} {w0 W : World} {ss : List Res} {y : Lg}
theorem lstore_any (h : Own B w0 W (lgL y ++ ss)) (hy : LgOk y) : Calls Tryz.prog 56 #[ptrV y.p] W fun e w' => ∃ s, e = .returned (ptrV s) ∧ Own B w0 w' (stR s y.st :: (lgL y ++ ss)) := by
 obtain ⟨-, -, c2, -⟩ := ze3 h
 have HS := Lib.hid (zm8 h hy)
 clear h hy
 go_enter Tryz.func56, Tryz.ntmps56
 go_wp2_with fail
 refine HS.out.mono ?_
 rintro e w1 ⟨s, rfl, h1⟩
 have H1 := Lib.hid h1
 clear h1 HS c2
 go_wp2_with fail
 go_ret
 exact ⟨s, rfl, H1.out⟩
theorem llast_any (h : Own B w0 W (lgL y ++ ss)) (hy : LgOk y) (k : Nat) (hk : k < y.rp.length) : Calls Tryz.prog 58 #[ptrV y.p, .int .i64 k] W fun e w' => e = .returned (.int .i64 y.rp[k].1) ∧ w' = W := by
 obtain ⟨-, -, -, c3⟩ := ze3 h
 have HS := Lib.hid (zqy (h.blkAt 3 rfl) (h.get 4 rfl) hy.cap.1 k hk)
 clear h hy
 go_enter Tryz.func58, Tryz.ntmps58
 go_wp2_with fail
 refine HS.out.mono ?_
 rintro e w1 ⟨rfl, rfl⟩
 go_wp2_with fail
 go_ret
 exact ⟨rfl, rfl⟩
theorem sget_any {s : Nat} {st : List (Bool × Int)} (h : Own B w0 W (stR s st :: ss)) (hl : st.length = 64) (k : Nat) (hk : k < 64) : Calls Tryz.prog 57 #[ptrV s, .int .i64 k] W fun e w' => e = .returned (.tuple #[.int .i64 (if (st.getD k (false, 0)).1 then (st.getD k (false, 0)).2 else 0), .bool (st.getD k (false, 0)).1]) ∧ W = w' := by
 obtain ⟨q1, q2, -⟩ := zcv h.head
 have hks : k < st.length := by omega
 have hg : st.getD k (false, 0) = st[k] := by simp [List.getD, hks]
 rw [hg]
 have r0 : W.cell? ⟨s, k * 2, none⟩ = some (.bool st[k].1) := by
  rw [show k * 2 = k * 2 + 0 from rfl, q2 _ (by rw [st_len]; omega), flat_get (cells := zgp) (sz := 2) (fun _ => rfl) st k 0 st[k] (by simp) (by omega)]; rfl
 have r1 : W.cell? ⟨s, k * 2 + 1, none⟩ = some (.int .i64 st[k].2) := by
  rw [q2 _ (by rw [st_len]; omega), flat_get (cells := zgp) (sz := 2) (fun _ => rfl) st k 1 st[k] (by simp) (by omega)]; rfl
 have hk0 : (0 : Int) ≤ (k : Int) := by omega
 have hkI : (k : Int) < 64 := by omega
 clear h q2 hg
 generalize st[k] = c at *
 obtain ⟨b, v⟩ := c
 simp only at r0 r1 ⊢
 cases b with
 | false =>
  go_enter Tryz.func57, Tryz.ntmps57
  go_wp2_with fail
  exact bodyPost_ret (v := .tuple #[.int .i64 0, .bool false]) (by simp [results, Tryz.results57, go_sem]) rfl ⟨rfl, rfl⟩
 | true =>
  go_enter Tryz.func57, Tryz.ntmps57
  go_wp2_with fail
  exact bodyPost_ret (v := .tuple #[.int .i64 v, .bool true]) (by simp [results, Tryz.results57, go_sem]) rfl ⟨rfl, rfl⟩
end
def cmtN (s : Ns) (n : Nat) : Nat := (List.range n).countP fun (j : Nat) => (zau (insAt s 0) ((j : Int) + 1)).isSome
theorem cmtN_step (s : Ns) (n : Nat) : cmtN s (n + 1) = cmtN s n + if (zau (insAt s 0) ((n : Int) + 1)).isSome then 1 else 0 := by
 unfold cmtN
 rw [List.range_succ, List.countP_append]
 simp [List.countP_cons, List.countP_nil]
theorem cmtN_le (s : Ns) (n : Nat) : cmtN s n ≤ n := by
 unfold cmtN
 have := List.countP_le_length (p := fun j : Nat => (zau (insAt s 0) ((j : Int) + 1)).isSome) (l := List.range n)
 simpa using this
section
variable {B : Nat} {w0 W : World} {ss : List Res} {x : Np} {s : Ns} {l : Nt}
theorem ncommitted_n (h : NdIs B w0 W x s l ss) : Calls Tryz.prog 55 #[ptrV x.p, .int .i64 0] W fun e w' => ∃ a c, e = .returned (.slice a (cmtN s 16) c) ∧ NdIs B w0 w' x s l ss := by
 obtain ⟨i0, hi, hz0, hz1, hz2⟩ := info_parts Tryz.infoCt3
 have hcap := h.caps.1
 have hcI : (s.c.f : Int) + 1 ≤ (x.ic : Int) := by omega
 have c18 := h.cell 18 rfl (by decide)
 obtain ⟨i, hi0, -⟩ := h.iAt (k := 0) (by omega)
 have HI := Lib.hid hi0
 have H0 : Hid (NdIs B w0 W x s l (ownR 42 5 (.slice none 0 0) 0 [] :: ss)) := Lib.hid (h.onSide (fun r hr => hr.row0))
 clear h hcap hi0
 go_enter Tryz.func55, Tryz.ntmps55
 go_wp2_with fail
 go_loopw [5, 6] (fun o t wr => ∃ (j : Nat) (a : Option Addr) (c : Nat) (xs : List Value), j ≤ 16 ∧ t = .int .i64 ((j : Int) + 1) ∧ o = .slice a (cmtN s j) c ∧ Hid (NdIs B w0 wr x s l (ownR 42 5 (.slice a (cmtN s j) c) (cmtN s j) xs :: ss))) (fun _ t _ => 17 - (intOf t).toNat)
 case atStart => exact ⟨0, none, 0, [], by omega, rfl, rfl, H0⟩
 case round =>
  clear H0 c18
  obtain ⟨j, a, c, xs, hj, rfl, rfl, H1⟩ := hrel
  have hj0 : (0 : Int) ≤ (j : Int) := by omega
  by_cases hlt : j < 16
  ·have hjI : (j : Int) + 1 ≤ 16 := by omega
   have c18 := H1.out.cell 18 rfl (by decide)
   have ci := H1.out.instAt 0 HI.out
   have HC := Lib.hid (zgd H1.out 0 (by omega) HI.out ((j : Int) + 1))
   have HST := Lib.hid (cmtN_step s j)
   have HLE := Lib.hid (cmtN_le s j)
   generalize cmtN s j = m at *
   generalize zau (insAt s 0) ((j : Int) + 1) = oc at *
   clear H1
   go_wp2_with fail
   refine HC.out.mono ?_
   rintro e w2 ⟨d, rfl, -, ⟨a1, k1, a2, k2, hb1, hv1⟩, h2⟩
   obtain ⟨view, inst, seq, vb, vv, rs, vs⟩ := d
   simp only at hb1 hv1
   subst hb1 hv1
   have H3 := Lib.hid (h2.box (ctO view inst seq (.slice a1 rs.length k1) (.slice a2 vs.length k2)))
   clear h2 HC c18 ci
   have hb7 := heap_alloc_new w2 (ctO view inst seq (.slice a1 rs.length k1) (.slice a2 vs.length k2))
   have f0 := zaa hb7 0 rfl
   have f1 := zaa hb7 1 rfl
   have f2 := zaa hb7 2 rfl
   have f3 := zaa hb7 3 rfl
   have f4 := zaa hb7 4 rfl
   have hjB : (j : Int) + 1 + 1 ≤ 9223372036854775807 := by omega
   cases oc with
   | none =>
    have e : cmtN s (j + 1) = m := by have := HST.out; simpa using this
    have HF := Lib.hid H3.out.drop.drop.drop
    clear H3 hb7 f0 f1 f2 f3 f4 HST
    simp only [Option.isSome_none]
    go_wp2_with fail
    go_roundw
    case rel => exact ⟨j + 1, a, c, xs, by omega, by go_num, by rw [e], by rw [e]; exact HF⟩
    case measure => simp [intOf]; omega
   | some cc =>
    have e : cmtN s (j + 1) = m + 1 := by have := HST.out; simpa using this
    obtain ⟨r9, hs9, hback9⟩ := H3.out.side
    have HBK := Lib.hid hback9
    have hx := hs9.box (ctO view inst seq (.slice a1 rs.length k1) (.slice a2 vs.length k2))
    have hn := heap_alloc_new (w2.alloc (ctO view inst seq (.slice a1 rs.length k1) (.slice a2 vs.length k2))) (ctO view inst seq (.slice a1 rs.length k1) (.slice a2 vs.length k2))
    rw [za4] at hx hn
    have HX := Lib.hid hx
    have HNB := Lib.hid hn
    clear hx hn
    have HE := Lib.hid e
    clear H3 hb7 HST hs9 hback9 e
    simp only [Option.isSome_some]
    go_wp2_with (at_builtin; refine zba rfl (.tmp 37) (.tmp 39) 44 rfl 42 i0 (.agg #[.int .i64 0, .int .i64 0, .int .i64 0, .slice none 0 0, .slice none 0 0]) 5 72 Tryz.underlying44 hi hz0 hz1 hz2 rfl (by decide) HX.out 4 (.slice a m c) m xs rfl rfl (w2.heap.size + 1) #[.int .i64 view, .int .i64 inst, .int .i64 seq, .slice a1 rs.length k1, .slice a2 vs.length k2] 42 (0, 0) rfl HNB.out rfl (by simp [Value.oneCell']) (by have := HLE.out; unfold maxLen; omega) (by have := HLE.out; omega) ?_)
    intro g cap w6 k6
    have HF : Hid (NdIs B w0 w6 x s l (ownR 42 5 (.slice (some ⟨g, 0, none⟩) (cmtN s (j + 1)) cap) (cmtN s (j + 1)) (xs ++ [.int .i64 view, .int .i64 inst, .int .i64 seq, .slice a1 rs.length k1, .slice a2 vs.length k2]) :: ss)) := Lib.hid (HBK.out w6 (_ :: ss) (by
     rw [HE.out]
     exact (((show Own B w0 w6 (blk _ _ :: blk _ _ :: batR _ _ :: redR _ _ _ _ :: ownR _ _ _ _ _ :: (ss ++ [r9])) from k6).drop).drop).drop.drop))
    clear k6 HX HBK HNB f0 f1 f2 f3 f4
    go_wp2_with fail
    go_roundw
    case rel => exact ⟨j + 1, _, cap, _, by omega, by go_num, by rw [HE.out], HF⟩
    case measure => simp [intOf]; omega
  ·have hjI : decide ((j : Int) + 1 ≤ 16) = false := decide_eq_false (by omega)
   obtain rfl : j = 16 := by omega
   have HF := Lib.hid H1.out.drop
   go_wp2_with fail
   go_ret
   exact ⟨a, c, rfl, HF.out⟩
end
def dsP (cps : Nat → Cp) (n : Nat) : List (Option Cp) := (List.range 16).map fun j => if j < n then some (cps j) else none
theorem dsP_len (cps : Nat → Cp) (n : Nat) : (dsP cps n).length = 16 := by unfold dsP; simp
theorem dsP_at (cps : Nat → Cp) (n : Nat) {j : Nat} (hj : j < 16) : (dsP cps n)[j]? = some (if j < n then some (cps j) else none) := by
 unfold dsP
 rw [List.getElem?_map, List.getElem?_range hj]
 rfl
theorem dsP_set (cps : Nat → Cp) (n : Nat) (c : Cp) : (dsP cps n).set n (some c) = dsP (fun j => if j = n then c else cps j) (n + 1) := by
 refine List.ext_getElem? (fun j => ?_)
 by_cases hj : j < 16
 ·rw [dsP_at _ _ hj, List.getElem?_set]
  by_cases e : n = j
  ·subst e
   rw [if_pos rfl, if_pos (by rw [dsP_len]; exact hj), if_pos (by omega), if_pos rfl]
  ·rw [if_neg e, dsP_at _ _ hj]
   congr 1
   by_cases h : j < n
   ·rw [if_pos h, if_pos (by omega), if_neg (by omega)]
   ·rw [if_neg h, if_neg (by omega)]
 ·rw [List.getElem?_eq_none (by rw [List.length_set, dsP_len]; omega), List.getElem?_eq_none (by rw [dsP_len]; omega)]
theorem dsP_lead (cps : Nat → Cp) {n : Nat} (hn : n ≤ 16) : ((dsP cps n).takeWhile Option.isSome).length = n := by
 have e : (dsP cps n).takeWhile Option.isSome = (dsP cps n).take n := by
  refine takeWhile_take (fun j hj hjl => ?_) (fun hl => ?_)
  ·have := dsP_at cps n (j := j) (by omega)
   rw [if_pos hj, List.getElem?_eq_getElem hjl] at this
   simp only [Option.some.injEq] at this
   rw [this]; rfl
  ·have := dsP_at cps n (j := n) (by rw [dsP_len] at hl; exact hl)
   rw [if_neg (by omega), List.getElem?_eq_getElem hl] at this
   simp only [Option.some.injEq] at this
   rw [this]; rfl
 rw [e, List.length_take, dsP_len]
 omega
theorem dsP_nil (cps : Nat → Cp) : dsP cps 0 = List.replicate 16 none := rfl
theorem count_lt : ∀ n, n ≤ 16 → (List.range 16).countP (fun j => decide (j < n)) = n := by decide
theorem cmt_ad {f : Nat} {id n u st : Int} {cps : Nat → Cp} {m : Nat} {bk : Lp} {out : List (Int × Bys)} {sp : Bool} (hm : m ≤ 16) : cmtN (adS f id (dsP cps m) n bk out u st sp) 16 = m := by
 unfold cmtN
 refine Eq.trans (List.countP_congr (fun j hj => ?_)) (count_lt m hm)
 have hj' : j < 16 := by simpa using hj
 rw [ad_at, zhz j hj' (dsP_len _ _) rfl, dsP_at _ _ hj']
 by_cases h : j < m
 ·simp [h]
 ·simp [h]
structure BkPs (n : Nat) (last : Int) (b : Lp) : Prop where
 ok : BkOk 2 b
 es : b.es.length = n
 rp : (b.rp.getD 0 (0, 0)).1 = last
 st : (b.st.getD 1 (false, 0)).2 = n
 has : (b.st.getD 1 (false, 0)).1 = true ∨ n = 0
def addR (k sl : Int) : Rq := ⟨0, k, 3, 1, 1, sl⟩
theorem bkPs_new (f : Nat) (id : Int) : BkPs 0 0 (newS (stdC f) id).bk := ⟨(bk_new [] f id).ok, rfl, rfl, rfl, .inr rfl⟩
theorem BkPs.get {n : Nat} {last : Int} {b : Lp} (h : BkPs n last b) : (if (b.st.getD 1 (false, 0)).1 then (b.st.getD 1 (false, 0)).2 else 0) = n := by
 rcases h.has with h1 | h1
 ·rw [h1, if_pos rfl, h.st]
 ·have := h.st
  split <;> omega
theorem applyX_add {st : List (Bool × Int)} {k sl : Int} {n : Nat} (h : (st.getD 1 (false, 0)).2 = n) (hn : n ≤ 1000) : za3 st (addR k sl) = ((n : Int) + 1, st.set 1 (true, (n : Int) + 1)) := by
 unfold za3 addR
 simp only [show (1 : Int).toNat = 1 from rfl, h]
 rw [if_neg (by omega), if_neg (by omega), if_neg (by omega), if_pos trivial, if_neg (by omega)]
theorem BkPs.step {n : Nat} {last k sl : Int} {b : Lp} (h : BkPs n last b) (hn : n ≤ 1000) : BkPs (if last < k then n + 1 else n) (if last < k then k else last) (ldg1 b (addR k sl)) := by
 have hrp := h.ok.rp
 have hst := h.ok.st
 by_cases hk : last < k
 ·rw [if_pos hk, if_pos hk]
  have hy := zj3 (r := addR k sl) (c := 0) h.ok rfl (by omega) (by rw [h.rp]; exact hk)
  have e : ldg1 b (addR k sl) = ⟨b.clients, b.es ++ [⟨addR k sl, (za3 b.st (addR k sl)).1⟩], (za3 b.st (addR k sl)).2, b.rp.set 0 (k, (za3 b.st (addR k sl)).1)⟩ := by unfold ldg1; rw [hy]; rfl
  have ea := applyX_add (k := k) (sl := sl) h.st hn
  have hok := zs6 (r := addR k sl) (c := 0) h.ok rfl (by omega)
  rw [e] at hok ⊢
  rw [ea] at hok ⊢
  refine ⟨hok, by simp [h.es], ?_, ?_, .inl ?_⟩
  ·simp only [List.getD_eq_getElem?_getD, List.getElem?_set]
   rw [if_pos trivial, if_pos (by omega)]
   rfl
  ·simp only [List.getD_eq_getElem?_getD, List.getElem?_set]
   rw [if_pos trivial, if_pos (by omega)]
   simp
  ·simp only [List.getD_eq_getElem?_getD, List.getElem?_set]
   rw [if_pos trivial, if_pos (by omega)]
   rfl
 ·rw [if_neg hk, if_neg hk]
  have hy := ztj (r := addR k sl) (c := 0) h.ok rfl (by omega) (by rw [h.rp]; exact hk)
  have e : ldg1 b (addR k sl) = b := by unfold ldg1; rw [hy]
  rw [e]
  exact h
theorem ps_give {f : Nat} {id fm u st last k sl : Int} {cps : Nat → Cp} {i n : Nat} {bk : Lp} {out : List (Int × Bys)} {L : Nt} {c : Cp} (hf : f ≤ 4) (h0 : 0 ≤ id) (h1 : id ≤ 3 * f) (hi : i < 16) (hc : c.seq = i + 1) (hci : c.inst = 0) (hcc : za1 L 5 c f 2 = true) (hcr : c.rs = [addR k sl]) (hq : okReq (addR k sl) 2 = true)
  (hb : BkPs n last bk) (hn : n ≤ i) (hL : L.length ≤ 800000000) :
  ∃ (bk' : Lp) (o : List (Int × Bys)) (L' : Nt), zbm c (adS f id (dsP cps i) i bk out u st false, L) = (0, (adS f id (dsP (fun j => if j = i then c else cps j) (i + 1)) ((i + 1 : Nat) : Int) bk' (out ++ o) u st (decide (16 ≤ i + 1)), L')) ∧
   zg1 fm (zbm c (adS f id (dsP cps i) i bk out u st false, L)) = (adS f id (dsP (fun j => if j = i then c else cps j) (i + 1)) ((i + 1 : Nat) : Int) bk' (out ++ o) (u + 1) st (decide (16 ≤ i + 1)), L') ∧
   BkPs (if last < k then n + 1 else n) (if last < k then k else last) bk' ∧ o.length ≤ 1 ∧ zfb f L' o ∧ Px L L' ∧ L'.length ≤ L.length + 16 := by
 have hds : (dsP cps i)[i]? = some none := by rw [dsP_at _ _ hi, if_neg (by omega)]
 obtain ⟨o, L', e1, e2, e3, e4, e5, e6⟩ := zsl (u := u) (st := st) (out := out) (bk := bk) (l := L) (f := f) (id := id) (n := i) (N := i + 1) (c := c) (fun _ => addR k sl) hf h0 h1 (k := i) hi (dsP_len cps i) hc hci hcc hds (dsP_lead cps (by omega)) (by rw [dsP_set]; exact dsP_lead _ (by omega)) (fun j g1 g2 => by
  have : j = i := by omega
  subst this
  exact ⟨⟨c, by rw [dsP_set, dsP_at _ _ hi, if_pos (by omega), if_pos rfl], hcr⟩, hq⟩) hb.ok (by omega)
 rw [show i + 1 - i = 1 by omega] at e1 e2 e6
 have es : ldgs (fun _ => addR k sl) bk i 1 = ldg1 bk (addR k sl) := rfl
 rw [es] at e1 e2 e6
 rw [dsP_set] at e1
 have hs := hb.step (k := k) (sl := sl) (by omega)
 refine ⟨_, o, L', e1, ?_, hs, ?_, e3, e4, e5⟩
 ·rw [e1, zsq]
 ·have h2 := hs.es
  have h3 := hb.es
  split at h2 <;> omega
section
variable {B : Nat} {w0 W W' : World} {x : Np} {s : Ns} {l L : Nt} {ss : List Res} {rn : Nat} {vp : Value} {vt : Rn}
theorem nd_pfx {d : Ct} (h : NdIs B w0 W x s l (redR d.vv 2 d.vs.length (zan d.vs) :: redR d.vb 6 d.rs.length (zam d.rs) :: rnR rn vp vt L ss)) (hn : d.rs.length ≤ 100000) (hm : d.vs.length ≤ 100000) (fm : Int) :
  NdIs B w0 (W.alloc (ctO d.view d.inst d.seq d.vb d.vv)) x s l (mmR (pfX fm d (.slice (some ⟨W.heap.size, 0, none⟩) 1 1)) (rnR rn vp vt L (ctsR [d] :: ss))) := by
 have h1 : NdIs B w0 W x s l (rnR rn vp vt L (ctsR [d] :: ss)) := h.onSide (fun r hr => by
  have k1 : Own _ _ _ (ctsR [] :: _) := hr.mkCts (by simp)
  have k2 := k1.front 2 rfl rfl
  dsimp only [List.eraseIdx, List.cons_append] at k2
  have k3 := k2.front 2 rfl rfl
  dsimp only [List.eraseIdx, List.cons_append] at k3
  have k4 := zub k3 hn hm
  exact k4.perm ((List.perm_append_comm (l₁ := [_]) (l₂ := [_, _, _])).append_right _))
 exact h1.prf fm 3 rfl (by simp)
theorem ps_step {f i n : Nat} {id fm u st last k sl : Int} {cps : Nat → Cp} {bk : Lp} {out : List (Int × Bys)} {d : Ct} {v : Value}
  (h : NdIs B w0 W x (adS f id (dsP cps i) i bk out u st false) l (mmR (pfX fm d v) (rnR rn vp vt l ss))) (hf1 : 1 ≤ f) (hf2 : f ≤ 4) (h0 : 0 ≤ id) (h1 : id ≤ 3 * f) (hm0 : 0 ≤ fm) (hm1 : fm ≤ 3 * f) (hi : i < 16) (hb : BkPs n last bk) (hn : n ≤ i)
  (hc : CrtOk 5 f 2 l d.cp (addR k sl) d.vs) (hseq : d.seq = i + 1) (hinst : d.inst = 0) (hq : okReq (addR k sl) 2 = true) (hl : l.length ≤ 100000) (ho : out.length ≤ 1000) (hu0 : 0 ≤ u) (hu : u ≤ 1000) (hst0 : 0 ≤ st) (hst : st ≤ 1000) :
  Calls Tryz.prog 23 #[ptrV x.p, .agg (twA x.nt rn), .agg (mmA (pfX fm d v))] W fun e w' => e = .returned (.tuple #[]) ∧ ∃ (cps' : Nat → Cp) (bk' : Lp) (out' : List (Int × Bys)) (L' : Nt) (vp' : Value) (vt' : Rn), out'.length ≤ out.length + 1 ∧ BkPs (if last < k then n + 1 else n) (if last < k then k else last) bk' ∧ L'.length ≤ l.length + 17 ∧
   NdIs B w0 w' x (adS f id (dsP cps' (i + 1)) ((i + 1 : Nat) : Int) bk' out' (u + 1) st (decide (16 ≤ i + 1))) L' (rnR rn vp' vt' L' ss) := by
 have hsl := zdh l fm (pfB fm d.cp)
 obtain ⟨bk', o, L', e1, e2, e3, e4, e5, e6, e7⟩ := ps_give (fm := fm) (u := u) (st := st) (cps := cps) (out := out) (L := sealL l fm (pfB fm d.cp)) (c := d.cp) hf2 h0 h1 hi hseq hinst ((zjn l fm (pfB fm d.cp)).certified hc.cert) hc.rs hq hb hn (by omega)
 have hg := zu0 (f := f) (r := addR k sl) h rfl hf1 hf2 hm0 hm1 hc.rs hc.vl hc.w hc.ok rfl (by omega) (by show out.length ≤ _; omega) rfl rfl (by rw [e1]; show u ≤ _; omega) (by rw [e1]; show (0 : Int) ≤ _; omega) (by rw [e1]; show st ≤ _; omega) (by rw [e1]; show (0 : Int) ≤ _; omega) (by rw [e1]; show ([] : List Int).length ≤ _; simp)
 rw [e2] at hg
 refine hg.mono ?_
 rintro e w' ⟨he, vp', vt', h2⟩
 exact ⟨he, _, bk', out ++ o, L', vp', vt', by rw [List.length_append]; omega, e3, by omega, h2.more e6⟩
theorem add_good {k : Int} (h1 : 1 ≤ k) (h2 : k ≤ 1000) : RqGood 2 (addR k 0) := by
 refine ⟨?_, by omega⟩
 unfold okReq inW zbl addR
 simp
 omega
theorem ps_cert {f i n e16 q p : Nat} {id fm u st last k : Int} {cps : Nat → Cp} {bk : Lp} {out : List (Int × Bys)}
  (h : NdIs B w0 W x (adS f id (dsP cps i) i bk out u st false) l (blk e16 (rqO (addR k 0)) :: rnR rn vp vt l [blk (q + 1) (stdO f), blk q (twO x.nt rn)])) (hW : W' = W.alloc (rqO (addR k 0))) (hp : p = W.heap.size) (hf1 : 1 ≤ f) (hf2 : f ≤ 4) (h0 : 0 ≤ id) (h1 : id ≤ 3 * f) (hm0 : 0 ≤ fm) (hm1 : fm ≤ 3 * f) (hi : i < 16) (hb : BkPs n last bk) (hn : n ≤ i)
  (hk1 : 1 ≤ k) (hk2 : k ≤ 1000) (hl : l.length ≤ 50000) (ho : out.length ≤ 1000) (hu0 : 0 ≤ u) (hu : u ≤ 1000) (hst0 : 0 ≤ st) (hst : st ≤ 1000) :
  Calls Tryz.prog 20 #[.agg (twA x.nt rn), .int .i64 5, .int .i64 f, .int .i64 0, .agg #[.int .i64 0, .int .i64 0, .int .i64 ((i : Int) + 1), .slice (some ⟨p, 0, none⟩) 1 1, .slice none 0 0]] W' fun e w' => ∃ a1 c1 a2 c2, e = .returned (.agg #[.int .i64 0, .int .i64 0, .int .i64 ((i : Int) + 1), .slice a1 1 c1, .slice a2 (2 * f + 1) c2]) ∧
   (w'.cell? ⟨q, 0, none⟩ = some (.pointer (some ⟨x.nt, 0, none⟩)) ∧ w'.cell? ⟨q, 1, none⟩ = some (.pointer (some ⟨rn, 0, none⟩)) ∧ w'.cell? ⟨q + 1, 0, none⟩ = some (.int .i64 f) ∧ w'.cell? ⟨e16, 0, none⟩ = some (.int .i64 0) ∧ w'.cell? ⟨e16, 1, none⟩ = some (.int .i64 k) ∧ w'.cell? ⟨e16, 2, none⟩ = some (.int .i64 3) ∧ w'.cell? ⟨e16, 3, none⟩ = some (.int .i64 1) ∧ w'.cell? ⟨e16, 4, none⟩ = some (.int .i64 1) ∧ w'.cell? ⟨e16, 5, none⟩ = some (.int .i64 0)) ∧
   Calls Tryz.prog 23 #[ptrV x.p, .agg (twA x.nt rn), .agg #[.int .i64 9, .int .i64 fm, .int .i64 0, .int .i64 0, .int .i64 0, .int .i64 0, .slice none 0 0, .slice none 0 0, .slice (some ⟨w'.heap.size, 0, none⟩) 1 1, .slice none 0 0]] (w'.alloc (ctO 0 0 ((i : Int) + 1) (.slice a1 1 c1) (.slice a2 (2 * f + 1) c2))) fun e w2 => e = .returned (.tuple #[]) ∧
    ∃ (cps' : Nat → Cp) (bk' : Lp) (out' : List (Int × Bys)) (L' : Nt) (vp' : Value) (vt' : Rn), out'.length ≤ out.length + 1 ∧ BkPs (if last < k then n + 1 else n) (if last < k then k else last) bk' ∧ L'.length ≤ l.length + 40 ∧
     NdIs B w0 w2 x (adS f id (dsP cps' (i + 1)) ((i + 1 : Nat) : Int) bk' out' (u + 1) st (decide (16 ≤ i + 1))) L' (blk e16 (rqO (addR k 0)) :: rnR rn vp' vt' L' [blk (q + 1) (stdO f), blk q (twO x.nt rn)]) := by
 subst hW hp
 obtain ⟨rr, hs, hback⟩ := h.sideN
 have g1 := znj hs (addR k 0)
 have g2 := g1.front 6 rfl rfl
 dsimp only [List.eraseIdx, List.cons_append, List.nil_append, rnR] at g2
 have g3 := g2.front 6 rfl rfl
 dsimp only [List.eraseIdx] at g3
 have g4 := g3.front 6 rfl rfl
 dsimp only [List.eraseIdx] at g4
 have g5 := g4.front 5 rfl rfl
 dsimp only [List.eraseIdx] at g5
 have g6 := g5.front 5 rfl rfl
 dsimp only [List.eraseIdx] at g6
 have hgd := add_good hk1 hk2
 have hnk := crt_nok (kind := 5) (skip := 0) (view := 0) (inst := 0) (seq := (i : Int) + 1) (r := addR k 0) h.nok hf2
 have hok := crt_ok (kind := 5) (f := f) (skip := 0) (l := l) (view := 0) (inst := 0) (seq := (i : Int) + 1) hgd (by omega) hf1 hf2 (by omega) (by omega) (by omega) (by omega) (by omega) (by omega) (by omega) (by omega)
 have hpx := zxq 5 f 0 l 0 0 ((i : Int) + 1) (addR k 0)
 have hrs := zxo (l := l) hgd (by omega)
 obtain ⟨sl, hsl⟩ : ∃ sl, rqS l (addR k 0) = addR k sl := by
  unfold rqS
  split
  ·exact ⟨_, rfl⟩
  ·exact ⟨_, rfl⟩
 refine (zoa (kind := 5) (skip := 0) (view := 0) (inst := 0) (seq := (i : Int) + 1) g6 h.nok (by omega) hf1 hf2).mono ?_
 rintro e w5 ⟨a1, c1, a2, c2, vp', vt', rfl, j1⟩
 have hcp : ∀ a1 c1 a2 c2, Ct.cp ⟨0, 0, (i : Int) + 1, .slice a1 1 c1, .slice a2 (2 * f + 1) c2, [rqS l (addR k 0)], (crtP 5 f 0 l 0 0 ((i : Int) + 1) (addR k 0)).1.vs⟩ = (crtP 5 f 0 l 0 0 ((i : Int) + 1) (addR k 0)).1 := fun _ _ _ _ => rfl
 generalize crtP 5 f 0 l 0 0 ((i : Int) + 1) (addR k 0) = P at *
 obtain ⟨c, l'⟩ := P
 rw [hsl] at hok hrs j1 hcp
 simp only at hok hpx hnk j1 hcp
 have j2 := j1.dropAt 7 (by simp)
 dsimp only [List.eraseIdx] at j2
 have j3 := j2.front 3 rfl rfl
 dsimp only [List.eraseIdx] at j3
 have j4 := j3.front 3 rfl rfl
 dsimp only [List.eraseIdx] at j4
 have h5 := hback w5 l' (redR (.slice a2 (2 * f + 1) c2) 2 (2 * f + 1) (zan c.vs) :: batR (.slice a1 1 c1) [addR k sl] :: rnR rn vp' vt' l' [blk e16 (rqO (addR k 0)), blk (q + 1) (stdO f), blk q (twO x.nt rn)]) hnk j4
 obtain ⟨r5, hs5, -⟩ := h5.side
 have b16 := hs5.blkAt 5 rfl
 have bq1 := hs5.blkAt 6 rfl
 have bq := hs5.blkAt 7 rfl
 have hd := hcp a1 c1 a2 c2
 have hvl : c.vs.length = 2 * f + 1 := hok.vl
 generalize hdd : (⟨0, 0, (i : Int) + 1, .slice a1 1 c1, .slice a2 (2 * f + 1) c2, [addR k sl], c.vs⟩ : Ct) = d at hd
 have h6 := nd_pfx (d := d) (L := l') (s := adS f id (dsP cps i) i bk out u st false) (l := l') (by
  subst hdd
  show NdIs _ _ _ _ _ _ (redR (.slice a2 (2 * f + 1) c2) 2 c.vs.length (zan c.vs) :: batR (.slice a1 1 c1) [addR k sl] :: rnR rn vp' vt' l' _)
  rw [hvl]
  exact h5) (by subst hdd; simp) (by subst hdd; show c.vs.length ≤ _; omega) fm
 have hst := ps_step h6 hf1 hf2 h0 h1 hm0 hm1 hi hb hn (k := k) (sl := sl) (by
  rw [hd]
  have := hok
  subst hdd
  exact hok) (by subst hdd; rfl) (by subst hdd; rfl) hrs.1.ok (by omega) ho hu0 hu hst0 hst
 refine ⟨a1, c1, a2, c2, rfl, ⟨zaa bq 0 rfl, zaa bq 1 rfl, zaa bq1 0 rfl, zaa b16 0 rfl, zaa b16 1 rfl, zaa b16 2 rfl, zaa b16 3 rfl, zaa b16 4 rfl, zaa b16 5 rfl⟩, ?_⟩
 subst hdd
 refine hst.mono ?_
 rintro e w2 ⟨he, cps', bk', out', L', vp2, vt2, k1, k2, k3, h7⟩
 refine ⟨he, cps', bk', out', L', vp2, vt2, k1, k2, by omega, ?_⟩
 refine h7.onSide (fun r hr => ?_)
 have k5 : Own B w0 w2 (rnR rn vp2 vt2 L' (ctsR _ :: blk e16 (rqO (addR k 0)) :: ([blk (q + 1) (stdO f), blk q (twO x.nt rn)] ++ [r]))) := hr
 have k6 := k5.dropAt 3 (by simp)
 dsimp only [List.eraseIdx] at k6
 exact k6.perm ((List.perm_append_comm (l₁ := [_, _, _]) (l₂ := [_])).append_right _)
end
theorem ad9 {w : World} {q e : Nat} {ob : Obj} {c0 c1 c2 c3 c4 c5 c6 c7 c8 : Value} (h : w.cell? ⟨q, 0, none⟩ = some c0 ∧ w.cell? ⟨q, 1, none⟩ = some c1 ∧ w.cell? ⟨q + 1, 0, none⟩ = some c2 ∧ w.cell? ⟨e, 0, none⟩ = some c3 ∧ w.cell? ⟨e, 1, none⟩ = some c4 ∧ w.cell? ⟨e, 2, none⟩ = some c5 ∧ w.cell? ⟨e, 3, none⟩ = some c6 ∧ w.cell? ⟨e, 4, none⟩ = some c7 ∧ w.cell? ⟨e, 5, none⟩ = some c8) :
  (w.alloc ob).cell? ⟨q, 0, none⟩ = some c0 ∧ (w.alloc ob).cell? ⟨q, 1, none⟩ = some c1 ∧ (w.alloc ob).cell? ⟨q + 1, 0, none⟩ = some c2 ∧ (w.alloc ob).cell? ⟨e, 0, none⟩ = some c3 ∧ (w.alloc ob).cell? ⟨e, 1, none⟩ = some c4 ∧ (w.alloc ob).cell? ⟨e, 2, none⟩ = some c5 ∧ (w.alloc ob).cell? ⟨e, 3, none⟩ = some c6 ∧ (w.alloc ob).cell? ⟨e, 4, none⟩ = some c7 ∧ (w.alloc ob).cell? ⟨e, 5, none⟩ = some c8 :=
 ⟨zaf h.1, zaf h.2.1, zaf h.2.2.1, zaf h.2.2.2.1, zaf h.2.2.2.2.1, zaf h.2.2.2.2.2.1, zaf h.2.2.2.2.2.2.1, zaf h.2.2.2.2.2.2.2.1, zaf h.2.2.2.2.2.2.2.2⟩
theorem ad9d {w : World} {q e : Nat} {ob : Obj} {c0 c1 c2 c3 c4 c5 c6 c7 c8 : Value} (h : w.drew.cell? ⟨q, 0, none⟩ = some c0 ∧ w.drew.cell? ⟨q, 1, none⟩ = some c1 ∧ w.drew.cell? ⟨q + 1, 0, none⟩ = some c2 ∧ w.drew.cell? ⟨e, 0, none⟩ = some c3 ∧ w.drew.cell? ⟨e, 1, none⟩ = some c4 ∧ w.drew.cell? ⟨e, 2, none⟩ = some c5 ∧ w.drew.cell? ⟨e, 3, none⟩ = some c6 ∧ w.drew.cell? ⟨e, 4, none⟩ = some c7 ∧ w.drew.cell? ⟨e, 5, none⟩ = some c8) :
  (w.alloc ob).drew.cell? ⟨q, 0, none⟩ = some c0 ∧ (w.alloc ob).drew.cell? ⟨q, 1, none⟩ = some c1 ∧ (w.alloc ob).drew.cell? ⟨q + 1, 0, none⟩ = some c2 ∧ (w.alloc ob).drew.cell? ⟨e, 0, none⟩ = some c3 ∧ (w.alloc ob).drew.cell? ⟨e, 1, none⟩ = some c4 ∧ (w.alloc ob).drew.cell? ⟨e, 2, none⟩ = some c5 ∧ (w.alloc ob).drew.cell? ⟨e, 3, none⟩ = some c6 ∧ (w.alloc ob).drew.cell? ⟨e, 4, none⟩ = some c7 ∧ (w.alloc ob).drew.cell? ⟨e, 5, none⟩ = some c8 := ad9 (w := w) h
theorem ps_cells {B : Nat} {w0 W : World} {x : Np} {s : Ns} {l L : Nt} {rn e16 q f : Nat} {vp : Value} {vt : Rn} {k : Int} (h : NdIs B w0 W x s l (blk e16 (rqO (addR k 0)) :: rnR rn vp vt L [blk (q + 1) (stdO f), blk q (twO x.nt rn)])) :
  W.cell? ⟨q, 0, none⟩ = some (.pointer (some ⟨x.nt, 0, none⟩)) ∧ W.cell? ⟨q, 1, none⟩ = some (.pointer (some ⟨rn, 0, none⟩)) ∧ W.cell? ⟨q + 1, 0, none⟩ = some (.int .i64 f) ∧ W.cell? ⟨e16, 0, none⟩ = some (.int .i64 0) ∧ W.cell? ⟨e16, 1, none⟩ = some (.int .i64 k) ∧ W.cell? ⟨e16, 2, none⟩ = some (.int .i64 3) ∧ W.cell? ⟨e16, 3, none⟩ = some (.int .i64 1) ∧ W.cell? ⟨e16, 4, none⟩ = some (.int .i64 1) ∧ W.cell? ⟨e16, 5, none⟩ = some (.int .i64 0) := by
 obtain ⟨r, hs, -⟩ := h.side
 have b16 := hs.blkAt 0 rfl
 have bq1 := hs.blkAt 4 rfl
 have bq := hs.blkAt 5 rfl
 exact ⟨zaa bq 0 rfl, zaa bq 1 rfl, zaa bq1 0 rfl, zaa b16 0 rfl, zaa b16 1 rfl, zaa b16 2 rfl, zaa b16 3 rfl, zaa b16 4 rfl, zaa b16 5 rfl⟩
section
variable {B : Nat} {w0 W : World} {x : Np} {l : Nt} {ss : List Res} {f : Nat} {id n u st : Int} {ds : List (Option Cp)} {bk : Lp} {o : List (Int × Bys)} {sp : Bool}
theorem ad_store {y : Lg} (h : NdIs B w0 W x (adS f id ds n bk o u st sp) l (lgL y ++ ss)) (hy : LgOk y) (e : y.lp = bk) : Calls Tryz.prog 56 #[ptrV y.p] W fun e w' => ∃ s, e = .returned (ptrV s) ∧ NdIs B w0 w' x (adS f id ds n bk o u st sp) l (stR s bk.st :: ss) := by
 obtain ⟨r, hs, hk⟩ := h.side
 refine (lstore_any (y := y) (ss := ss ++ [r]) (by simpa [List.append_assoc] using hs) hy).mono ?_
 rintro e' w' ⟨s, rfl, h2⟩
 have h3 : y.st = bk.st := by rw [← e]; rfl
 rw [h3] at h2
 have h4 : Own B w0 w' (stR s bk.st :: (ss ++ [r])) := ((((h2.dropAt 1 (by simp)).dropAt 1 (by simp)).dropAt 1 (by simp)).dropAt 1 (by simp)).dropAt 1 (by simp)
 exact ⟨s, rfl, hk w' (_ :: ss) h4⟩
theorem ad_get {s m : Nat} {last : Int} (h : NdIs B w0 W x (adS f id ds n bk o u st sp) l (stR s bk.st :: ss)) (hb : BkPs m last bk) : Calls Tryz.prog 57 #[ptrV s, .int .i64 1] W fun e w' => (∃ b, e = .returned (.tuple #[.int .i64 m, .bool b])) ∧ W = w' := by
 obtain ⟨r, hs, -⟩ := h.side
 refine (sget_any (ss := ss ++ [r]) hs hb.ok.st 1 (by omega)).mono ?_
 rintro e w' ⟨rfl, rfl⟩
 rw [hb.get]
 exact ⟨⟨_, rfl⟩, rfl⟩
theorem ad_last {y : Lg} {m : Nat} {last : Int} (h : NdIs B w0 W x (adS f id ds n bk o u st sp) l (lgL y ++ ss)) (hy : LgOk y) (e : y.lp = bk) (hb : BkPs m last bk) : Calls Tryz.prog 58 #[ptrV y.p, .int .i64 0] W fun e w' => e = .returned (.int .i64 last) ∧ W = w' := by
 obtain ⟨r, hs, -⟩ := h.side
 have h3 : y.rp = bk.rp := by rw [← e]; rfl
 have h4 := hb.ok.rp
 have h5 : 0 < y.rp.length := by rw [h3]; omega
 refine (llast_any (y := y) (ss := ss ++ [r]) (by simpa [List.append_assoc] using hs) hy 0 h5).mono ?_
 rintro e' w' ⟨rfl, rfl⟩
 refine ⟨?_, rfl⟩
 have h6 := hb.rp
 rw [← h3, List.getD_eq_getElem?_getD, List.getElem?_eq_getElem h5] at h6
 rw [← h6]
 rfl
theorem ad_cmt {cps : Nat → Cp} {m : Nat} (h : NdIs B w0 W x (adS f id (dsP cps m) n bk o u st sp) l ss) (hm : m ≤ 16) : Calls Tryz.prog 55 #[ptrV x.p, .int .i64 0] W fun e w' => ∃ a c, e = .returned (.slice a m c) ∧ NdIs B w0 w' x (adS f id (dsP cps m) n bk o u st sp) l ss := by
 have h1 := ncommitted_n h
 rw [cmt_ad hm] at h1
 exact h1
end
theorem passes_any (a0 a1 : Int) (v2 : Value) (a2 : List Int) {W : World} (h2 : Ints W v2 a2) :
  Calls Tryz.prog 13 #[.int .i64 a0, .int .i64 a1, v2] W fun e w' => e = .returned (.bool true) ∧ Upd [] W w' := by
 obtain ⟨o2, k2, hv2, hk2, hmx2, -⟩ := id h2
 subst hv2
 have HI2 := Lib.hid h2
 have hm0 := zhh a0 4 (by omega)
 obtain ⟨f, hf⟩ : ∃ f : Nat, 1 + a0 % 4 = f := ⟨(1 + a0 % 4).toNat, by omega⟩
 have hf1 : 1 ≤ f := by omega
 have hf2 : f ≤ 4 := by omega
 have hf1I : 1 ≤ (f : Int) := by omega
 have hf2I : (f : Int) ≤ 4 := by omega
 have HST := Lib.hid (zr6 a0 a1 f hf1 hf2 hf (Own.start (Below.refl W.heap.size W) (Nat.le_refl _)))
 have hm1 := zhh a1 (3 * (f : Int) + 1) (by omega)
 have HW1 := Lib.hid (fun w => zdn a1 (3 * (f : Int) + 1) w (by omega) (by omega))
 generalize a1 % (3 * (f : Int) + 1) = id at *
 have HNo := Lib.hid (fun w => zf8 (f : Int) w hf1I hf2I)
 clear hf hm0 h2
 go_enter Tryz.func13, Tryz.ntmps13
 go_wp2_with fail
 refine HST.out.mono ?_
 rintro e w1 ⟨x, rn, rfl, h1⟩
 have H2 := Lib.hid ((h1.box (twO x.nt rn)).box (stdO f))
 clear h1 HST
 go_upto_region 4 with fail
 generalize World.alloc (World.alloc w1 _) _ = w2 at *
 simp only [za4] at H2
 generalize w1.heap.size = q at *
 have H3 : Hid (NdIs W.heap.size W w2 x (newS (stdC f) id) [] (rnR rn (.slice none 0 0) ⟨.slice none 0 0, []⟩ [] [blk (q + 1) (stdO f), blk q (twO x.nt rn)])) := Lib.hid (H2.out.perm ((List.perm_append_comm (l₁ := [_, _]) (l₂ := [_, _, _])).append_right []))
 clear H2
 obtain ⟨fm, hfm⟩ : ∃ fm : Int, (id + 1) % (3 * (f : Int) + 1) = fm := ⟨_, rfl⟩
 have hfm2 := zhh (id + 1) (3 * (f : Int) + 1) (by omega)
 rw [hfm] at hfm2
 have hi1 : id + 1 ≤ 9223372036854775807 := by omega
 have hi9 : 0 ≤ id := hm1.1
 have hfm0 : 0 ≤ fm := hfm2.1
 have hfm9 : fm ≤ 100 := by omega
 have hdv : 3 * (f : Int) + 1 ≠ 0 := by omega
 have htm : (IntKind.i64.wrap (id + 1)).tmod (3 * (f : Int) + 1) = fm := by rw [IntWalk.i64_in (id + 1) ⟨by omega, by omega⟩, ← hfm]; exact Int.tmod_eq_emod_of_nonneg (by omega)
 obtain ⟨r2, hs2, -⟩ := H3.out.side
 have d0 : w2.drew.cell? ⟨q + 1, 0, none⟩ = some (.int .i64 f) := zaa (hs2.blkAt 3 rfl) 0 rfl
 clear hs2
 go_cut [11] (fun t wx => t = .int .i64 fm ∧ Hid (NdIs W.heap.size W wx x (newS (stdC f) id) [] (rnR rn (.slice none 0 0) ⟨.slice none 0 0, []⟩ [] [blk (q + 1) (stdO f), blk q (twO x.nt rn)])))
 case first =>
  go_region_held3 (fun w' => w'.cell? ⟨q + 1, 0, none⟩ = some (.int .i64 f))
   (with_reducible exact d0)
   (first
    | (go_at_call 17; refine (HNo.out _).mono ?_; rintro e w' ⟨rfl, rfl⟩)
    | (go_at_call 16; refine (HW1.out _).mono ?_; rintro e w' ⟨rfl, rfl⟩))
  go_wp2_with fail
  go_meet
  exact ⟨by first | rfl | rw [htm], Lib.hid H3.out.drew⟩
 case rest =>
  obtain ⟨rfl, H4⟩ := hcut
  clear d0 H3 htm hdv
  have H5 : Hid (NdIs W.heap.size W wc x (adS f id (dsP (fun _ => noCp) 0) (0 : Nat) (newS (stdC f) id).bk [] (0 : Nat) 0 false) [] (rnR rn (.slice none 0 0) ⟨.slice none 0 0, []⟩ [] [blk (q + 1) (stdO f), blk q (twO x.nt rn)])) := Lib.hid (by
   rw [dsP_nil]
   exact (ad_new (f := f) (id := id)).symm ▸ H4.out)
  have HBN := Lib.hid (bkPs_new f id)
  clear H4
  go_upto_block 0 with fail
  go_cut [12, 13] (fun lv nv wx => ∃ (i n : Nat) (last : Int) (cps : Nat → Cp) (bk : Lp) (out : List (Int × Bys)) (L : Nt) (vp : Value) (vt : Rn), lv = .int .i64 last ∧ nv = .int .i64 n ∧ i = min a2.length 8 ∧ n ≤ i ∧ 0 ≤ last ∧ last ≤ 100 ∧ Hid (BkPs n last bk) ∧ Hid (NdIs W.heap.size W wx x (adS f id (dsP cps i) i bk out (i : Nat) 0 false) L (rnR rn vp vt L [blk (q + 1) (stdO f), blk q (twO x.nt rn)])))
  case first =>
   go_wp2_with fail
   go_loopw [12, 13, 14] (fun lv nv iv wr => ∃ (i n : Nat) (last : Int) (cps : Nat → Cp) (bk : Lp) (out : List (Int × Bys)) (L : Nt) (vp : Value) (vt : Rn), lv = .int .i64 last ∧ nv = .int .i64 n ∧ iv = .int .i64 i ∧ i ≤ 8 ∧ i ≤ a2.length ∧ n ≤ i ∧ 0 ≤ last ∧ last ≤ 100 ∧ L.length ≤ 50 * i ∧ out.length ≤ i ∧ Hid (BkPs n last bk) ∧ Hid (NdIs W.heap.size W wr x (adS f id (dsP cps i) i bk out (i : Nat) 0 false) L (rnR rn vp vt L [blk (q + 1) (stdO f), blk q (twO x.nt rn)]))) (fun _ _ iv _ => 8 - (intOf iv).toNat)
   case atStart => exact ⟨0, 0, 0, _, _, [], [], _, _, rfl, rfl, rfl, by omega, by omega, by omega, by omega, by omega, by simp, by simp, HBN, H5⟩
   case round =>
    clear H5 HBN
    obtain ⟨i, n, last, cps, bk, out, L, vp, vt, rfl, rfl, rfl, hi8, hil, hni, hl0, hl1, hLl, hol, HB, H⟩ := hrel
    have hi0 : (0 : Int) ≤ (i : Int) := by omega
    have hn0 : (0 : Int) ≤ (n : Int) := by omega
    have hn9 : (n : Int) ≤ 8 := by omega
    by_cases hlt : i < a2.length
    ·have hltI : (i : Int) < (a2.length : Int) := by omega
     by_cases h8 : i < 8
     ·have h8I : (i : Int) < 8 := by omega
      obtain ⟨-, b2, u2, hb2, -, y2⟩ := (HI2.out.upd (zvw H.out) (by simp)).at i hlt
      subst hb2
      have hk2I : (a2.length : Int) ≤ (k2 : Int) := by omega
      have HW2 := Lib.hid (fun w => zdn a2[i] 5 w (by omega) (by omega))
      have hkm := zhh a2[i] 5 (by omega)
      generalize a2[i] % 5 = z at *
      generalize a2[i] = z0 at *
      have hz0 : 0 ≤ z := hkm.1
      have hz5 : z ≤ 100 := by omega
      go_wp2_with fail
      refine (HW2.out _).mono ?_
      rintro e w' ⟨rfl, rfl⟩
      clear y2 HW2
      go_upto_region 11 with fail
      have hk1 : 1 ≤ 1 + z := by omega
      have hk2 : 1 + z ≤ 100 := by omega
      have H1 : Hid (NdIs W.heap.size W (wr.alloc (rqO (addR (1 + z) 0))) x (adS f id (dsP cps i) i bk out (i : Nat) 0 false) L (blk wr.heap.size (rqO (addR (1 + z) 0)) :: rnR rn vp vt L [blk (q + 1) (stdO f), blk q (twO x.nt rn)])) := Lib.hid (H.out.box _)
      clear hkm hz0 hz5 H
      generalize hw4 : wr.alloc (rqO (addR (1 + z) 0)) = w4 at H1
      have hw4' : wr.alloc (.cells #[.int .i64 0, .int .i64 (1 + z), .int .i64 3, .int .i64 1, .int .i64 1, .int .i64 0] 38) = w4 := hw4
      rw [hw4']
      clear hw4 hw4'
      generalize wr.heap.size = e16 at *
      generalize 1 + z = k at *
      have d0 : w4.drew.cell? ⟨q, 0, none⟩ = some (.pointer (some ⟨x.nt, 0, none⟩)) ∧ w4.drew.cell? ⟨q, 1, none⟩ = some (.pointer (some ⟨rn, 0, none⟩)) ∧ w4.drew.cell? ⟨q + 1, 0, none⟩ = some (.int .i64 f) ∧ w4.drew.cell? ⟨e16, 0, none⟩ = some (.int .i64 0) ∧ w4.drew.cell? ⟨e16, 1, none⟩ = some (.int .i64 k) ∧ w4.drew.cell? ⟨e16, 2, none⟩ = some (.int .i64 3) ∧ w4.drew.cell? ⟨e16, 3, none⟩ = some (.int .i64 1) ∧ w4.drew.cell? ⟨e16, 4, none⟩ = some (.int .i64 1) ∧ w4.drew.cell? ⟨e16, 5, none⟩ = some (.int .i64 0) := ps_cells H1.out.drew
      have HC := Lib.hid (ps_cert (W := w4.drew) (W' := (w4.alloc (.cells #[.int .i64 0, .int .i64 k, .int .i64 3, .int .i64 1, .int .i64 1, .int .i64 0] 38 (0, 0))).drew) (p := w4.heap.size) (fm := fm) (k := k) H1.out.drew rfl rfl hf1 hf2 hm1.1 (by omega) hfm0 (by omega) (by omega) HB.out hni hk1 (by omega) (by omega) (by omega) (by omega) (by omega) (by omega) (by omega))
      rw [show decide (16 ≤ i + 1) = false from decide_eq_false (by omega)] at HC
      have HLL : Hid (L.length + 40 ≤ 50 * (i + 1)) := Lib.hid (by omega)
      have HOL : Hid (out.length + 1 ≤ i + 1) := Lib.hid (by omega)
      clear H1 HB hLl hol
      have hiB : (i : Int) + 1 ≤ 9223372036854775807 := by omega
      have hnB : (n : Int) + 1 ≤ 9223372036854775807 := by omega
      have hwi : IntKind.i64.wrap ((i : Int) + 1) = (i : Int) + 1 := IntWalk.i64_in _ ⟨by omega, by omega⟩
      go_cut [15] (fun t wx => t = .int .i64 k ∧ ∃ (cps' : Nat → Cp) (bk' : Lp) (out' : List (Int × Bys)) (L' : Nt) (vp' : Value) (vt' : Rn), Hid (out'.length ≤ out.length + 1) ∧ Hid (BkPs (if last < k then n + 1 else n) (if last < k then k else last) bk') ∧ Hid (L'.length ≤ L.length + 40) ∧ Hid (NdIs W.heap.size W wx x (adS f id (dsP cps' (i + 1)) ((i + 1 : Nat) : Int) bk' out' ((i + 1 : Nat) : Int) 0 false) L' (rnR rn vp' vt' L' [blk (q + 1) (stdO f), blk q (twO x.nt rn)])))
      case first =>
       go_region_held3 (fun w' => w'.cell? ⟨q, 0, none⟩ = some (.pointer (some ⟨x.nt, 0, none⟩)) ∧ w'.cell? ⟨q, 1, none⟩ = some (.pointer (some ⟨rn, 0, none⟩)) ∧ w'.cell? ⟨q + 1, 0, none⟩ = some (.int .i64 f) ∧ w'.cell? ⟨e16, 0, none⟩ = some (.int .i64 0) ∧ w'.cell? ⟨e16, 1, none⟩ = some (.int .i64 k) ∧ w'.cell? ⟨e16, 2, none⟩ = some (.int .i64 3) ∧ w'.cell? ⟨e16, 3, none⟩ = some (.int .i64 1) ∧ w'.cell? ⟨e16, 4, none⟩ = some (.int .i64 1) ∧ w'.cell? ⟨e16, 5, none⟩ = some (.int .i64 0))
        (first | (with_reducible exact d0) | (with_reducible exact ad9d d0) | (with_reducible exact e0) | (with_reducible exact ad9 e0) | (with_reducible exact e1))
        (first
         | (go_at_call 20; refine HC.out.mono ?_; rintro e w5 ⟨a1', c1', a2', c2', rfl, e0, hgv⟩; have HGV := Lib.hid hgv; clear hgv)
         | (go_at_call 23; refine HGV.out.mono ?_; rintro e w6 ⟨rfl, cps', bk', out', L', vp', vt', g1, g2, g3, h6⟩; have e1 := ps_cells h6; have H6 := Lib.hid h6.drop; have HG1 := Lib.hid g1; have HG2 := Lib.hid g2; have HG3 := Lib.hid g3; clear h6 g1 g2 g3))
       all_goals go_wp2_with fail
       all_goals go_meet
       all_goals exact ⟨rfl, cps', bk', out', L', vp', vt', HG1, HG2, HG3, H6⟩
      case rest =>
       obtain ⟨rfl, cps', bk', out', L', vp', vt', HG1, HG2, HG3, H6⟩ := hcut
       clear d0 HC hwi
       have HIL : Hid (i < a2.length) := Lib.hid hlt
       by_cases hlk : last < k
       ·rw [if_pos hlk, if_pos hlk] at HG2
        go_wp2_with fail
        go_roundw
        case rel => exact ⟨i + 1, n + 1, k, cps', bk', out', L', vp', vt', rfl, by go_num, by go_num, by omega, by have := HIL.out; omega, by omega, by omega, by omega, by have := HG3.out; have := HLL.out; omega, by have := HG1.out; have := HOL.out; omega, HG2, H6⟩
        case measure => simp [intOf]; omega
       ·rw [if_neg hlk, if_neg hlk] at HG2
        have hlkI : decide (last < k) = false := decide_eq_false hlk
        go_wp2_with fail
        go_roundw
        case rel => exact ⟨i + 1, n, last, cps', bk', out', L', vp', vt', rfl, rfl, by go_num, by omega, by have := HIL.out; omega, by omega, by omega, by omega, by have := HG3.out; have := HLL.out; omega, by have := HG1.out; have := HOL.out; omega, HG2, H6⟩
        case measure => simp [intOf]; omega
     ·have h8I : decide ((i : Int) < 8) = false := decide_eq_false (by omega)
      go_wp2_with fail
      go_meet
      exact ⟨i, n, last, cps, bk, out, L, vp, vt, rfl, rfl, by omega, hni, hl0, hl1, HB, H⟩
    ·have hltI : decide ((i : Int) < (a2.length : Int)) = false := decide_eq_false (by omega)
     go_wp2_with fail
     go_meet
     exact ⟨i, n, last, cps, bk, out, L, vp, vt, rfl, rfl, by omega, hni, hl0, hl1, HB, H⟩
  case rest =>
   clear H5 HBN
   obtain ⟨i, n, last, cps, bk, out, L, vp, vt, rfl, rfl, hi, hni, hl0, hl1, HB, H⟩ := hcut
   have hi0 : (0 : Int) ≤ (i : Int) := by omega
   have hn0 : (0 : Int) ≤ (n : Int) := by omega
   have hi16 : i ≤ 16 := by omega
   have HI8 : Hid (i = min a2.length 8) := Lib.hid hi
   have HLG := Lib.hid (zlx H.out)
   clear H hi
   go_wp2_with fail
   refine HLG.out.mono ?_
   rintro e w3 ⟨y, rfl, hyk, hlp, h3⟩
   have HS := Lib.hid (ad_store h3 hyk hlp)
   clear h3 HLG hyk hlp
   go_wp2_with fail
   refine HS.out.mono ?_
   rintro e w4 ⟨sp, rfl, h4⟩
   have HG := Lib.hid (ad_get h4 HB.out)
   have H4 := Lib.hid h4.drop
   clear h4 HS
   go_wp2_with fail
   refine HG.out.mono ?_
   rintro e w5 ⟨⟨b, rfl⟩, rfl⟩
   have HLG := Lib.hid (zlx H4.out)
   clear HG H4
   go_wp2_with fail
   refine HLG.out.mono ?_
   rintro e w6 ⟨y, rfl, hyk, hlp, h6⟩
   have HLE := Lib.hid (ad_len h6 hlp HB.out.es)
   have H6 := Lib.hid h6.dropL
   clear HLG h6 hlp hyk
   go_wp2_with fail
   refine HLE.out.mono ?_
   rintro e w' ⟨rfl, rfl⟩
   have HLG := Lib.hid (zlx H6.out)
   clear HLE H6
   go_wp2_with fail
   refine HLG.out.mono ?_
   rintro e w7 ⟨y, rfl, hyk, hlp, h7⟩
   have HLA := Lib.hid (ad_last h7 hyk hlp HB.out)
   have H7 := Lib.hid h7.dropL
   clear HLG h7 hlp hyk
   go_wp2_with fail
   refine HLA.out.mono ?_
   rintro e w' ⟨rfl, rfl⟩
   have HCM := Lib.hid (ad_cmt H7.out (by omega))
   clear HLA H7
   go_wp2_with fail
   refine HCM.out.mono ?_
   rintro e w8 ⟨ca, cc, rfl, h8⟩
   have HU := Lib.hid (zvw h8)
   clear h8 HCM
   by_cases h8 : a2.length ≤ 8
   ·obtain rfl : i = a2.length := by have := HI8.out; omega
    have h8I : (a2.length : Int) ≤ 8 := by omega
    clear h8
    go_wp2_with fail
    refine (zmx _).mono ?_
    rintro e w9 ⟨rfl, hu⟩
    have HU2 := Lib.hid (HU.out.trans hu)
    clear hu HU
    go_wp2_with fail
    go_ret
    exact ⟨rfl, HU2.out⟩
   ·obtain rfl : i = 8 := by have := HI8.out; omega
    have h8I : decide ((a2.length : Int) ≤ 8) = false := decide_eq_false (by omega)
    have h8P : ¬ ((a2.length : Int) ≤ 8) := by omega
    clear h8
    go_wp2_with fail
    refine (zmx _).mono ?_
    rintro e w9 ⟨rfl, hu⟩
    have HU2 := Lib.hid (HU.out.trans hu)
    clear hu HU
    go_wp2_with fail
    go_ret
    exact ⟨rfl, HU2.out⟩
end Go.Proofs.YtannckelmojkoaaGreat
