/- Parts of the proof, one behind the other. -/
import Derived.Test.YtannckelmojkoaaGreatAdoB28
set_option maxHeartbeats 32000000
set_option maxRecDepth 100000
namespace Go.Proofs.YtannckelmojkoaaGreat
open Go.RowKit Go.Heap
def pfQ (fm : Int) (c : Cp) : Ms := ⟨9, fm, 0, 0, 0, 0, [], [], [c], []⟩
def pfB (fm : Int) (c : Cp) : Bys := msB (pfQ fm c)
abbrev pfX (fm : Int) (c : Ct) (v : Value) : Mm := ⟨9, fm, 0, 0, 0, 0, .slice none 0 0, [], .slice none 0 0, [], v, [c], .slice none 0 0, []⟩
theorem zu2 {c : Cp} {r : Rq} (h1 : c.rs = [r]) (h2 : c.vs.length ≤ 9) : (certB c).length ≤ 200 := by
 have a := zbf c.view
 have b := zbf c.inst
 have d := zbf c.seq
 have e := zud r
 have g := zbf c.vs.length
 have i := zxs c.vs
 have k : (listB vtB c.vs).length = (numB c.vs.length).length + (c.vs.flatMap vtB).length := by unfold listB; rw [List.length_append]
 unfold certB
 simp only [List.length_append]
 rw [h1, k]
 omega
theorem zvj (fm : Int) {c : Cp} {r : Rq} (h1 : c.rs = [r]) (h2 : c.vs.length ≤ 9) : (pfB fm c).length ≤ 65530 := by
 have a := zbf fm
 have b := zu2 h1 h2
 have d : (numB 9).length = 1 := by decide
 have e : (numB 0).length = 1 := by decide
 have g : (sgnB 0).length = 1 := by decide
 have q0 : (listB reqB ([] : List Rq)).length = 1 := by decide
 have q1 : (listB vtB ([] : Vs)).length = 1 := by decide
 have q2 : (listB partB ([] : List Pa)).length = 1 := by decide
 have q3 : (listB certB [c]).length = 1 + (certB c).length := by
  unfold listB
  simp only [List.length_append, List.flatMap_cons, List.flatMap_nil, List.append_nil, List.length_cons, List.length_nil]
  rw [show (numB ((0 + 1 : Nat) : Int)).length = 1 from by decide]
 unfold pfB pfQ msB
 simp only [List.length_append]
 rw [d, e, g, q0, q1, q2, q3]
 omega
theorem pf_body {fm : Int} {c : Cp} {r : Rq} (h0 : 0 ≤ fm) (h00 : fm ≤ 100) (h1 : c.rs = [r]) (h2 : c.vs.length ≤ 9) (h3 : certW c = true) : bodyP (pfQ fm c) = some (pfB fm c) := by
 have h := zvj fm h1 h2
 have a := zcd h0 (by omega)
 have c9 : numOk 9 = true := by decide
 have d : numOk 0 = true := by decide
 have e : sgnOk 0 = true := by decide
 have w : msW (pfQ fm c) = true := by
  unfold msW pfQ
  simp only [a, c9, d, e, listW, h3, List.all_cons, List.all_nil, List.length_cons, List.length_nil]
  rfl
 unfold pfB at h ⊢
 unfold bodyP
 rw [w]
 simp only [Bool.true_and]
 rw [if_pos (by simp; omega)]
theorem pf_form {f : Nat} {cl fm : Int} {c : Cp} (h0 : 0 ≤ fm) (h1 : fm ≤ 3 * f) (h2 : zeq f cl c = true) : formP f cl (pfQ fm c) = true := by
 have e : zg0 [c] 0 = c := rfl
 unfold formP pfQ formK zbh inW zeros bareP
 simp [h0, h1, e, h2]
theorem proof_v (c : Cp) (p : NSt) : (zbm c p).1 = 0 ∨ (zbm c p).1 = 1 ∨ (zbm c p).1 = 2 ∨ (zbm c p).1 = 3 := by
 unfold zbm
 split
 ·simp
 ·split <;> simp
theorem cts_of {l : List Ct} {c : Cp} (h : l.map Ct.cp = [c]) : ∃ c', l = [c'] ∧ c'.cp = c := by
 match l, h with
 | [c'], h => exact ⟨c', rfl, by simpa using h⟩
section
variable {B : Nat} {w0 w W W' : World} {ss rs : List Res} {x : Np} {s s' : Ns} {l l' : Nt} {rn : Nat} {vp : Value} {vt : Rn}
theorem zu0 {f : Nat} {fm : Int} {c : Ct} {v : Value} {r : Rq} (h : NdIs B w0 W x s l (mmR (pfX fm c v) (rnR rn vp vt l ss))) (hf : s.c.f = f) (hf1 : 1 ≤ f) (hf2 : f ≤ 4) (h0 : 0 ≤ fm) (h1 : fm ≤ 3 * f) (hr : c.rs = [r]) (hv : c.vs.length = 2 * f + 1) (hw : certW c.cp = true) (hc : zeq f s.c.cl c.cp = true)
  (ht : s.tab = []) (hn : l.length ≤ 700000000) (ho : s.out.length ≤ 800000000) (hst : s.stop = false) (hgd : s.gd = []) (hu : (zbm c.cp (s, sealL l fm (pfB fm c.cp))).2.1.used ≤ 1000000000000) (hbd : (zbm c.cp (s, sealL l fm (pfB fm c.cp))).2.1.bad ≤ 1000000000000) (hsl : (zbm c.cp (s, sealL l fm (pfB fm c.cp))).2.1.stale ≤ 1000000000000) (hfu : (zbm c.cp (s, sealL l fm (pfB fm c.cp))).2.1.full ≤ 1000000000000) (hg2 : (zbm c.cp (s, sealL l fm (pfB fm c.cp))).2.1.gd.length ≤ 1000) :
  Calls Tryz.prog 23 #[ptrV x.p, .agg (twA x.nt rn), .agg (mmA (pfX fm c v))] W fun e w' => e = .returned (.tuple #[]) ∧ ∃ vp' vt', NdIs B w0 w' x (zg1 fm (zbm c.cp (s, sealL l fm (pfB fm c.cp)))).1 (zg1 fm (zbm c.cp (s, sealL l fm (pfB fm c.cp)))).2 (rnR rn vp' vt' (sealL l fm (pfB fm c.cp)) ss) := by
 have hrc : c.cp.rs = [r] := hr
 have hvc : c.cp.vs.length ≤ 9 := by show c.vs.length ≤ 9; omega
 have hbd2 := pf_body h0 (by omega) hrc hvc hw
 have hsl2 := zdh l fm (pfB fm c.cp)
 have hgb := zri (l := l) hbd2 (zvj fm hrc hvc) (by omega)
 have hbm : bodyP (pfX fm c v).ms = some (pfB fm c.cp) := hbd2
 have hmo : MmOk (pfX fm c v) := ⟨by simp, by simp, by simp, by simp⟩
 have key := give_nd (P := zg1 fm (zbm c.cp (s, sealL l fm (pfB fm c.cp)))) h hmo (by omega) (by show -9223372036854775808 ≤ fm; omega) (by show fm ≤ 9223372036854775807; omega) hbm (fun w1 ev vp' vt' h2 => by
  replace h2 : NdIs B w0 w1 x s (sealL l fm (pfB fm c.cp)) (bysR ev (givE l fm (pfB fm c.cp)) :: rnR rn vp' vt' (sealL l fm (pfB fm c.cp)) (mmR (pfX fm c v) ss)) := h2
  show Calls Tryz.prog 34 #[ptrV x.p, .int .i64 fm, ev] w1 fun e w' => e = .returned (.tuple #[]) ∧ NdIs B w0 w' x (zg1 fm (zbm c.cp (s, sealL l fm (pfB fm c.cp)))).1 (zg1 fm (zbm c.cp (s, sealL l fm (pfB fm c.cp)))).2 (bysR ev (givE l fm (pfB fm c.cp)) :: rnR rn vp' vt' (sealL l fm (pfB fm c.cp)) (mmR (pfX fm c v) ss))
  have hop : openP (sealL l fm (pfB fm c.cp)) s.c.f s.c.cl (givE l fm (pfB fm c.cp)) = some (pfQ fm c.cp, sealN l fm (pfB fm c.cp)) := by
   have e := zlv (l := l) (f := s.c.f) (cl := s.c.cl) hbd2 (zvj fm hrc hvc) (by omega)
   rw [pf_form h0 (by rw [hf]; exact h1) (by rw [hf]; exact hc), if_pos rfl] at e
   exact e
  obtain ⟨q, hs, -⟩ := h2.side
  have hrd : RdOk w0 B ev (givE l fm (pfB fm c.cp)) _ := rd_bys hs (by simp) (fun q hq => List.mem_append_left _ hq) hgb.1 hgb.2
  have hpr := proof_v c.cp (s, sealL l fm (pfB fm c.cp))
  obtain ⟨pv, hpv⟩ : ∃ pv, pv = zbm c.cp (s, sealL l fm (pfB fm c.cp)) := ⟨_, rfl⟩
  rw [← hpv] at hpr hu hbd hsl hfu hg2 ⊢
  obtain ⟨v9, p9⟩ := pv
  exact zqk (m := pfQ fm c.cp) (sl := sealN l fm (pfB fm c.cp)) (v := v9) (p := p9) h2 hrd hst (by rw [hgd]; simp) (by rw [hgd]; rfl) hop (fun mm hmm => by
   obtain ⟨c', e1, e2⟩ := cts_of (show mm.cts.map Ct.cp = [c.cp] from congrArg Ms.cs hmm)
   exact zs3 (c := c') (congrArg Ms.kind hmm) e1 (by rw [e2]; exact hpv) ht (by omega) ho) hpr hg2 hu hbd hsl hfu)
 exact key.mono (fun e w' ⟨he, vp', vt', h6⟩ => ⟨he, vp', vt', zpx (h6.perm ((List.perm_append_comm (l₁ := [_, _, _]) (l₂ := [_, _, _, _, _, _])).append_right ss))⟩)
end
def posP (f : Nat) : Option Cp → Pl
 | none => zcj f
 | some c => { zcj f with done := true, dw := c }
def insD (f : Nat) (ds : List (Option Cp)) : In := { newI f 0 4 with l := ds.map (posP f) }
def adS (f : Nat) (id : Int) (ds : List (Option Cp)) (n : Int) (bk : Lp) (out : List (Int × Bys)) (u st : Int) (sp : Bool) : Ns :=
 { newS (stdC f) id with ins := (newS (stdC f) id).ins.set 0 (insD f ds), run := n, bk := bk, out := out, used := u, stale := st, stop := sp }
section
variable {f : Nat} {id n u st : Int} {ds : List (Option Cp)} {bk : Lp} {out : List (Int × Bys)} {sp : Bool} {l : Nt}
theorem ad_ins : (newS (stdC f) id).ins.length = f + 1 := by unfold newS stdC; simp
theorem ad_at : insAt (adS f id ds n bk out u st sp) 0 = insD f ds := by
 have h : ((newS (stdC f) id).ins.set 0 (insD f ds)).length = f + 1 := by rw [List.length_set, ad_ins]
 unfold insAt adS
 simp only
 rw [List.getD_eq_getElem?_getD, List.getElem?_eq_getElem (by omega), List.getElem_set_self]
 rfl
theorem ad_set (ds' : List (Option Cp)) : zff (adS f id ds n bk out u st sp) 0 (insD f ds') = adS f id ds' n bk out u st sp := by
 unfold zff adS
 simp only
 rw [List.set_set]
theorem ad_new : adS f id (List.replicate 16 none) 0 (newS (stdC f) id).bk [] 0 0 false = newS (stdC f) id := by
 have h : insD f (List.replicate 16 none) = newI f 0 4 := by unfold insD newI; simp [posP]
 have h2 : (newS (stdC f) id).ins[0]? = some (newI f 0 4) := by
  unfold newS stdC
  simp only
  rw [List.getElem?_map, List.getElem?_range (by omega)]
  rfl
 unfold adS
 rw [h]
 have e : (newS (stdC f) id).ins.set 0 (newI f 0 4) = (newS (stdC f) id).ins := by
  obtain ⟨h3, h4⟩ := List.getElem?_eq_some_iff.1 h2
  conv => lhs; rw [← h4]
  exact set_self _ _ h3
 rw [e]
 rfl
theorem ztr (k : Nat) (hk : k < 16) (hl : ds.length = 16) {seq : Int} (hs : seq = k + 1) : plAt (insD f ds) seq = (ds[k]?).map (posP f) := by
 unfold plAt
 rw [zw6 (by omega) (by omega), show seq.toNat - 1 = k by omega]
 show (ds.map (posP f))[k]? = _
 rw [List.getElem?_map]
theorem zd5 {c : Cp} (k : Nat) (hk : k < 16) (hl : ds.length = 16) (hs : c.seq = k + 1) (hi : c.inst = 0) : zc5 (insD f ds) c = decide (ds[k]? = some none) := by
 unfold zc5
 rw [ztr k hk hl hs, List.getElem?_eq_getElem (by omega)]
 simp only [Option.map_some, Option.some.injEq]
 cases h : ds[k]'(by omega) with
 | none => simp [posP, zcj, hi, insD, newI]
 | some d => simp [posP]
theorem zp9 {c : Cp} (k : Nat) (hk : k < 16) (hl : ds.length = 16) (hs : c.seq = k + 1) (hi : c.inst = 0) (hn : ds[k]? = some none) : zdk (insD f ds) c = insD f (ds.set k (some c)) := by
 have hb : zc5 (insD f ds) c = true := by rw [zd5 k hk hl hs hi]; simpa using hn
 unfold zdk
 rw [zw6 (by omega) (by omega), hb, show c.seq.toNat - 1 = k by omega]
 simp only [if_true]
 unfold In.upd insD
 simp only
 congr 1
 refine List.ext_getElem (by simp) (fun j h1 h2 => ?_)
 have hj : j < ds.length := by simpa using h2
 rw [List.getElem_modify]
 simp only [List.getElem_map, List.getElem_set]
 obtain ⟨h3, h4⟩ := List.getElem?_eq_some_iff.1 hn
 by_cases e : k = j
 ·subst e
  rw [if_pos rfl, if_pos rfl, h4]
  rfl
 ·rw [if_neg e, if_neg e]
theorem zl7 : doneI (insD f ds) = (ds.takeWhile Option.isSome).length := by
 unfold doneI insD
 simp only
 rw [List.takeWhile_map, List.length_map]
 congr 1
 congr 1
 funext o
 cases o <;> rfl
theorem zhz (k : Nat) (hk : k < 16) (hl : ds.length = 16) {seq : Int} (hs : seq = k + 1) : zau (insD f ds) seq = (ds[k]?).join := by
 unfold zau
 rw [ztr k hk hl hs, List.getElem?_eq_getElem (by omega)]
 simp only [Option.map_some]
 cases h : ds[k]'(by omega) with
 | none => simp [posP, zcj]
 | some d => simp [posP]
end
def repB (id c t r : Int) : Bys := msB (repM id c t r)
theorem open_px {l L : Nt} {f : Nat} {cl : Int} {bs : Bys} {m : Ms} {sl : Int} (h : openP l f cl bs = some (m, sl)) (hp : Px l L) : openP L f cl bs = some (m, sl) := by
 unfold openP at h ⊢
 cases h1 : takeN bs 0 with
 | none => rw [h1] at h; simp at h
 | some q =>
  obtain ⟨v, a⟩ := q
  rw [h1] at h
  simp only at h ⊢
  cases h2 : zd6 (bs.drop a) with
  | none => rw [h2] at h; simp at h
  | some m' =>
   rw [h2] at h
   simp only at h ⊢
   split at h
   ·rename_i hc
    simp only [Bool.and_eq_true, decide_eq_true_eq] at hc
    rw [if_pos]
    ·exact h
    ·simp only [Bool.and_eq_true, decide_eq_true_eq]
     exact ⟨hc.1, hp.mem hc.2.1, by rw [hp.find hc.2.1]; exact hc.2.2⟩
   ·simp at h
theorem zl1 (id c t r : Int) : (repB id c t r).length ≤ 65530 := by
 have a := zbf id
 have b := zbf c
 have d := zbf t
 have e := zl0 r
 have c10 : (numB 10).length = 1 := by decide
 have c0 : (numB 0).length = 1 := by decide
 have q0 : (listB reqB ([] : List Rq)).length = 1 := by decide
 have q1 : (listB vtB ([] : Vs)).length = 1 := by decide
 have q2 : (listB certB ([] : List Cp)).length = 1 := by decide
 have q3 : (listB partB ([] : List Pa)).length = 1 := by decide
 unfold repB repM msB
 simp only [List.length_append]
 rw [c10, c0, q0, q1, q2, q3]
 omega
theorem zu1 {id c t r : Int} (h0 : 0 ≤ id) (h1 : id ≤ 100) (h2 : 0 ≤ c) (h3 : c ≤ 100) (h4 : 0 ≤ t) (h5 : t ≤ 1048576) (h6 : -549755813887 ≤ r) (h7 : r ≤ 549755813887) : bodyP (repM id c t r) = some (repB id c t r) := by
 have h := zl1 id c t r
 have a := zcd h0 (by omega)
 have b := zcd h2 (by omega)
 have d := zcd h4 (by omega)
 have e : sgnOk r = true := by unfold sgnOk; simp; omega
 have c10 : numOk 10 = true := by decide
 have c0 : numOk 0 = true := by decide
 have q0 : listW reqW ([] : List Rq) = true := by decide
 have q1 : listW vtW ([] : Vs) = true := by decide
 have q2 : listW certW ([] : List Cp) = true := by decide
 have q3 : listW partW ([] : List Pa) = true := by decide
 have w : msW (repM id c t r) = true := by
  unfold msW repM
  simp only [a, b, d, e, c10, c0, q0, q1, q2, q3]
  rfl
 unfold repB at h ⊢
 unfold bodyP
 rw [w]
 simp only [Bool.true_and]
 rw [if_pos (by simp; omega)]
theorem zv3 {f : Nat} {cl id c t r : Int} (h0 : 0 ≤ id) (h1 : id ≤ 3 * f) (h2 : 0 ≤ c) (h3 : c ≤ cl - 1) (h4 : 1 ≤ t) (h5 : t ≤ 1048576) (h6 : -549755813887 ≤ r) (h7 : r ≤ 549755813887) : formP f cl (repM id c t r) = true := by
 unfold formP repM formK zbh inW bareP
 simp [h0, h1, h2, h3, h4, h5, h6, h7]
theorem zuz {s : Ns} {l : Nt} {c t r : Int} (hn : l.length ≤ 1000000000) (hf : s.c.f ≤ 4) (h0 : 0 ≤ s.id) (h1 : s.id ≤ 3 * s.c.f) (h2 : 0 ≤ c) (h3 : c ≤ s.c.cl - 1) (hcl : s.c.cl ≤ 4) (h4 : 1 ≤ t) (h5 : t ≤ 1048576) (h6 : -549755813887 ≤ r) (h7 : r ≤ 549755813887) :
  ∃ (b : Bys) (l' : Nt) (m : Ms) (sl : Int), ze6 (s, l) c t r = ({ s with out := s.out ++ [(100 + c, b)] }, l') ∧ Px l l' ∧ l'.length ≤ l.length + 1 ∧ openP l' s.c.f s.c.cl b = some (m, sl) ∧ m.kind = 10 := by
 have hb := zu1 (t := t) h0 (by omega) h2 (by omega) (by omega) h5 h6 h7
 have ho := zlv (l := l) (f := s.c.f) (cl := s.c.cl) (m := repM s.id c t r) hb (zl1 _ _ _ _) hn
 rw [zv3 h0 h1 h2 h3 h4 h5 h6 h7, if_pos rfl] at ho
 have hg := zn3 hn s.id (zl1 s.id c t r)
 have hs : sealP l (repM s.id c t r) = (some (givE l s.id (repB s.id c t r)), sealL l s.id (repB s.id c t r)) := by
  unfold sealP
  rw [hb]
  simp only
  have e : envP (sealN l (repM s.id c t r).fm (repB s.id c t r)) (repB s.id c t r) = some (numB (sealN l s.id (repB s.id c t r)) ++ repB s.id c t r) := by
   unfold envP
   have h8 := zid hn s.id (repB s.id c t r)
   have h9 := zbf (sealN l s.id (repB s.id c t r))
   have h10 := zl1 s.id c t r
   rw [if_pos]
   ·rfl
   ·simp only [Bool.and_eq_true, decide_eq_true_eq]
    exact ⟨h8, by show (numB (sealN l s.id _)).length + _ ≤ _; omega⟩
  rw [e, hg]
  rfl
 refine ⟨givE l s.id (repB s.id c t r), sealL l s.id (repB s.id c t r), repM s.id c t r, _, ?_, zjn _ _ _, (zdh _ _ _).2, ho, rfl⟩
 rw [zfz, hs]
structure BkOk (cl : Nat) (b : Lp) : Prop where
 c : b.clients = cl
 rp : b.rp.length = cl
 st : b.st.length = 64
 vs : VsOk (b.st.map Prod.snd)
def ldg1 (b : Lp) (r : Rq) : Lp := (runL b [r]).1
theorem zt9 (b : Lp) (r : Rq) : runL b [r] = ({ (stepL b r).1 with es := b.es ++ (stepL b r).2 }, (stepL b r).2) := by
 unfold runL
 simp only
 rw [ze7]
 simp [zbi]
theorem zj3 {cl : Nat} {b : Lp} (h : BkOk cl b) {r : Rq} {c : Nat} (hc : r.client = c) (hlt : c < cl) (ht : (b.rp.getD c (0, 0)).1 < r.time) :
  runL b [r] = (⟨b.clients, b.es ++ [⟨r, (za3 b.st r).1⟩], (za3 b.st r).2, b.rp.set c (r.time, (za3 b.st r).1)⟩, [⟨r, (za3 b.st r).1⟩]) := by
 obtain ⟨h1, h2, h3, h4⟩ := h
 obtain ⟨clients, es, st, rp⟩ := b
 simp only at h1 h2 h3 h4 ht
 subst h1
 have hq : c < rp.length := by omega
 have e : rp.getD c (0, 0) = rp[c] := by simp [List.getD, hq]
 rw [e] at ht
 rw [zt9, zl3 h2 hq hc ht]
theorem ztj {cl : Nat} {b : Lp} (h : BkOk cl b) {r : Rq} {c : Nat} (hc : r.client = c) (hlt : c < cl) (ht : ¬ (b.rp.getD c (0, 0)).1 < r.time) : runL b [r] = (b, []) := by
 obtain ⟨h1, h2, h3, h4⟩ := h
 obtain ⟨clients, es, st, rp⟩ := b
 simp only at h1 h2 h3 h4 ht
 subst h1
 have hq : c < rp.length := by omega
 have e : rp.getD c (0, 0) = rp[c] := by simp [List.getD, hq]
 rw [e] at ht
 rw [zt9, zpz h2 (.inr (.inr ⟨c, hq, hc, by omega⟩))]
 simp
theorem zs6 {cl : Nat} {b : Lp} (h : BkOk cl b) {r : Rq} {c : Nat} (hc : r.client = c) (hlt : c < cl) : BkOk cl (ldg1 b r) := by
 unfold ldg1
 by_cases ht : (b.rp.getD c (0, 0)).1 < r.time
 ·rw [zj3 h hc hlt ht]
  exact ⟨h.c, by simpa using h.rp, (zik h.st r).2.2, zlr h.st h.vs r⟩
 ·rw [ztj h hc hlt ht]; exact h
theorem zrx {vs : List Int} (h : VsOk vs) (r : Rq) : -200000000000 < (zb2 vs r).1 ∧ (zb2 vs r).1 < 200000000000 := by
 have ha := h.at r.key.toNat
 have hs := zt0 h 64
 rw [List.take_of_length_le (by rw [h.1]; omega)] at hs
 unfold zb2
 split
 ·simp
 ·split
  ·simp only; omega
  ·split
   ·simp only; omega
   ·split
    ·split
     ·simp only; omega
     ·simp only; omega
    ·split
     ·simp only; omega
     ·split
      ·exact hs
      ·simp
theorem res_in {st : List (Bool × Int)} (hl : st.length = 64) (hv : VsOk (st.map Prod.snd)) (r : Rq) : -200000000000 < (za3 st r).1 ∧ (za3 st r).1 < 200000000000 := by
 rw [(zik hl r).1]
 exact zrx hv r
section
variable {f : Nat} {id u st : Int} {ds : List (Option Cp)} {bk : Lp} {out : List (Int × Bys)} {sp : Bool} {l : Nt}
def zfb (f : Nat) (L : Nt) (o : List (Int × Bys)) : Prop := ∀ y ∈ o, ∃ m sl, openP L f 2 y.2 = some (m, sl) ∧ m.kind = 10
theorem zfb.px {L L' : Nt} {o : List (Int × Bys)} (h : zfb f L o) (hp : Px L L') : zfb f L' o := fun y hy => by
 obtain ⟨m, sl, h1, h2⟩ := h y hy
 exact ⟨m, sl, open_px h1 hp, h2⟩
theorem runC_ad {n : Nat} {c : Cp} (hn : n < 16) (hl : ds.length = 16) (hd : ds[n]? = some (some c)) : runC (adS f id ds n bk out u st sp) = c := by
 unfold runC
 rw [ad_at]
 have e : (adS f id ds n bk out u st sp).run + 1 = (n : Int) + 1 := rfl
 rw [e, zhz n hn hl rfl, hd]
 rfl
theorem zrf {n : Nat} {c : Cp} {r : Rq} (hf : f ≤ 4) (h0 : 0 ≤ id) (h1 : id ≤ 3 * f) (hn : n < 16) (hl : ds.length = 16) (hd : ds[n]? = some (some c)) (hr : c.rs = [r]) (hq : okReq r 2 = true) (hb : BkOk 2 bk) (hln : l.length ≤ 1000000000) :
  ∃ o l', zga (adS f id ds n bk out u st sp, l) = (adS f id ds ((n : Int) + 1) (ldg1 bk r) (out ++ o) u st sp, l') ∧ o.length + bk.es.length = (ldg1 bk r).es.length ∧ zfb f l' o ∧ Px l l' ∧ l'.length ≤ l.length + 1 ∧ BkOk 2 (ldg1 bk r) := by
 have hq2 := hq
 unfold okReq inW at hq2
 simp only [Bool.and_eq_true, decide_eq_true_eq] at hq2
 obtain ⟨cn, hcn⟩ : ∃ cn : Nat, r.client = cn := ⟨r.client.toNat, by omega⟩
 have hcl : cn < 2 := by omega
 have hok := zs6 hb hcn hcl
 rw [zir]
 rw [show runC (adS f id ds n bk out u st sp) = c from runC_ad hn hl hd, hr]
 have hbk : (adS f id ds n bk out u st sp).bk = bk := rfl
 rw [hbk]
 have hst : ∀ b', ({ adS f id ds n bk out u st sp with run := (adS f id ds n bk out u st sp).run + 1, bk := b' } : Ns) = adS f id ds ((n : Int) + 1) b' out u st sp := fun b' => rfl
 rw [hst]
 by_cases ht : (bk.rp.getD cn (0, 0)).1 < r.time
 ·have hy := zj3 hb hcn hcl ht
  have hres := res_in hb.st hb.vs r
  have hl1 : ldg1 bk r = ⟨bk.clients, bk.es ++ [⟨r, (za3 bk.st r).1⟩], (za3 bk.st r).2, bk.rp.set cn (r.time, (za3 bk.st r).1)⟩ := by unfold ldg1; rw [hy]
  rw [hy]
  simp only [List.foldl_cons, List.foldl_nil]
  rw [← hl1, zhg (p := (adS f id ds ((n : Int) + 1) (ldg1 bk r) out u st sp, l)) rfl]
  obtain ⟨b, l', m, sl, e1, e2, e3, e4, e5⟩ := zuz (s := adS f id ds ((n : Int) + 1) (ldg1 bk r) out u st sp) (l := l) (c := r.client) (t := r.time) (r := (za3 bk.st r).1) hln hf h0 h1 (by omega) (by show r.client ≤ 2 - 1; omega) (by show (2 : Int) ≤ 4; omega) (by omega) (by omega) (by omega) (by omega)
  refine ⟨[(100 + r.client, b)], l', ?_, ?_, ?_, e2, e3, hok⟩
  ·rw [e1]; rfl
  ·rw [hl1]; simp; omega
  ·intro y hy
   simp only [List.mem_singleton] at hy
   subst hy
   exact ⟨m, sl, e4, e5⟩
 ·have hy := ztj hb hcn hcl ht
  have hl1 : ldg1 bk r = bk := by unfold ldg1; rw [hy]
  rw [hy, hl1]
  exact ⟨[], l, by simp, by simp, by simp [zfb], .refl l, by omega, hb⟩
def ldgs (rq : Nat → Rq) : Lp → Nat → Nat → Lp
 | b, _, 0 => b
 | b, n, k + 1 => ldgs rq (ldg1 b (rq n)) (n + 1) k
theorem zo6 (rq : Nat → Rq) (hf : f ≤ 4) (h0 : 0 ≤ id) (h1 : id ≤ 3 * f) (hl : ds.length = 16) : ∀ (k n m : Nat) (bk : Lp) (out : List (Int × Bys)) (l : Nt), k ≤ m → n + k ≤ 16 → (ds.takeWhile Option.isSome).length = n + k →
  (∀ j, n ≤ j → j < n + k → (∃ c, ds[j]? = some (some c) ∧ c.rs = [rq j]) ∧ okReq (rq j) 2 = true) → BkOk 2 bk → l.length + k ≤ 1000000000 →
  ∃ o l', runGo m (adS f id ds n bk out u st sp, l) = (adS f id ds ((n + k : Nat) : Int) (ldgs rq bk n k) (out ++ o) u st sp, l') ∧ o.length + bk.es.length = (ldgs rq bk n k).es.length ∧ zfb f l' o ∧ Px l l' ∧ l'.length ≤ l.length + k ∧ BkOk 2 (ldgs rq bk n k)
 | 0, n, m, bk, out, l, _, _, hd, _, hb, _ => by
  refine ⟨[], l, ?_, by simp [ldgs], by simp [zfb], .refl l, by omega, hb⟩
  rw [zjc]
  ·simp [ldgs]
  ·rw [ad_at, zl7, hd]
   show ¬ (n : Int) < ((n + 0 : Nat) : Int)
   omega
 | k + 1, n, 0, bk, out, l, hm, _, _, _, _, _ => by omega
 | k + 1, n, m + 1, bk, out, l, hm, h16, hd, hds, hb, hln => by
  rw [zja]
  ·obtain ⟨⟨c, hc1, hc2⟩, hq⟩ := hds n (by omega) (by omega)
   obtain ⟨o, l', e1, e2, e3, e4, e5, e6⟩ := zrf (u := u) (st := st) (sp := sp) (out := out) (l := l) hf h0 h1 (by omega) hl hc1 hc2 hq hb (by omega)
   rw [e1]
   obtain ⟨o2, l2, g1, g2, g3, g4, g5, g6⟩ := zo6 rq hf h0 h1 hl k (n + 1) m (ldg1 bk (rq n)) (out ++ o) l' (by omega) (by omega) (by omega) (fun j h1 h2 => hds j (by omega) (by omega)) e6 (by omega)
   refine ⟨o ++ o2, l2, ?_, ?_, ?_, e4.trans g4, by omega, g6⟩
   ·rw [show ((n : Int) + 1) = ((n + 1 : Nat) : Int) by omega, g1, List.append_assoc, show n + 1 + k = n + (k + 1) by omega]
    rfl
   ·rw [List.length_append]
    have : ldgs rq bk n (k + 1) = ldgs rq (ldg1 bk (rq n)) (n + 1) k := rfl
    rw [this]
    omega
   ·intro y hy
    rcases List.mem_append.1 hy with hy | hy
    ·exact (e3.px g4) y hy
    ·exact g3 y hy
  ·rw [ad_at, zl7, hd]
   show (n : Int) < ((n + (k + 1) : Nat) : Int)
   omega
end
theorem zk1 : ∀ (ds : List (Option Cp)) (k : Nat) (c : Cp), (ds.takeWhile Option.isSome).length ≤ ((ds.set k (some c)).takeWhile Option.isSome).length
 | [], _, _ => by simp
 | none :: ds, _, _ => by simp
 | some d :: ds, 0, c => by simp [List.takeWhile_cons]
 | some d :: ds, k + 1, c => by
  have := zk1 ds k c
  simp only [List.set_cons_succ, List.takeWhile_cons, Option.isSome_some, if_true, List.length_cons]
  omega
theorem takeWhile_take {α : Type} {p : α → Bool} : ∀ {l : List α} {n : Nat}, (∀ (j : Nat) (_ : j < n) (hl : j < l.length), p l[j] = true) → (∀ hl : n < l.length, p l[n] = false) → l.takeWhile p = l.take n
 | [], n, _, _ => by simp
 | a :: l, 0, _, h2 => by
  have := h2 (by simp)
  simp only [List.getElem_cons_zero] at this
  simp [this]
 | a :: l, n + 1, h1, h2 => by
  have h0 := h1 0 (by omega) (by simp)
  simp only [List.getElem_cons_zero] at h0
  rw [List.takeWhile_cons, h0, if_pos rfl, List.take_succ_cons]
  congr 1
  exact takeWhile_take (fun j hj hl => by have := h1 (j + 1) (by omega) (by simpa using hl); simpa using this) (fun hl => by have := h2 (by simpa using hl); simpa using this)
section
variable {f : Nat} {id u st fm : Int} {ds : List (Option Cp)} {bk : Lp} {out : List (Int × Bys)} {l : Nt}
theorem done_ad (rq : Nat → Rq) (rs : List Rq) (hf : f ≤ 4) (h0 : 0 ≤ id) (h1 : id ≤ 3 * f) (hl : ds.length = 16) {n N : Nat} (hN : (ds.takeWhile Option.isSome).length = N) (hn : n ≤ N)
  (hds : ∀ j, n ≤ j → j < N → (∃ c, ds[j]? = some (some c) ∧ c.rs = [rq j]) ∧ okReq (rq j) 2 = true) (hb : BkOk 2 bk) (hln : l.length ≤ 900000000) :
  ∃ o l', doneS 0 rs (adS f id ds n bk out u st false, l) = (adS f id ds N (ldgs rq bk n (N - n)) (out ++ o) u st (decide (16 ≤ N)), l') ∧ o.length + bk.es.length = (ldgs rq bk n (N - n)).es.length ∧ zfb f l' o ∧ Px l l' ∧ l'.length ≤ l.length + 16 ∧ BkOk 2 (ldgs rq bk n (N - n)) := by
 have h16 : N ≤ 16 := by
  rw [← hN]
  have := (List.takeWhile_sublist Option.isSome (l := ds)).length_le
  omega
 obtain ⟨o, l', e1, e2, e3, e4, e5, e6⟩ := zo6 (u := u) (st := st) (sp := false) rq hf h0 h1 hl (N - n) n 16 bk out l (by omega) (by omega) (by omega) (fun j h1 h2 => hds j h1 (by omega)) hb (by omega)
 rw [show n + (N - n) = N by omega] at e1
 refine ⟨o, l', ?_, e2, e3, e4, by omega, e6⟩
 unfold doneS
 simp only
 rw [zlq rfl, e1, if_neg (by simp)]
 by_cases h : 16 ≤ N
 ·rw [if_pos (by show (16 : Int) ≤ N; omega), decide_eq_true h]
  rfl
 ·rw [if_neg (by show ¬ (16 : Int) ≤ N; omega), decide_eq_false h]
theorem zsl (rq : Nat → Rq) {c : Cp} (hf : f ≤ 4) (h0 : 0 ≤ id) (h1 : id ≤ 3 * f) {n N k : Nat} (hk : k < 16) (hl : ds.length = 16) (hs : c.seq = k + 1) (hi : c.inst = 0) (hc : za1 l 5 c f 2 = true) (hd : ds[k]? = some none)
  (hn : (ds.takeWhile Option.isSome).length = n) (hN : ((ds.set k (some c)).takeWhile Option.isSome).length = N) (hds : ∀ j, n ≤ j → j < N → (∃ d, (ds.set k (some c))[j]? = some (some d) ∧ d.rs = [rq j]) ∧ okReq (rq j) 2 = true) (hb : BkOk 2 bk) (hln : l.length ≤ 900000000) :
  ∃ o l', zbm c (adS f id ds n bk out u st false, l) = (0, (adS f id (ds.set k (some c)) N (ldgs rq bk n (N - n)) (out ++ o) u st (decide (16 ≤ N)), l')) ∧ o.length + bk.es.length = (ldgs rq bk n (N - n)).es.length ∧ zfb f l' o ∧ Px l l' ∧ l'.length ≤ l.length + 16 ∧ BkOk 2 (ldgs rq bk n (N - n)) := by
 have hnN : n ≤ N := by rw [← hn, ← hN]; exact zk1 ds k c
 obtain ⟨o, l', e1, e2⟩ := done_ad (u := u) (st := st) (out := out) (ds := ds.set k (some c)) rq c.rs hf h0 h1 (by simpa using hl) hN hnN hds hb hln
 refine ⟨o, l', ?_, e2⟩
 unfold zbm
 simp only
 rw [show (adS f id ds n bk out u st false).c.f = f from rfl, show (adS f id ds n bk out u st false).c.cl = 2 from rfl, hc, hi]
 rw [show (0 : Int).toNat = 0 from rfl, ad_at, zd5 k hk hl hs hi, decide_eq_true hd, zp9 k hk hl hs hi hd, ad_set, e1]
 rfl
theorem zsq {ds' : List (Option Cp)} {N : Int} {bk' : Lp} {out' : List (Int × Bys)} {sp : Bool} : zg1 fm (0, (adS f id ds' N bk' out' u st sp, l)) = (adS f id ds' N bk' out' (u + 1) st sp, l) := rfl
end
def cpL (cps : List Cp) (j : Nat) : Cp := cps.getD j noCp
def rqL (cps : List Cp) (j : Nat) : Rq := reqAt (cpL cps j).rs 0
structure CtGood (f : Nat) (l : Nt) (j : Nat) (c : Cp) : Prop where
 inst : c.inst = 0
 seq : c.seq = j + 1
 rs : c.rs = [reqAt c.rs 0]
 cert : za1 l 5 c f 2 = true
 ok : zeq f 2 c = true
 vl : c.vs.length = 2 * f + 1
 w : certW c = true
 rc : (reqAt c.rs 0).client = ((j % 2 : Nat) : Int)
 rt : (reqAt c.rs 0).time = j + 1
 rok : okReq (reqAt c.rs 0) 2 = true
theorem CtGood.px {f : Nat} {l l' : Nt} {j : Nat} {c : Cp} (h : CtGood f l j c) (hp : Px l l') : CtGood f l' j c := { h with cert := hp.certified h.cert }
def zcw (f : Nat) (l : Nt) (cps : List Cp) : Prop := ∀ j, j < cps.length → CtGood f l j (cpL cps j)
theorem zcw.px {f : Nat} {l l' : Nt} {cps : List Cp} (h : zcw f l cps) (hp : Px l l') : zcw f l' cps := fun j hj => (h j hj).px hp
structure BkAd (cps : List Cp) (n : Nat) (b : Lp) : Prop where
 ok : BkOk 2 b
 es : b.es.length = n
 rq : ∀ j, j < n → (b.es[j]?).map En.rq = some (rqL cps j)
 rp : ∀ c, c < 2 → (b.rp.getD c (0, 0)).1 ≤ n
theorem BkAd.step {cps : List Cp} {n : Nat} {b : Lp} (h : BkAd cps n b) (hc : (rqL cps n).client = ((n % 2 : Nat) : Int)) (ht : (rqL cps n).time = n + 1) : BkAd cps (n + 1) (ldg1 b (rqL cps n)) := by
 have h2 : n % 2 < 2 := by omega
 have hy := zj3 h.ok hc h2 (by have := h.rp _ h2; omega)
 have e : ldg1 b (rqL cps n) = ⟨b.clients, b.es ++ [⟨rqL cps n, (za3 b.st (rqL cps n)).1⟩], (za3 b.st (rqL cps n)).2, b.rp.set (n % 2) ((rqL cps n).time, (za3 b.st (rqL cps n)).1)⟩ := by unfold ldg1; rw [hy]
 refine ⟨zs6 h.ok hc h2, by rw [e]; simp [h.es], fun j hj => ?_, fun c hc2 => ?_⟩
 ·rw [e]
  simp only
  by_cases hj2 : j < n
  ·rw [List.getElem?_append_left (by rw [h.es]; exact hj2)]
   exact h.rq j hj2
  ·have : j = n := by omega
   subst this
   rw [List.getElem?_append_right (by rw [h.es]; omega), h.es]
   simp
 ·rw [e]
  simp only
  rw [List.getD_eq_getElem?_getD, List.getElem?_set]
  have hl := h.ok.rp
  by_cases hcc : n % 2 = c
  ·rw [if_pos hcc, if_pos (by omega)]
   simp only [Option.getD_some]
   omega
  ·rw [if_neg hcc]
   have := h.rp c hc2
   rw [List.getD_eq_getElem?_getD] at this
   omega
theorem crt_nok {kind : Int} {f : Nat} {skip : Int} {l : Nt} {view inst seq : Int} {r : Rq} (h : NtOk l) (hf : f ≤ 4) : NtOk (crtP kind f skip l view inst seq r).2 := by
 have h1 : NtOk (rqSL l r) := by
  unfold rqSL
  split
  ·rename_i hw
   exact zfc h (zv6 hw)
  ·exact h
 refine zoo h1 (fun k hk => ?_)
 have hs0 : 0 ≤ skip % ((f : Int) + 1) := Int.emod_nonneg _ (by omega)
 have hs1 : skip % ((f : Int) + 1) < (f : Int) + 1 := Int.emod_lt_of_pos _ (by omega)
 unfold quoKs at hk
 simp only [List.mem_map, List.mem_range] at hk
 obtain ⟨i, hi, rfl⟩ := hk
 have := zli (f := f) hs0 (by omega) hi
 show -9223372036854775808 ≤ quoK f (skip % (f + 1)) i ∧ quoK f (skip % (f + 1)) i ≤ 9223372036854775807
 omega
section
variable {B : Nat} {w0 w W W' : World} {ss rs : List Res} {x : Np} {s s' : Ns} {l l' : Nt}
theorem zng (h : NdIs B w0 W x s l ss) : Calls Tryz.prog 49 #[ptrV x.p] W fun e w' => ∃ y : Lg, e = .returned (ptrV y.p) ∧ LgOk y ∧ y.lp = s.bk ∧ NdIs B w0 w' x s l (lgL y ++ ss) := by
 obtain ⟨v, rr, c, d, g⟩ := h.lens 5 (by omega) (by omega)
 have hok := h.ok
 have d1 : Own B w0 W (lgL v.lg ++ (ss ++ rr)) := Own.open d
 have HC := zkl d1 c.lo
 have c22 := h.cell 22 rfl (by decide)
 have hp : v.lg.p = x.bk := c.lp
 rw [hp] at HC
 have HC2 : Hid (Calls Tryz.prog 108 #[ptrV x.bk] W fun e w' => ∃ y : Lg, e = .returned (ptrV y.p) ∧ LgOk y ∧ y.lp = s.bk ∧ NdIs B w0 w' x s l (lgL y ++ ss)) := Lib.hid (HC.mono (fun e w' ⟨y, he, h1, h2, h3⟩ => ⟨y, he, h1, h2.trans c.lg, g w' s v (lgL y ++ ss) (joinR (lgL v.lg)) hok c rfl (Own.shut (rs := lgL v.lg) (by
  refine h3.perm ?_
  have : (lgL y ++ (lgL v.lg ++ (ss ++ rr))).Perm (lgL v.lg ++ (lgL y ++ (ss ++ rr))) := List.perm_append_comm_assoc _ _ _
  simpa [List.append_assoc] using this))⟩))
 clear HC d1 d g c hok hp h
 go_enter Tryz.func49, Tryz.ntmps49
 go_wp2_with fail
 refine HC2.out.mono ?_
 rintro e w1 ⟨y, rfl, h1, h2, h3⟩
 have HF := Lib.hid h3
 have H1 := Lib.hid h1
 have H2 := Lib.hid h2
 clear h1 h2 h3 HC2 c22
 go_wp2_with fail
 go_ret
 exact ⟨y, rfl, H1.out, H2.out, HF.out⟩
theorem zpk {y : Lg} (h : Own B w0 W (lgL y ++ ss)) : Calls Tryz.prog 50 #[ptrV y.p] W fun e w' => e = .returned (.int .i64 y.es.length) ∧ W = w' := by
 obtain ⟨a, k, hv⟩ := zcn (zak (h.get 1 rfl))
 obtain ⟨-, c1, -, -⟩ := ze3 h
 rw [hv] at c1
 clear h hv
 go_enter Tryz.func50, Tryz.ntmps50
 go_wp2_with fail
 go_ret
 exact ⟨rfl, rfl⟩
end
theorem own_pf {B : Nat} {w0 W : World} {rs : List Res} {cts : List Ct} {c : Ct} (h : Own B w0 W rs) (fm : Int) (k : Nat) (e : rs[k]? = some (ctsR cts)) (hc : c ∈ cts) : Own B w0 (W.alloc (ctO c.view c.inst c.seq c.vb c.vv)) (mmR (pfX fm c (.slice (some ⟨W.heap.size, 0, none⟩) 1 1)) rs) := by
 have h1 := zc3 2 (zc3 6 h)
 have h2 : Own B w0 W (ctsR [c] :: _) := h1.mkCts (fun c' hc' => by
  rw [List.mem_singleton] at hc'
  subst hc'
  exact zvs h1 (k + 2) (by simpa using e) c' hc)
 have h3 := h2.alloc (ctO c.view c.inst c.seq c.vb c.vv)
 have h4 : Own B w0 (W.alloc (ctO c.view c.inst c.seq c.vb c.vv)) (redR (.slice (some ⟨W.heap.size, 0, none⟩) 1 1) 5 1 ([c].flatMap zal) :: _) := h3.red ⟨_, _, rfl, by omega, by unfold maxLen; omega, rfl, (fun e => by cases e), fun _ => ⟨W.heap.size, 0, rfl, by simp, fun j hj => by
  rw [Nat.zero_add, zac (heap_alloc_new W (ctO c.view c.inst c.seq c.vb c.vv))]
  simp [zal]⟩⟩ (fun k hk hm => by
  simp [blkIf, blkOf] at hk
  subst hk
  exact h2.fresh (Nat.le_refl _) hm)
 have h5 : Own B w0 _ (ptsR [] :: _) := h4.mkPts (by simp)
 exact zc3 4 h5
theorem NdIs.prf {B : Nat} {w0 W : World} {x : Np} {s : Ns} {l : Nt} {ss : List Res} {cts : List Ct} {c : Ct} (h : NdIs B w0 W x s l ss) (fm : Int) (k : Nat) (e : ss[k]? = some (ctsR cts)) (hc : c ∈ cts) : NdIs B w0 (W.alloc (ctO c.view c.inst c.seq c.vb c.vv)) x s l (mmR (pfX fm c (.slice (some ⟨W.heap.size, 0, none⟩) 1 1)) ss) := by
 obtain ⟨r, hs, hk⟩ := h.side
 exact hk _ (mmR _ ss) (own_pf hs fm k (by rw [List.getElem?_append_left (List.getElem?_eq_some_iff.1 e).1]; exact e) hc)
theorem NdIs.more {B : Nat} {w0 W : World} {x : Np} {s : Ns} {l l1 l2 : Nt} {ss : List Res} {rn : Nat} {vp : Value} {vt : Rn} (h : NdIs B w0 W x s l (rnR rn vp vt l1 ss)) (hl : Px l1 l2) : NdIs B w0 W x s l (rnR rn vp vt l2 ss) := by
 obtain ⟨t, rfl⟩ := hl
 exact h.onSide (fun r hr => rn_more (ss := ss ++ [r]) hr (fun x hx => List.mem_append_left _ hx))
theorem NdIs.dropL {B : Nat} {w0 W : World} {x : Np} {s : Ns} {l : Nt} {ss : List Res} : ∀ {pre : List Res}, NdIs B w0 W x s l (pre ++ ss) → NdIs B w0 W x s l ss
 | [], h => h
 | _ :: _, h => NdIs.dropL (NdIs.drop h)
theorem bk_new (cps : List Cp) (f : Nat) (id : Int) : BkAd cps 0 (newS (stdC f) id).bk := by
 refine ⟨⟨rfl, rfl, rfl, ⟨rfl, fun v hv => ?_⟩⟩, rfl, fun j hj => by omega, fun c hc => ?_⟩
 ·have : v = 0 := by
   have h : (newS (stdC f) id).bk.st.map Prod.snd = List.replicate 64 0 := rfl
   rw [h] at hv
   exact List.eq_of_mem_replicate hv
  omega
 ·show ((List.replicate 2 ((0, 0) : Int × Int)).getD c (0, 0)).1 ≤ 0
  rcases c with _ | _ | c
  ·simp
  ·simp
  ·omega
section
variable {B : Nat} {w0 W : World} {x : Np} {l : Nt} {ss : List Res} {f : Nat} {id n u st : Int} {ds : List (Option Cp)} {bk : Lp} {o : List (Int × Bys)} {sp : Bool}
theorem zlx (h : NdIs B w0 W x (adS f id ds n bk o u st sp) l ss) : Calls Tryz.prog 49 #[ptrV x.p] W fun e w' => ∃ y : Lg, e = .returned (ptrV y.p) ∧ LgOk y ∧ y.lp = bk ∧ NdIs B w0 w' x (adS f id ds n bk o u st sp) l (lgL y ++ ss) := zng h
theorem ad_len {y : Lg} (h : NdIs B w0 W x (adS f id ds n bk o u st sp) l (lgL y ++ ss)) {m : Nat} (e : y.lp = bk) (hm : bk.es.length = m) : Calls Tryz.prog 50 #[ptrV y.p] W fun e w' => e = .returned (.int .i64 m) ∧ W = w' := by
 obtain ⟨r, hs, -⟩ := h.side
 have h1 := zpk (y := y) (ss := ss ++ [r]) (by simpa [List.append_assoc] using hs)
 have h2 : y.es.length = m := by rw [← hm, ← e]; rfl
 rw [h2] at h1
 exact h1
end
theorem zvw {W w : World} {x : Np} {s : Ns} {l : Nt} {ss : List Res} (h : NdIs W.heap.size W w x s l ss) : Upd [] W w := by
 obtain ⟨r, hs, -⟩ := h.side
 exact Upd.of_below hs.below
abbrev stdO (f : Nat) : Obj := .cells (cfA (stdC f)) 30 (0, 0)
structure CtsMade (f : Nat) (l : Nt) (cts : List Ct) : Prop where
 g : zcw f l (cts.map Ct.cp)
 n : cts.length ≤ 5
theorem znj {B : Nat} {w0 W : World} {rs : List Res} (h : Own B w0 W rs) (r : Rq) : Own B w0 (W.alloc (rqO r)) (batR (.slice (some ⟨W.heap.size, 0, none⟩) 1 1) [r] :: rs) := by
 have h1 := h.alloc (rqO r)
 refine h1.red (v := .slice (some ⟨W.heap.size, 0, none⟩) 1 1) (sz := 6) (n := 1) (xs := zam [r]) ⟨_, _, rfl, by omega, by unfold maxLen; omega, rfl, (fun e => by cases e), fun _ => ⟨W.heap.size, 0, rfl, by simp, fun j hj => ?_⟩⟩ (fun k hk hm => ?_)
 ·rw [Nat.zero_add, zac (heap_alloc_new W (rqO r))]
  simp [zam, za5]
 ·simp [blkIf, blkOf] at hk
  subst hk
  exact h.fresh (Nat.le_refl _) hm
end Go.Proofs.YtannckelmojkoaaGreat
