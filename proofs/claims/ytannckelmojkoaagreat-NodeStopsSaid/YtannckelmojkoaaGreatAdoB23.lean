/- Parts of the proof, one behind the other. -/
import Derived.Test.YtannckelmojkoaaGreatAdoB22
set_option maxHeartbeats 32000000
set_option maxRecDepth 100000
namespace Go.Proofs.YtannckelmojkoaaGreat
open Go.RowKit Go.Heap
theorem fn_zero : FloatKind.f64.nearest 0 = 0 := by kernel_rfl
section
variable {B : Nat} {w0 w W W' : World} {ss rs : List Res} {x : Np} {s s' : Ns} {l l' : Nt}
theorem NdIs.inst (h : NdIs B w0 W x s l ss) (k : Nat) (hk : k < s.ins.length) : ∃ i rr, x.is[k]? = some i ∧ AtI B w0 W i s.ins[k] (ss ++ rr) ∧
  ∀ W' st' ss', InKeep s.ins[k] st' → AtI B w0 W' i st' (ss' ++ rr) → NdIs B w0 W' x { s with ins := s.ins.set k st' } l ss' := by
 obtain ⟨v, rr, c, d, g⟩ := h.lens 7 (by omega) (by omega)
 have hok := h.ok
 have hkx : k < v.xs.length := by rw [← c.xs, List.length_map] at hk; exact hk
 have d1 : Own B w0 W (joinR (inL x.ib x.is v.xs) :: (ss ++ rr)) := d
 have e1 : Own B w0 W (instR v.xs[k] :: ([segR x.ib 142 (x.is.map ptrV)] ++ ((v.xs.eraseIdx k).map instR ++ (ss ++ rr)))) := Own.pick (hd := [segR x.ib 142 (x.is.map ptrV)]) (f := instR) (l := v.xs) (ss := ss ++ rr) (Own.open (rs := inL x.ib x.is v.xs) d1) k hkx
 have hp : ∀ l' : List Res, ([segR x.ib 142 (x.is.map ptrV)] ++ ((v.xs.eraseIdx k).map instR ++ (l' ++ rr))).Perm (l' ++ (rr ++ ([segR x.ib 142 (x.is.map ptrV)] ++ (v.xs.eraseIdx k).map instR))) := fun l' => by
  have e1 : [segR x.ib 142 (x.is.map ptrV)] ++ ((v.xs.eraseIdx k).map instR ++ (l' ++ rr)) = ([segR x.ib 142 (x.is.map ptrV)] ++ (v.xs.eraseIdx k).map instR) ++ (l' ++ rr) := (List.append_assoc _ _ _).symm
  have e2 : l' ++ (rr ++ ([segR x.ib 142 (x.is.map ptrV)] ++ (v.xs.eraseIdx k).map instR)) = (l' ++ rr) ++ ([segR x.ib 142 (x.is.map ptrV)] ++ (v.xs.eraseIdx k).map instR) := (List.append_assoc _ _ _).symm
  rw [e1, e2]
  exact List.perm_append_comm
 have hst : v.xs[k].st = s.ins[k] := by
  have : (v.xs.map Ins.st)[k]'(by simpa using hkx) = s.ins[k] := by simp only [c.xs]
  simpa using this
 have hi : x.is[k]? = some v.xs[k].i := by rw [← c.is]; simp [hkx]
 refine ⟨v.xs[k].i, rr ++ ([segR x.ib 142 (x.is.map ptrV)] ++ (v.xs.eraseIdx k).map instR), hi, ⟨v.xs[k], rfl, hst, e1.perm ((hp ss).cons _)⟩, fun W' st' ss' kp ha => ?_⟩
 obtain ⟨y, y1, y2, y3⟩ := ha
 have e2 := Own.unpick (hd := [segR x.ib 142 (x.is.map ptrV)]) (ss := ss' ++ rr) (l := v.xs) k hkx (y3.perm ((hp ss').symm.cons _))
 refine g W' { s with ins := s.ins.set k st' } { v with xs := v.xs.set k y } ss' (joinR (inL x.ib x.is (v.xs.set k y))) { hok with ins := by simpa using hok.ins, insk := ?_, mtn := ?_ } { c with xs := ?_, is := ?_ } rfl (Own.shut (rs := inL x.ib x.is (v.xs.set k y)) e2)
 ·intro j hj
  simp only [List.length_set] at hj
  simp only [List.getElem_set]
  have h9 := hok.insk j hj
  split
  ·rename_i e; subst e; exact ⟨kp.f.trans h9.1, kp.num.trans h9.2.1, kp.ahead.trans h9.2.2.1, kp.sm h9.2.2.2⟩
  ·exact h9
 ·intro j hj hj2
  simp only [List.length_set] at hj2
  simp only [List.getElem_set]
  obtain ⟨m1, m2, m3, m4⟩ := hok.mtn j hj hj2
  refine ⟨m1, ?_, m3, m4⟩
  split
  ·rename_i e; subst e; have := kp.dn; exact Int.le_trans m2 (by omega)
  ·exact m2
 ·rw [List.map_set, c.xs, y2]
 ·rw [List.map_set, c.is, y1]
  refine List.ext_getElem (by simp) (fun j h1 h2 => ?_)
  rw [List.getElem_set]
  split
  ·rename_i e; subst e; exact (List.getElem?_eq_some_iff.1 hi).2.symm
  ·rfl
theorem NdIs.instAt (h : NdIs B w0 W x s l ss) (k : Nat) {i : Nat} (hi : x.is[k]? = some i) : W.cell? ⟨x.ib, k, none⟩ = some (ptrV i) := by
 obtain ⟨v, rr, c, d, g⟩ := h.lens 7 (by omega) (by omega)
 exact (zag (Own.open d) 0 rfl k (v := ptrV i) (by rw [List.getElem?_map, hi]; rfl)).1
theorem NdIs.isLen (h : NdIs B w0 W x s l ss) : x.is.length = s.c.f + 1 := by
 have hok := h.ok.ins
 obtain ⟨a, b, v, c, d⟩ := h
 rw [← c.is, List.length_map, ← hok, ← c.xs, List.length_map]
theorem NdIs.iAt (h : NdIs B w0 W x s l ss) {k : Nat} (hk : k < s.c.f + 1) : ∃ i, x.is[k]? = some i ∧ W.cell? ⟨x.ib, k, none⟩ = some (ptrV i) := by
 have h1 : k < x.is.length := by rw [h.isLen]; exact hk
 exact ⟨x.is[k], by simp [h1], h.instAt k (by simp [h1])⟩
theorem NdIs.caps (h : NdIs B w0 W x s l ss) : s.c.f + 1 ≤ x.ic ∧ 3 * s.c.f + 1 ≤ x.pk ∧ s.c.f + 1 ≤ x.bgk ∧ s.c.f + 1 ≤ x.prk ∧ s.c.f + 1 ≤ x.cok ∧ s.c.f + 1 ≤ x.mtk ∧ 3 * s.c.f + 1 ≤ x.vk := by
 obtain ⟨_, _, v, c, _⟩ := h
 exact ⟨c.ic, c.pk, c.bgk, c.prk, c.cok, c.mtk, c.vk⟩
theorem zwn (h : NdIs B w0 W x s l ss) : Calls Tryz.prog 90 #[ptrV x.t] W fun e w' => e = .returned (.int .i64 s.now) ∧ W = w' := by
 obtain ⟨v, rr, c, d, -⟩ := h.lens 1 (by omega) (by omega)
 exact zfm d.blk_out
theorem nd_shut (h : NdIs B w0 W x s l ss) (src c : Int) (hg : s.gd.length ≤ 1000) :
  Calls Tryz.prog 97 #[ptrV x.gd, .int .i64 src, .int .i64 c] W fun e w' => e = .returned (.bool (shutP s.gd src c)) ∧ Upd [] W w' := by
 obtain ⟨v, rr, -, d, -⟩ := h.lens 4 (by omega) (by omega)
 exact zvm src c (by omega) (Own.open d)
theorem zxp (h : NdIs B w0 W x s l ss) (src c : Int) (hg : s.gd.length ≤ 1000) (hb : ∀ q ∈ bumpP s.c.fl s.c.sh c src s.gd, 0 ≤ q.bad ∧ q.bad ≤ s.c.fl) :
  Calls Tryz.prog 99 #[ptrV x.gd, .int .i64 src, .int .i64 c] W fun e w' => (∃ b, e = .returned (.bool b)) ∧ NdIs B w0 w' x { s with gd := bumpP s.c.fl s.c.sh c src s.gd } l ss := by
 obtain ⟨v, rr, cc, d, g⟩ := h.lens 4 (by omega) (by omega)
 have hok := h.ok
 refine (zu7 src c hok.c.fl1 hok.c.fl2 hok.c.sh1 hok.c.sh2 hg hok.gd (Own.open d)).mono ?_
 rintro e w' ⟨gv', rb, he, ho⟩
 exact ⟨⟨rb, he⟩, g _ { s with gd := bumpP s.c.fl s.c.sh c src s.gd } { v with gv := gv' } ss _ { hok with gd := hb } { cc with } rfl (Own.shut (rs := [_, _]) ho)⟩
end
theorem InKeep.refl (a : In) : InKeep a a := ⟨rfl, rfl, rfl, id, Nat.le_refl _⟩
theorem InKeep.trans {a b c : In} (h : InKeep a b) (g : InKeep b c) : InKeep a c := ⟨g.f.trans h.f, g.num.trans h.num, g.ahead.trans h.ahead, fun x => g.sm (h.sm x), Nat.le_trans h.dn g.dn⟩
theorem zfh {α : Type} (p : α → Bool) (g : α → α) (hg : ∀ a, p a = true → p (g a) = true) : ∀ (l : List α) (k : Nat), l.countP p ≤ (l.modify k g).countP p
 | [], k => by simp
 | a :: l, 0 => by
  simp only [List.modify_zero_cons, List.countP_cons]
  cases h : p a with
  | true => rw [hg a h]; simp
  | false => simp
 | a :: l, k + 1 => by
  simp only [List.modify_succ_cons, List.countP_cons]
  have := zfh p g hg l k
  omega
theorem zw5 {a : In} {k : Nat} {g : Pl → Pl} (h1 : ∀ p, p.done = true → (g p).done = true) (h2 : ∀ p, PlSm p → PlSm (g p)) : InKeep a (a.upd k g) := by
 refine ⟨rfl, rfl, rfl, fun h => ⟨fun p hp => ?_⟩, zfh _ _ h1 _ _⟩
 have hp' : p ∈ a.l.modify k g := hp
 obtain ⟨j, hj, rfl⟩ := List.getElem_of_mem hp'
 rw [List.getElem_modify]
 have hj' : j < a.l.length := by simpa using hj
 split
 ·exact h2 _ (h.b _ (List.getElem_mem hj'))
 ·exact h.b _ (List.getElem_mem hj')
theorem sm_at {a : In} {s : Int} {p : Pl} (h : InSm a) (e : plAt a s = some p) : PlSm p := by
 unfold plAt at e
 cases hi : idx s with
 | none => rw [hi] at e; simp at e
 | some k => rw [hi] at e; exact h.b _ (List.mem_of_getElem? e)
theorem znh {a : In} {c : Cp} (hc : c.rs.length ≤ 4) : InKeep a (zdk a c) := by
 unfold zdk
 split
 ·exact .refl a
 ·split
  ·exact zw5 (fun p _ => rfl) (fun p hp => ⟨hp.b, hp.ct, hc, hp.cs⟩)
  ·exact .refl a
theorem zwa (f : Nat) : ∀ t ∈ (zbx f).cs, t.batch.length ≤ 4 := by
 intro t ht
 have := List.eq_of_mem_replicate ht
 subst this; simp [noVt]
theorem new_sm (f : Nat) (num ahead : Int) : InSm (newI f num ahead) := ⟨fun p hp => by
 have := List.eq_of_mem_replicate hp
 subst this
 exact ⟨by simp [zcj, zbx], by simp [zcj, noCp], by simp [zcj, noCp], zwa f⟩⟩
theorem zvk {α : Type} {g : α → List Value} {n : Nat} (hg : ∀ a, (g a).length = n) (l : List α) : (l.flatMap g).length = l.length * n := flat_length (cells := g) (sz := n) hg l
section
variable {B : Nat} {w0 w W W' : World} {ss rs : List Res} {x : Np} {s s' : Ns} {l l' : Nt}
theorem NdIs.part (h : NdIs B w0 W x s l ss) (k : Nat) (hk : k < s.pts.length) : ∃ q : Int × Pt, (q.1, q.2.pa) = s.pts[k] ∧ (∀ j, j < 5 → W.cell? ⟨x.pt, k * 5 + j, none⟩ = (pqC q)[j]?) ∧ (∀ j, W.frozen? ⟨x.pt, j, none⟩ = false) ∧
  q.2.vs.length ≤ 100000 ∧ q.2.cts.length ≤ 100000 ∧ NdIs B w0 W x s l (redR q.2.vv 2 q.2.vs.length (zan q.2.vs) :: redR q.2.cv 5 q.2.cts.length (q.2.cts.flatMap zal) :: ctsR q.2.cts :: ss) := by
 have hok := h.ok
 obtain ⟨v, rr, c, d, g⟩ := h.lens 8 (by omega) (by omega)
 have hkx : k < v.ps.length := by rw [← c.ps, List.length_map] at hk; exact hk
 have d1 := Own.open d
 obtain ⟨-, q2, q3⟩ := zcv d1.head
 have hp := pts_fr d1 1 rfl
 have hm := hp v.ps[k].2 (List.mem_map.2 ⟨v.ps[k], List.getElem_mem hkx, rfl⟩)
 refine ⟨v.ps[k], ?_, fun j hj => ?_, q3, hm.vn, hm.cn, g W s v (_ :: _ :: _ :: ss) _ hok c rfl (Own.shut (rs := pqL x.pt v.ps) ?_)⟩
 ·have : (v.ps.map fun q => (q.1, q.2.pa))[k]'(by simpa using hkx) = s.pts[k] := by simp only [c.ps]
  simpa using this
 ·rw [q2 _ (by rw [zvk (n := 5) (fun _ => rfl)]; omega), zdl pqC 5 (fun _ => rfl) v.ps k j hkx hj]
 ·have e1 : Own B w0 W (ctsR v.ps[k].2.cts :: _) := d1.mkCts hm.cs
  have e2 : Own B w0 W (redR v.ps[k].2.cv 5 v.ps[k].2.cts.length (v.ps[k].2.cts.flatMap zal) :: _) := e1.mkRed (by rw [zs0 rfl]; exact hm.c)
  have e3 : Own B w0 W (redR v.ps[k].2.vv 2 v.ps[k].2.vs.length (zan v.ps[k].2.vs) :: _) := e2.mkRed (by rw [zs0 rfl, zs0 rfl]; exact hm.v)
  exact e3.perm (List.perm_append_comm (l₁ := [_, _, _]) (l₂ := [_, _]) |>.append_right _)
theorem NdIs.outs (h : NdIs B w0 W x s l ss) : ∃ v rr, NvOk x s v ∧ Own B w0 W (segR x.p 141 (nsC x s v.ov) :: ownR 62 2 v.ov v.os.length (v.os.flatMap sdC) :: sdsR v.os :: (ss ++ rr)) ∧
  ∀ W' ov' os' ss', (∃ a k, ov' = .slice a os'.length k) → Own B w0 W' (segR x.p 141 (nsC x s ov') :: ownR 62 2 ov' os'.length (os'.flatMap sdC) :: sdsR os' :: (ss' ++ rr)) → NdIs B w0 W' x { s with out := os'.map Sd.p } l ss' := by
 obtain ⟨a, b, v, c, d⟩ := h
 have d1 : Own B w0 W (nsL x s v ++ (blk x.nt (noB x.nm) :: ntR x.nm l :: ss)) := Own.open d
 have hq : ∀ (r1 r2 : Res) (m ll : List Res), ((r1 :: (m ++ [r2])) ++ ([blk x.nt (noB x.nm), ntR x.nm l] ++ ll)).Perm (r2 :: (r1 :: (ll ++ (m ++ [blk x.nt (noB x.nm), ntR x.nm l])))) := fun r1 r2 m ll => by
  have e1 : (r1 :: (m ++ [r2])) ++ ([blk x.nt (noB x.nm), ntR x.nm l] ++ ll) = (r1 :: m) ++ (r2 :: ([blk x.nt (noB x.nm), ntR x.nm l] ++ ll)) := by simp
  have e2 : ll ++ (m ++ [blk x.nt (noB x.nm), ntR x.nm l]) = (ll ++ m) ++ [blk x.nt (noB x.nm), ntR x.nm l] := (List.append_assoc _ _ _).symm
  rw [e1, e2]
  refine List.perm_middle.trans (List.Perm.cons _ (List.Perm.cons _ ?_))
  refine (List.perm_append_comm_assoc m [blk x.nt (noB x.nm), ntR x.nm l] ll).trans ?_
  exact List.perm_append_comm.trans (List.perm_append_comm.append_right _)
 refine ⟨v, ((nsL x s v).drop 1).take 11 ++ [blk x.nt (noB x.nm), ntR x.nm l], c, ?_, fun W' ov' os' ss' hov h' => ⟨{ a with }, b, { v with ov := ov', os := os' }, { c with os := rfl, ov := hov }, ?_⟩⟩
 ·have d2 : Own B w0 W (joinR (ouL v.ov v.os) :: (segR x.p 141 (nsC x s v.ov) :: (ss ++ (((nsL x s v).drop 1).take 11 ++ [blk x.nt (noB x.nm), ntR x.nm l])))) := d1.perm (hq (segR x.p 141 (nsC x s v.ov)) (joinR (ouL v.ov v.os)) (((nsL x s v).drop 1).take 11) ss)
  exact (Own.open d2).rot
 ·refine Own.shut (rs := nsL x { s with out := os'.map Sd.p } { v with ov := ov', os := os' }) ?_
  have d2 : Own B w0 W' (joinR (ouL ov' os') :: (segR x.p 141 (nsC x s ov') :: (ss' ++ (((nsL x s v).drop 1).take 11 ++ [blk x.nt (noB x.nm), ntR x.nm l])))) := Own.shut (rs := ouL ov' os') h'.rot'
  exact d2.perm (hq (segR x.p 141 (nsC x s ov')) (joinR (ouL ov' os')) (((nsL x s v).drop 1).take 11) ss').symm
end
def tabK (l : List Td) (r : Rq) : Nat := (l.takeWhile fun t => decide (cmpRq t.r r < 0)).length
def tabIs (l : List Td) (r : Rq) : Bool := match l[tabK l r]? with
 | some t => decide (t.r = r)
 | none => false
def zc4 (l : List Td) (r : Rq) : Option Int := match l[tabK l r]? with
 | some t => if t.r = r ∧ t.ready then some t.since else none
 | none => none
def znn (l : List Td) (client time : Int) : List Td := l.filter fun t => decide (t.r.client ≠ client) || decide (time < t.r.time)
abbrev NSt := Ns × Nt
def repM (id client time res : Int) : Ms := ⟨10, id, 0, client, time, res, [], [], [], []⟩
def ze6 (p : NSt) (client time res : Int) : NSt := match sealP p.2 (repM p.1.id client time res) with
 | (none, l') => (p.1, l')
 | (some b, l') => ({ p.1 with out := p.1.out ++ [(100 + client, b)] }, l')
def noIn : In := ⟨1, 0, 1, 0, false, []⟩
def insAt (s : Ns) (k : Nat) : In := s.ins.getD k noIn
def zff (s : Ns) (k : Nat) (st : In) : Ns := { s with ins := s.ins.set k st }
def gaugeS (k : Nat) (t : Int) (s : Ns) : Ns := if 0 ≤ t ∧ t ≤ 1048576 then { s with mt := s.mt.modify k fun z => (z.1 + 1, z.2 + t) } else s
def zka (k : Nat) (s : Ns) (r : Rq) : Ns := match zc4 s.tab r with
 | some t => gaugeS k (s.now - t) s
 | none => s
def zon (k : Nat) (s : Ns) (rs : List Rq) : Ns := rs.foldl (zka k) s
def za3 (st : List (Bool × Int)) (r : Rq) : Int × List (Bool × Int) :=
 if r.key < 0 ∨ 64 ≤ r.key ∨ r.val ≤ -2147483648 ∨ 2147483648 ≤ r.val then (0, st) else
 let was := (st.getD r.key.toNat (false, 0)).2
 if r.kind = 1 then (was, st.set r.key.toNat (true, r.val)) else
 if r.kind = 2 then (was, st) else
 if r.kind = 3 then (if ¬ (-2147483648 < was + r.val ∧ was + r.val < 2147483648) then (was, st) else (was + r.val, st.set r.key.toNat (true, was + r.val))) else
 if r.kind = 4 then (was, st.set r.key.toNat (false, 0)) else
 if r.kind = 5 then ((st.map Prod.snd).sum, st) else (0, st)
def lastL (b : Lp) (c : Int) : Int := if 0 ≤ c ∧ c < b.rp.length then (b.rp.getD c.toNat (0, 0)).1 else 0
def stepL (b : Lp) (r : Rq) : Lp × List En :=
 if r.client < 0 ∨ b.clients ≤ r.client ∨ r.time ≤ lastL b r.client then (b, []) else
 let a := za3 b.st r
 ({ b with st := a.2, rp := b.rp.set r.client.toNat (r.time, a.1) }, [⟨r, a.1⟩])
def zbi (b : Lp) (rs : List Rq) : Lp × List En := rs.foldl (fun q r => ((stepL q.1 r).1, q.2 ++ (stepL q.1 r).2)) (b, [])
def runL (b : Lp) (rs : List Rq) : Lp × List En := let q := zbi b rs; ({ q.1 with es := b.es ++ q.2 }, q.2)
def ze0 (q : NSt) (e : En) : NSt := let q' := ze6 q e.rq.client e.rq.time e.res; ({ q'.1 with tab := znn q'.1.tab e.rq.client e.rq.time }, q'.2)
def zga (p : NSt) : NSt :=
 let s : Ns := { p.1 with run := p.1.run + 1 }
 let r := runL s.bk ((zau (insAt s 0) s.run).getD noCp).rs
 r.2.foldl ze0 ({ s with bk := r.1 }, p.2)
def runGo : Nat → NSt → NSt
 | 0, p => p
 | n + 1, p => if p.1.run < doneI (insAt p.1 0) then runGo n (zga p) else p
def doneS (k : Nat) (rs : List Rq) (p : NSt) : NSt :=
 let s := zon k p.1 rs
 if k ≠ 0 then (s, p.2) else
 let q := runGo 16 (s, p.2)
 if 16 ≤ q.1.run then ({ q.1 with stop := true }, q.2) else q
def noPa : Pa := ⟨0, [], [], 0⟩
def zbm (c : Cp) (p : NSt) : Int × NSt :=
 if !za1 p.2 5 c p.1.c.f p.1.c.cl then (3, p) else
 if !zc5 (insAt p.1 c.inst.toNat) c then (1, p) else
 (0, doneS c.inst.toNat c.rs (zff p.1 c.inst.toNat (zdk (insAt p.1 c.inst.toNat) c), p.2))
def zg1 (src : Int) (q : Int × NSt) : NSt :=
 let s := q.2.1
 (if q.1 = 0 then { s with used := s.used + 1 } else if q.1 = 1 then { s with stale := s.stale + 1 } else if q.1 = 2 then { s with full := s.full + 1 } else
  { s with gd := bumpP s.c.fl s.c.sh s.now src s.gd, bad := s.bad + 1 }, q.2.2)
section
variable {B : Nat} {w0 w W W' : World} {ss rs : List Res} {x : Np} {s s' : Ns} {l l' : Nt}
end
theorem Tryz.infoSd2 : (Tryz.prog.info? 62).map (fun i => (i.zero, i.size, i.bytes)) = some (some (.agg #[.int .i64 0, .slice none 0 0]), 2, 32) := by kernel_rfl
theorem zwu {l : Nt} {m : Ms} (h : NtOk l) (h1 : -9223372036854775808 ≤ m.fm) (h2 : m.fm ≤ 9223372036854775807) : NtOk (sealP l m).2 := by
 unfold sealP
 cases hb : bodyP m with
 | none => exact h
 | some b => exact zfc h (zek hb h1 h2)
theorem zi8 {l : Nt} {m : Ms} {e : Bys} (h : (sealP l m).1 = some e) : ∃ b, bodyP m = some b ∧ e = numB (sealN l m.fm b) ++ b ∧ e.length ≤ 65536 ∧ (sealP l m).2 = sealL l m.fm b ∧ numOk (sealN l m.fm b) = true := by
 unfold sealP at h ⊢
 cases hb : bodyP m with
 | none => rw [hb] at h; simp at h
 | some b =>
  rw [hb] at h
  simp only at h ⊢
  unfold envP at h
  split at h
  ·rename_i hc
   simp only [Bool.and_eq_true, decide_eq_true_eq] at hc
   simp only [Option.some.injEq] at h
   exact ⟨b, rfl, h.symm, by rw [← h, List.length_append]; exact hc.2, rfl, hc.1⟩
  ·simp at h
theorem zp6 {l : Nt} {m : Ms} {e : Bys} (h : (sealP l m).1 = some e) : ∀ c ∈ e, c < 256 := by
 obtain ⟨b, h1, h2, -, -, h3⟩ := zi8 h
 subst h2
 exact zay (zbc h3) (zey h1).1
theorem zq0 {l : Nt} {m : Ms} : (sealP l m).2.length ≤ l.length + 1 := by
 unfold sealP
 cases bodyP m with
 | none => simp
 | some b => simp only; unfold sealL; split <;> simp
section
variable {B : Nat} {w0 w W W' : World} {ss rs : List Res} {x : Np} {s s' : Ns} {l l' : Nt}
end
section
variable {B : Nat} {w0 w W W' : World} {ss rs : List Res} {x : Np} {s s' : Ns} {l l' : Nt} {m g cap : Nat} {z : List (Int × Int)}
end
theorem set_self {α : Type} (l : List α) (k : Nat) (h : k < l.length) : l.set k l[k] = l := by
 refine List.ext_getElem (by simp) (fun j h1 h2 => ?_)
 rw [List.getElem_set]
 split
 ·rename_i e; subst e; rfl
 ·rfl
section
variable {B : Nat} {w0 w W W' : World} {ss rs : List Res} {x : Np} {s s' : Ns} {l l' : Nt}
theorem NdIs.ask (h : NdIs B w0 W x s l ss) (k : Nat) (hk : k < s.ins.length) : ∃ i rr, x.is[k]? = some i ∧ AtI B w0 W i s.ins[k] (ss ++ rr) ∧ ∀ W' ss', AtI B w0 W' i s.ins[k] (ss' ++ rr) → NdIs B w0 W' x s l ss' := by
 obtain ⟨i, rr, h1, h2, h3⟩ := h.inst k hk
 refine ⟨i, rr, h1, h2, fun W' ss' ha => ?_⟩
 have := h3 W' s.ins[k] ss' (InKeep.refl _) ha
 rw [set_self] at this
 exact this
theorem NdIs.onSide {ss' : List Res} (h : NdIs B w0 W x s l ss) (f : ∀ r, Own B w0 W (ss ++ [r]) → Own B w0 W (ss' ++ [r])) : NdIs B w0 W x s l ss' := by
 obtain ⟨r, h1, h2⟩ := h.side
 exact h2 W ss' (f r h1)
theorem ai_len {i : Nat} {st : In} (h : AtI B w0 W i st ss) : st.l.length = 16 := by
 obtain ⟨y, rfl, rfl, h3⟩ := h
 simp [Ins.st, (own_ok h3).n]
end
section
variable {B : Nat} {w0 w W W' : World} {ss rs : List Res} {x : Np} {s s' : Ns} {l l' : Nt}
theorem zc3 (sz : Nat) (h : Own B w0 W rs) : Own B w0 W (redR (.slice none 0 0) sz 0 [] :: rs) := h.mkRed (.nil _ _ _)
end
section
variable {B : Nat} {w0 w W W' : World} {ss rs : List Res} {x : Np} {s s' : Ns} {l l' : Nt}
end
section
variable {B : Nat} {w0 w W W' : World} {ss rs : List Res} {x : Np} {s s' : Ns} {l l' : Nt}
theorem zd3 (s : Ns) (k : Nat) (hk : k < s.ins.length) : insAt s k = s.ins[k] := by unfold insAt; simp [List.getD, hk]
end
section
variable {B : Nat} {w0 w W W' : World} {ss rs : List Res} {x : Np} {s s' : Ns} {l l' : Nt}
end
section
variable {B : Nat} {w0 w W W' : World} {ss rs : List Res} {x : Np} {s s' : Ns} {l l' : Nt}
end
section
variable {B : Nat} {w0 w W W' : World} {ss rs : List Res} {x : Np} {s s' : Ns} {l l' : Nt}
theorem NdIs.putUsed (h : NdIs B w0 W x s l ss) (v : Int) (h0 : 0 ≤ v) : NdIs B w0 (W.setCell ⟨x.p, 35, none⟩ (.int .i64 v)) x { s with used := v } l ss := h.put 35 _ (fun _ => rfl) { h.ok with used0 := h0 } (fun _ c => { c with }) (fun _ => rfl)
theorem NdIs.putBad (h : NdIs B w0 W x s l ss) (v : Int) (h0 : 0 ≤ v) : NdIs B w0 (W.setCell ⟨x.p, 36, none⟩ (.int .i64 v)) x { s with bad := v } l ss := h.put 36 _ (fun _ => rfl) { h.ok with bad0 := h0 } (fun _ c => { c with }) (fun _ => rfl)
theorem NdIs.putStale (h : NdIs B w0 W x s l ss) (v : Int) (h0 : 0 ≤ v) : NdIs B w0 (W.setCell ⟨x.p, 37, none⟩ (.int .i64 v)) x { s with stale := v } l ss := h.put 37 _ (fun _ => rfl) { h.ok with stale0 := h0 } (fun _ c => { c with }) (fun _ => rfl)
theorem NdIs.putFull (h : NdIs B w0 W x s l ss) (v : Int) (h0 : 0 ≤ v) : NdIs B w0 (W.setCell ⟨x.p, 39, none⟩ (.int .i64 v)) x { s with full := v } l ss := h.put 39 _ (fun _ => rfl) { h.ok with full0 := h0 } (fun _ c => { c with }) (fun _ => rfl)
def TakeC (B : Nat) (w0 : World) (x : Np) (s : Ns) (l : Nt) (fn : FuncId) (m : Mm) (sl : Int) (fin : Int × NSt) : Prop :=
 ∀ W ss, NdIs B w0 W x s l (mmR m ss) → Calls Tryz.prog fn #[ptrV x.p, .agg (mmA m), .int .i64 sl] W fun e w' => e = .returned (.int .i64 fin.1) ∧ NdIs B w0 w' x fin.2.1 fin.2.2 (mmR m ss)
end
theorem zpl {m t c x : Int} (hm : 1 ≤ m) : ∀ {ps : List Peer}, (∀ q ∈ ps, 0 ≤ q.bad ∧ q.bad ≤ m) → ∀ q ∈ bumpP m t c x ps, 0 ≤ q.bad ∧ q.bad ≤ m
 | [], _, q, hq => by
  simp only [bumpP, List.mem_singleton] at hq
  subst hq
  simp only; omega
 | p :: ps, h, q, hq => by
  unfold bumpP at hq
  have hp := h p (by simp)
  split at hq
  ·simp only [List.mem_cons] at hq
   rcases hq with hq | hq
   ·split at hq <;> (subst hq; simp only; omega)
   ·exact h q (by simp [hq])
  ·simp only [List.mem_cons] at hq
   rcases hq with rfl | hq
   ·exact hp
   ·exact zpl hm (fun q hq => h q (by simp [hq])) q hq
section
variable {B : Nat} {w0 w W W' : World} {ss rs : List Res} {x : Np} {s s' : Ns} {l l' : Nt}
abbrev NoAt (p nt f : Nat) (cl : Int) (w : World) : Prop := w.cell? ⟨p, 0, none⟩ = some (.int .i64 f) ∧ w.cell? ⟨p, 1, none⟩ = some (.int .i64 cl) ∧ w.cell? ⟨p, 16, none⟩ = some (ptrV nt)
theorem NdIs.noAt (h : NdIs B w0 W x s l ss) : NoAt x.p x.nt s.c.f s.c.cl W := ⟨h.cell 0 rfl (by decide), h.cell 1 rfl (by decide), h.cell 16 rfl (by decide)⟩
theorem zgo {p nt f : Nat} {cl : Int} {o : Obj} (h : NoAt p nt f cl w) : NoAt p nt f cl (w.alloc o) := ⟨zaf h.1, zaf h.2.1, zaf h.2.2⟩
theorem zt1 {p nt f : Nat} {cl : Int} {o : Obj} (h : NoAt p nt f cl w.drew) : NoAt p nt f cl (w.alloc o).drew := zgo (w := w) h
theorem zrq {m : Mm} (h : NdIs B w0 W x s l (mmR m ss)) : ∃ (kind fm view inst seq res : Int) (a1 : Option Addr) (rs : List Rq) (c1 : Nat) (a2 : Option Addr) (vs : Vs) (c2 : Nat) (a3 : Option Addr) (cts : List Ct) (c3 : Nat) (a4 : Option Addr) (pts : List Pt) (c4 : Nat),
  m = ⟨kind, fm, view, inst, seq, res, .slice a1 rs.length c1, rs, .slice a2 vs.length c2, vs, .slice a3 cts.length c3, cts, .slice a4 pts.length c4, pts⟩ := by
 obtain ⟨kind, fm, view, inst, seq, res, vb, rs, vv, vs, vc, cts, vp, pts⟩ := m
 obtain ⟨r0, hs0, -⟩ := h.side
 obtain ⟨a1, c1, rfl⟩ : ∃ a c, vb = .slice a rs.length c := let ⟨a, c, e, _⟩ := zad (k := 5) hs0 rfl; ⟨a, c, e⟩
 obtain ⟨a2, c2, rfl⟩ : ∃ a c, vv = .slice a vs.length c := let ⟨a, c, e, _⟩ := zad (k := 4) hs0 rfl; ⟨a, c, e⟩
 obtain ⟨a3, c3, rfl⟩ : ∃ a c, vc = .slice a cts.length c := let ⟨a, c, e, _⟩ := zad (k := 2) hs0 rfl; ⟨a, c, e⟩
 obtain ⟨a4, c4, rfl⟩ : ∃ a c, vp = .slice a pts.length c := let ⟨a, c, e, _⟩ := zad (k := 0) hs0 rfl; ⟨a, c, e⟩
 exact ⟨kind, fm, view, inst, seq, res, a1, rs, c1, a2, vs, c2, a3, cts, c3, a4, pts, c4, rfl⟩
theorem zxv {m : Mm} {q : Nat} {T : TypeId} {c0  c1  c2  c3  c4  c5  c6  c7  c8  c9 v0  v1  v2  v3  v4  v5  v6  v7  v8  v9 : Value} (h : NdIs B w0 W x s l (mmR m (blk q (.cells #[c0, c1, c2, c3, c4, c5, c6, c7, c8, c9] T (0, 0)) :: ss))) : NdIs B w0 ((((((((((W.setCell ⟨q, 0, none⟩ v0).setCell ⟨q, 1, none⟩ v1).setCell ⟨q, 2, none⟩ v2).setCell ⟨q, 3, none⟩ v3).setCell ⟨q, 4, none⟩ v4).setCell ⟨q, 5, none⟩ v5).setCell ⟨q, 6, none⟩ v6).setCell ⟨q, 7, none⟩ v7).setCell ⟨q, 8, none⟩ v8).setCell ⟨q, 9, none⟩ v9) x s l (mmR m (blk q (.cells #[v0, v1, v2, v3, v4, v5, v6, v7, v8, v9] T (0, 0)) :: ss)) := by
 have h1 : NdIs B w0 W x s l (blk q (.cells #[c0, c1, c2, c3, c4, c5, c6, c7, c8, c9] T (0, 0)) :: mmR m ss) := h.perm ((List.perm_append_comm (l₁ := [_, _, _, _, _, _]) (l₂ := [_])).append_right ss)
 obtain ⟨r, hs, hk⟩ := h1.side
 have h2 := hk _ (blk q (.cells #[v0, v1, v2, v3, v4, v5, v6, v7, v8, v9] T (0, 0)) :: mmR m ss) (zck hs)
 exact h2.perm ((List.perm_append_comm (l₁ := [_]) (l₂ := [_, _, _, _, _, _])).append_right ss)
theorem zpx {m : Mm} (h : NdIs B w0 W x s l (mmR m ss)) : NdIs B w0 W x s l ss := h.drop.drop.drop.drop.drop.drop
theorem zet {bv : Value} {bs : Bys} {m : Ms} {sl : Int} (h : NdIs B w0 W x s l ss) (hb : RdOk w0 B bv bs ss) (ho : openP l s.c.f s.c.cl bs = some (m, sl)) :
  Calls Tryz.prog 27 #[bv, .int .i64 s.c.f, .int .i64 s.c.cl, ptrV x.nt] W fun e w' => ∃ mm : Mm, e = .returned (.tuple #[.agg (mmA mm), .int .i64 sl, .int .i64 0]) ∧ mm.ms = m ∧ MsOk m ∧ NdIs B w0 w' x s l (mmR mm ss) := by
 have hok := h.ok.c
 obtain ⟨r, hs, hk⟩ := h.sideN
 have hnt : NtIn (blk x.nt (noB x.nm) :: ntR x.nm l :: (ss ++ [r])) x.nt x.nm l := ⟨by simp, by simp⟩
 have := open_any (f := s.c.f) (cl := s.c.cl) hok.f1 hok.f2 hok.cl1 hok.cl2 hs (hb.sub (fun q hq => by simp [hq])) hnt h.nok
 rw [ho] at this
 refine this.mono ?_
 rintro e w' ⟨mm, he, h1, h2, h3⟩
 refine ⟨mm, he, h1, h2, hk w' l (mmR mm ss) h.nok ?_⟩
 exact h3.perm ((List.perm_append_comm (l₁ := [_, _, _, _, _, _]) (l₂ := [_, _])).append_right _)
theorem zqk {src sl : Int} {bv : Value} {bs : Bys} {m : Ms} {v : Int} {p : NSt} (h : NdIs B w0 W x s l ss) (hb : RdOk w0 B bv bs ss) (hst : s.stop = false) (hg : s.gd.length ≤ 1000) (hsh : shutP s.gd src s.now = false) (ho : openP l s.c.f s.c.cl bs = some (m, sl))
  (HT : ∀ mm : Mm, mm.ms = m → TakeC B w0 x s l 98 mm sl (v, p)) (hv : v = 0 ∨ v = 1 ∨ v = 2 ∨ v = 3) (hfg : p.1.gd.length ≤ 1000)
  (hu : p.1.used ≤ 1000000000000) (hbd : p.1.bad ≤ 1000000000000) (hsl : p.1.stale ≤ 1000000000000) (hfu : p.1.full ≤ 1000000000000) :
  Calls Tryz.prog 34 #[ptrV x.p, .int .i64 src, bv] W fun e w' => e = .returned (.tuple #[]) ∧ NdIs B w0 w' x (zg1 src (v, p)).1 (zg1 src (v, p)).2 ss := by
 have HN := Lib.hid (zwn h.drew)
 have HS := Lib.hid (nd_shut h.drew src s.now hg)
 rw [hsh] at HS
 have H := Lib.hid h
 have HB := Lib.hid hb
 have HO := Lib.hid ho
 have HTT := Lib.hid HT
 obtain ⟨ao, cap, rfl, -, -⟩ := hb.f
 have c17 := h.drew.cell 17 rfl (by decide)
 have c21 := h.drew.cell 21 rfl (by decide)
 have c33 : W.drew.cell? ⟨x.p, 33, none⟩ = some (.bool false) := by have := h.drew.cell 33 rfl (by decide); rw [hst] at this; exact this
 clear h hst hsh hb ho HT
 go_enter Tryz.func34, Tryz.ntmps34
 go_upto_region 0 with fail
 refine Held.wp_held [(x.p, 33, [.bool false]), (x.p, 21, [ptrV x.gd]), (x.p, 17, [ptrV x.t])] [(3, 0), (8, 1), (13, 2)] [15] [(15, true), (1, false)] (by kernel_rfl) (by kernel_rfl) ⟨⟨c33, trivial⟩, ⟨c21, trivial⟩, ⟨c17, trivial⟩, trivial⟩ ?_
 simp only [Held.cutAt, Held.walk, List.take_succ_cons, List.take_zero, List.drop_succ_cons, List.drop_zero]
 go_wp2_with fail
 refine HN.out.mono ?_
 rintro e w' ⟨rfl, rfl⟩
 go_wp2_with fail
 refine ⟨⟨⟨c33, trivial⟩, ⟨c21, trivial⟩, ⟨c17, trivial⟩, trivial⟩, ?_⟩
 go_wp2_with fail
 refine HS.out.mono ?_
 rintro e w1 ⟨rfl, hu1⟩
 have H1 := Lib.hid (H.out.drew.upd0 hu1)
 clear hu1 HS HN H
 go_wp2_with fail
 refine ⟨trivial, ?_⟩
 go_wp2_with fail
 refine ⟨trivial, by rfl, ⟨⟨rfl, .inl ⟨by kernel_rfl, rfl⟩⟩, ⟨rfl, .inl ⟨by kernel_rfl, rfl⟩⟩, ⟨rfl, .inl ⟨by kernel_rfl, rfl⟩⟩, trivial⟩, ?_⟩
 clear c17 c21 c33
 have d0 : NoAt x.p x.nt s.c.f s.c.cl w1.drew := H1.out.drew.noAt
 have HP1 := Lib.hid (zet H1.out.drew HB.out HO.out)
 have HP2 := Lib.hid (zet (H1.out.box (.cells #[.int .i64 0, .int .i64 0, .int .i64 0, .int .i64 0, .int .i64 0, .int .i64 0, .slice none 0 0, .slice none 0 0, .slice none 0 0, .slice none 0 0] 47 (0, 0))).drew (HB.out.sub (fun q hq => by simp [hq])) HO.out)
 go_upto_region 3 with fail
 go_region_held3 (fun w' => NoAt x.p x.nt s.c.f s.c.cl w')
  (first | (with_reducible exact d0) | (with_reducible exact e0) | (with_reducible exact zgo d0) | (with_reducible exact zgo e0) | (with_reducible exact e1) | (with_reducible exact zt1 d0) | (with_reducible exact zt1 e0))
  (first | (go_at_call 27; refine HP1.out.mono ?_; rintro e w3 ⟨mm, rfl, hmm, -, h3⟩; have e0 := h3.noAt; obtain ⟨kind, fm, view, inst, seq, res, a1, rs, c1, a2, vs, c2, a3, cts, c3, a4, pts, c4, rfl⟩ := zrq h3; have H3 := Lib.hid h3; clear h3) | (go_at_call 27; refine HP2.out.mono ?_; rintro e w3 ⟨mm, rfl, hmm, -, h3⟩; have e0 := h3.noAt; obtain ⟨kind, fm, view, inst, seq, res, a1, rs, c1, a2, vs, c2, a3, cts, c3, a4, pts, c4, rfl⟩ := zrq h3; have H3 := Lib.hid h3; clear h3; obtain ⟨r3, hs3, -⟩ := H3.out.side; have b0 := hs3.blkAt 6 rfl; have x0 := zaa b0 0 rfl; have z0 := zab b0 0; have x1 := zaa b0 1 rfl; have z1 := zab b0 1; have x2 := zaa b0 2 rfl; have z2 := zab b0 2; have x3 := zaa b0 3 rfl; have z3 := zab b0 3; have x4 := zaa b0 4 rfl; have z4 := zab b0 4; have x5 := zaa b0 5 rfl; have z5 := zab b0 5; have x6 := zaa b0 6 rfl; have z6 := zab b0 6; have x7 := zaa b0 7 rfl; have z7 := zab b0 7; have x8 := zaa b0 8 rfl; have z8 := zab b0 8; have x9 := zaa b0 9 rfl; have z9 := zab b0 9; have H4 := Lib.hid (zxv (v0 := .int .i64 kind) (v1 := .int .i64 fm) (v2 := .int .i64 view) (v3 := .int .i64 inst) (v4 := .int .i64 seq) (v5 := .int .i64 res) (v6 := .slice a1 rs.length c1) (v7 := .slice a2 vs.length c2) (v8 := .slice a3 cts.length c3) (v9 := .slice a4 pts.length c4) H3.out); have e1 := H4.out.noAt; clear b0 hs3))
 ·have HZ : Hid (NdIs B w0 (w3.alloc (mmO ⟨kind, fm, view, inst, seq, res, .slice a1 rs.length c1, rs, .slice a2 vs.length c2, vs, .slice a3 cts.length c3, cts, .slice a4 pts.length c4, pts⟩)) x s l (mmR ⟨kind, fm, view, inst, seq, res, .slice a1 rs.length c1, rs, .slice a2 vs.length c2, vs, .slice a3 cts.length c3, cts, .slice a4 pts.length c4, pts⟩ (blk w3.heap.size (mmO ⟨kind, fm, view, inst, seq, res, .slice a1 rs.length c1, rs, .slice a2 vs.length c2, vs, .slice a3 cts.length c3, cts, .slice a4 pts.length c4, pts⟩) :: ss))) := Lib.hid ((H3.out.box (mmO ⟨kind, fm, view, inst, seq, res, .slice a1 rs.length c1, rs, .slice a2 vs.length c2, vs, .slice a3 cts.length c3, cts, .slice a4 pts.length c4, pts⟩)).perm ((List.perm_append_comm (l₁ := [_]) (l₂ := [_, _, _, _, _, _])).append_right ss))
  clear H3 H1 d0 e0 HP1 HP2
  generalize World.alloc w3 _ = y at *
  generalize w3.heap.size = q at *
  obtain ⟨rq, hsq, -⟩ := HZ.out.side
  have hbq := hsq.blkAt 6 rfl
  have y0 := zaa hbq 0 rfl
  have y1 := zaa hbq 1 rfl
  have y2 := zaa hbq 2 rfl
  have y3 := zaa hbq 3 rfl
  have y4 := zaa hbq 4 rfl
  have y5 := zaa hbq 5 rfl
  have y6 := zaa hbq 6 rfl
  have y7 := zaa hbq 7 rfl
  have y8 := zaa hbq 8 rfl
  have y9 := zaa hbq 9 rfl
  have HTK := Lib.hid (HTT.out ⟨kind, fm, view, inst, seq, res, .slice a1 rs.length c1, rs, .slice a2 vs.length c2, vs, .slice a3 cts.length c3, cts, .slice a4 pts.length c4, pts⟩ hmm y (blk q (mmO ⟨kind, fm, view, inst, seq, res, .slice a1 rs.length c1, rs, .slice a2 vs.length c2, vs, .slice a3 cts.length c3, cts, .slice a4 pts.length c4, pts⟩) :: ss) HZ.out)
  clear HZ hsq hbq HTT hmm
  go_wp2_with fail
  refine HTK.out.mono ?_
  rintro e w4 ⟨rfl, h4⟩
  have H5 : Hid (NdIs B w0 w4 x p.1 p.2 ss) := Lib.hid (zpx h4).drop
  clear h4 HTK
  have u0 := H5.out.ok.used0
  have b0 := H5.out.ok.bad0
  have s0 := H5.out.ok.stale0
  have f0 := H5.out.ok.full0
  clear y0 y1 y2 y3 y4 y5 y6 y7 y8 y9
  rcases hv with rfl | rfl | rfl | rfl
  ·have c35 := H5.out.cell 35 rfl (by decide)
   have z35 := H5.out.fz 35
   have HF := Lib.hid (H5.out.putUsed (p.1.used + 1) (by omega))
   clear H5 s0 f0 b0
   go_wp2_with fail
   refine bodyPost_end (results_none rfl _ _ _) rfl ?_
   exact ⟨rfl, HF.out⟩
  ·have c37 := H5.out.cell 37 rfl (by decide)
   have z37 := H5.out.fz 37
   have HF := Lib.hid (H5.out.putStale (p.1.stale + 1) (by omega))
   clear H5 u0 f0 b0
   go_wp2_with fail
   refine bodyPost_end (results_none rfl _ _ _) rfl ?_
   exact ⟨rfl, HF.out⟩
  ·have c39 := H5.out.cell 39 rfl (by decide)
   have z39 := H5.out.fz 39
   have HF := Lib.hid (H5.out.putFull (p.1.full + 1) (by omega))
   clear H5 s0 u0 b0
   go_wp2_with fail
   refine bodyPost_end (results_none rfl _ _ _) rfl ?_
   exact ⟨rfl, HF.out⟩
  ·have HN := Lib.hid (zwn H5.out.drew)
   have HG := Lib.hid (zxp H5.out.drew src p.1.now hfg (zpl H5.out.ok.c.fl1 H5.out.ok.gd))
   have c17 := H5.out.drew.cell 17 rfl (by decide)
   have c21 := H5.out.drew.cell 21 rfl (by decide)
   clear H5 u0 s0 f0
   go_wp2_with fail
   go_upto_region 7 with fail
   refine Held.wp_held [(x.p, 21, [ptrV x.gd]), (x.p, 17, [ptrV x.t])] [(3, 0), (8, 1)] [10] [(10, true), (1, false)] (by kernel_rfl) (by kernel_rfl) ⟨⟨c21, trivial⟩, ⟨c17, trivial⟩, trivial⟩ ?_
   simp only [Held.cutAt, Held.walk, List.take_succ_cons, List.take_zero, List.drop_succ_cons, List.drop_zero]
   go_wp2_with fail
   refine HN.out.mono ?_
   rintro e w' ⟨rfl, rfl⟩
   go_wp2_with fail
   refine ⟨⟨⟨c21, trivial⟩, ⟨c17, trivial⟩, trivial⟩, ?_⟩
   go_wp2_with fail
   refine HG.out.mono ?_
   rintro e w5 ⟨⟨rb, rfl⟩, h5⟩
   have H6 := Lib.hid h5
   clear h5 HN HG c17 c21
   go_wp2_with fail
   refine ⟨trivial, ?_⟩
   go_wp2_with fail
   refine ⟨trivial, by rfl, ⟨⟨rfl, .inl ⟨by kernel_rfl, rfl⟩⟩, ⟨rfl, .inl ⟨by kernel_rfl, rfl⟩⟩, trivial⟩, ?_⟩
   have c36 := H6.out.cell 36 rfl (by decide)
   have z36 := H6.out.fz 36
   have HF := Lib.hid (H6.out.putBad (p.1.bad + 1) (by omega))
   clear H6
   go_wp2_with fail
   refine bodyPost_end (results_none rfl _ _ _) rfl ?_
   exact ⟨rfl, HF.out⟩
 ·have HZ := H4
  clear H3 H4 H1 d0 e0 e1 HP1 HP2 x0 x1 x2 x3 x4 x5 x6 x7 x8 x9 z0 z1 z2 z3 z4 z5 z6 z7 z8 z9
  generalize World.setCell _ _ _ = y at *
  generalize w1.heap.size = q at *
  obtain ⟨rq, hsq, -⟩ := HZ.out.side
  have hbq := hsq.blkAt 6 rfl
  have y0 := zaa hbq 0 rfl
  have y1 := zaa hbq 1 rfl
  have y2 := zaa hbq 2 rfl
  have y3 := zaa hbq 3 rfl
  have y4 := zaa hbq 4 rfl
  have y5 := zaa hbq 5 rfl
  have y6 := zaa hbq 6 rfl
  have y7 := zaa hbq 7 rfl
  have y8 := zaa hbq 8 rfl
  have y9 := zaa hbq 9 rfl
  have HTK := Lib.hid (HTT.out ⟨kind, fm, view, inst, seq, res, .slice a1 rs.length c1, rs, .slice a2 vs.length c2, vs, .slice a3 cts.length c3, cts, .slice a4 pts.length c4, pts⟩ hmm y (blk q (mmO ⟨kind, fm, view, inst, seq, res, .slice a1 rs.length c1, rs, .slice a2 vs.length c2, vs, .slice a3 cts.length c3, cts, .slice a4 pts.length c4, pts⟩) :: ss) HZ.out)
  clear HZ hsq hbq HTT hmm
  go_wp2_with fail
  refine HTK.out.mono ?_
  rintro e w4 ⟨rfl, h4⟩
  have H5 : Hid (NdIs B w0 w4 x p.1 p.2 ss) := Lib.hid (zpx h4).drop
  clear h4 HTK
  have u0 := H5.out.ok.used0
  have b0 := H5.out.ok.bad0
  have s0 := H5.out.ok.stale0
  have f0 := H5.out.ok.full0
  clear y0 y1 y2 y3 y4 y5 y6 y7 y8 y9
  rcases hv with rfl | rfl | rfl | rfl
  ·have c35 := H5.out.cell 35 rfl (by decide)
   have z35 := H5.out.fz 35
   have HF := Lib.hid (H5.out.putUsed (p.1.used + 1) (by omega))
   clear H5 s0 f0 b0
   go_wp2_with fail
   refine bodyPost_end (results_none rfl _ _ _) rfl ?_
   exact ⟨rfl, HF.out⟩
  ·have c37 := H5.out.cell 37 rfl (by decide)
   have z37 := H5.out.fz 37
   have HF := Lib.hid (H5.out.putStale (p.1.stale + 1) (by omega))
   clear H5 u0 f0 b0
   go_wp2_with fail
   refine bodyPost_end (results_none rfl _ _ _) rfl ?_
   exact ⟨rfl, HF.out⟩
  ·have c39 := H5.out.cell 39 rfl (by decide)
   have z39 := H5.out.fz 39
   have HF := Lib.hid (H5.out.putFull (p.1.full + 1) (by omega))
   clear H5 s0 u0 b0
   go_wp2_with fail
   refine bodyPost_end (results_none rfl _ _ _) rfl ?_
   exact ⟨rfl, HF.out⟩
  ·have HN := Lib.hid (zwn H5.out.drew)
   have HG := Lib.hid (zxp H5.out.drew src p.1.now hfg (zpl H5.out.ok.c.fl1 H5.out.ok.gd))
   have c17 := H5.out.drew.cell 17 rfl (by decide)
   have c21 := H5.out.drew.cell 21 rfl (by decide)
   clear H5 u0 s0 f0
   go_wp2_with fail
   go_upto_region 7 with fail
   refine Held.wp_held [(x.p, 21, [ptrV x.gd]), (x.p, 17, [ptrV x.t])] [(3, 0), (8, 1)] [10] [(10, true), (1, false)] (by kernel_rfl) (by kernel_rfl) ⟨⟨c21, trivial⟩, ⟨c17, trivial⟩, trivial⟩ ?_
   simp only [Held.cutAt, Held.walk, List.take_succ_cons, List.take_zero, List.drop_succ_cons, List.drop_zero]
   go_wp2_with fail
   refine HN.out.mono ?_
   rintro e w' ⟨rfl, rfl⟩
   go_wp2_with fail
   refine ⟨⟨⟨c21, trivial⟩, ⟨c17, trivial⟩, trivial⟩, ?_⟩
   go_wp2_with fail
   refine HG.out.mono ?_
   rintro e w5 ⟨⟨rb, rfl⟩, h5⟩
   have H6 := Lib.hid h5
   clear h5 HN HG c17 c21
   go_wp2_with fail
   refine ⟨trivial, ?_⟩
   go_wp2_with fail
   refine ⟨trivial, by rfl, ⟨⟨rfl, .inl ⟨by kernel_rfl, rfl⟩⟩, ⟨rfl, .inl ⟨by kernel_rfl, rfl⟩⟩, trivial⟩, ?_⟩
   have c36 := H6.out.cell 36 rfl (by decide)
   have z36 := H6.out.fz 36
   have HF := Lib.hid (H6.out.putBad (p.1.bad + 1) (by omega))
   clear H6
   go_wp2_with fail
   refine bodyPost_end (results_none rfl _ _ _) rfl ?_
   exact ⟨rfl, HF.out⟩
end
end Go.Proofs.YtannckelmojkoaaGreat
