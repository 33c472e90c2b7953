/- Parts of the proof, one behind the other. -/
import Derived.Test.YtannckelmojkoaaGreatAdoB26
import Derived.Deep.LoopGhost
set_option maxHeartbeats 32000000
set_option maxRecDepth 100000
namespace Go.Proofs.YtannckelmojkoaaGreat
open Go.RowKit Go.Heap
abbrev nilMm (kind fm view inst seq res : Int) : Mm := ⟨kind, fm, view, inst, seq, res, .slice none 0 0, [], .slice none 0 0, [], .slice none 0 0, [], .slice none 0 0, []⟩
theorem zfz (s : Ns) (l : Nt) (c t r : Int) : ze6 (s, l) c t r = match sealP l (repM s.id c t r) with
 | (none, l') => (s, l')
 | (some b, l') => ({ s with out := s.out ++ [(100 + c, b)] }, l') := by unfold ze6; simp only; rfl
section
variable {B : Nat} {w0 w W W' : World} {ss rs : List Res} {x : Np} {s s' : Ns} {l l' : Nt}
theorem zsk (kind fm view inst seq res : Int) (h : Own B w0 W rs) : Own B w0 W (mmR (nilMm kind fm view inst seq res) rs) := by
 have h1 := zc3 2 (zc3 6 h)
 have h2 : Own B w0 W (ctsR [] :: _) := h1.mkCts (by simp)
 have h3 := zc3 5 h2
 have h4 : Own B w0 W (ptsR [] :: _) := h3.mkPts (by simp)
 exact zc3 4 h4
theorem zw3 (kind fm view inst seq res : Int) : MmOk (nilMm kind fm view inst seq res) := ⟨by simp, by simp, by simp, by simp⟩
theorem zqd {c t r : Int} (h : NdIs B w0 W x s l ss) (hc0 : 0 ≤ c) (hc1 : c ≤ 1000) (hn : l.length ≤ 900000000) (ho : s.out.length ≤ 900000000) :
  Calls Tryz.prog 233 #[ptrV x.p, .int .i64 c, .int .i64 t, .int .i64 r] W fun e w' => e = .returned (.tuple #[]) ∧ NdIs B w0 w' x (ze6 (s, l) c t r).1 (ze6 (s, l) c t r).2 ss := by
 obtain ⟨j0, hj, hy0, hy1, hy2⟩ := info_parts Tryz.infoSd2
 have hok := h.ok
 have hid0 := hok.id0
 have hid1 := hok.id1
 have hf2 := hok.c.f2
 have hcI : IntKind.i64.wrap (100 + c) = 100 + c := IntWalk.i64_in _ (by omega)
 obtain ⟨rr, hs, hback⟩ := h.drew.sideN
 have hs' := zsk 10 s.id 0 c t r hs
 have HSE := Lib.hid (zsr hs' (zw3 10 s.id 0 c t r) h.nok (by omega) (by show _ ≤ s.id; omega) (by show s.id ≤ _; omega))
 have HBK := Lib.hid hback
 have c1 := h.drew.cell 15 rfl (by decide)
 have c2 := h.drew.cell 16 rfl (by decide)
 have HS : Hid (ze6 (s, l) c t r = match sealP l (repM s.id c t r) with
  | (none, l') => (s, l')
  | (some b, l') => ({ s with out := s.out ++ [(100 + c, b)] }, l')) := Lib.hid (zfz s l c t r)
 have hms : (nilMm 10 s.id 0 c t r).ms = repM s.id c t r := rfl
 rw [hms] at HSE
 have HNK : Hid (NtOk (sealP l (repM s.id c t r)).2) := Lib.hid (zwu h.nok (by show _ ≤ s.id; omega) (by show s.id ≤ _; omega))
 have HSO : Hid (∀ e, (sealP l (repM s.id c t r)).1 = some e → (∀ c ∈ e, c < 256) ∧ e.length ≤ 65536) := Lib.hid (fun e he => ⟨zp6 he, (zi8 he).choose_spec.2.2.1⟩)
 generalize ze6 (s, l) c t r = fin at *
 generalize sealP l (repM s.id c t r) = sp at *
 obtain ⟨o, l2⟩ := sp
 simp only at HNK HSO HSE HS
 clear h hs hs' hback hms hok
 go_enter Tryz.func233, Tryz.ntmps233
 go_upto_region 0 with fail
 refine Mix.wp_text2 (by kernel_rfl) (by kernel_rfl) ?_
 go_wp2_with fail
 refine HSE.out.mono ?_
 rintro e w2 ⟨v2, rfl, h3⟩
 have H4 := Lib.hid (HBK.out w2 l2 (bysR v2 (bysO o) :: ss) HNK.out (
  zw8 (m := nilMm 10 s.id 0 c t r) (h3.rot'.perm ((List.perm_append_comm (l₁ := [_, _, _]) (l₂ := [_, _, _, _, _, _])).append_right _))))
 clear h3 HSE HBK c1 c2
 cases o with
 | none =>
  have e1 := HS.out
  simp only at e1
  subst e1
  have HF := Lib.hid H4.out.drop
  clear H4
  simp only [Option.isSome_none]
  go_wp2_with fail
  refine ⟨by rfl, ?_⟩
  go_wp2_with fail
  refine bodyPost_end (results_none rfl _ _ _) rfl ?_
  exact ⟨rfl, HF.out⟩
 | some eb =>
  obtain ⟨q2, q3⟩ := HSO.out eb rfl
  have HQ2 := Lib.hid q2
  have HQ3 := Lib.hid q3
  have e1 := HS.out
  simp only at e1
  subst e1
  clear HSO q2 q3 HS
  simp only [bysO, Option.getD_some] at H4
  obtain ⟨r4, hs4, -⟩ := H4.out.side
  obtain ⟨eo, ek, rfl, -, -⟩ := zao (k := 0) hs4 rfl
  clear hs4
  simp only [Option.isSome_some]
  go_wp2_with fail
  refine ⟨by rfl, ?_⟩
  obtain ⟨v, rr2, hvo, hO, hB⟩ := H4.out.outs
  obtain ⟨av, kv, hav⟩ := hvo.ov
  have HLO : Hid (v.os.length ≤ 900000100) := Lib.hid (by
   have h1 := congrArg List.length hvo.os
   rw [List.length_map] at h1
   omega)
  have HVS : Hid (v.os.map Sd.p = s.out) := Lib.hid hvo.os
  have HW := Lib.hid hB
  rw [hav] at hO
  obtain ⟨c34, z34⟩ := zag hO 0 rfl 34 rfl
  have HX := Lib.hid (hO.box (.cells #[.int .i64 (100 + c), .slice eo eb.length ek] 62 (0, 0)))
  have HN5 := Lib.hid (heap_alloc_new w2 (.cells #[.int .i64 (100 + c), .slice eo eb.length ek] 62 (0, 0)))
  clear hO hB hvo H4
  go_wp2_with (at_builtin; refine zba rfl (.tmp 31) (.tmp 36) 54 rfl 62 j0 (.agg #[.int .i64 0, .slice none 0 0]) 2 32 Tryz.underlying54 hj hy0 hy1 hy2 rfl (by decide) HX.out 2 (.slice av v.os.length kv) v.os.length (v.os.flatMap sdC) rfl rfl w2.heap.size #[.int .i64 (100 + c), .slice eo eb.length ek] 62 (0, 0) rfl HN5.out rfl (by simp [Value.oneCell']) (by have := HLO.out; unfold maxLen; omega) (by have := HLO.out; omega) ?_)
  intro g6 cap6 w6 h6
  have h7 : Own B w0 w6 (segR x.p 141 (nsC x s (.slice av v.os.length kv)) :: ownR 62 2 (.slice (some ⟨g6, 0, none⟩) (v.os.length + 1) cap6) (v.os.length + 1) (v.os.flatMap sdC ++ [.int .i64 (100 + c), .slice eo eb.length ek]) :: sdsR v.os :: ((bysR (.slice eo eb.length ek) eb :: ss) ++ rr2)) := h6.drop
  obtain ⟨f34, y34⟩ := zag h7 0 rfl 34 rfl
  have h8 : Own B w0 w6 (bysR (.slice eo eb.length ek) eb :: segR x.p 141 (nsC x s (.slice av v.os.length kv)) :: ownR 62 2 (.slice (some ⟨g6, 0, none⟩) (v.os.length + 1) cap6) (v.os.length + 1) (v.os.flatMap sdC ++ [.int .i64 (100 + c), .slice eo eb.length ek]) :: sdsR v.os :: (ss ++ rr2)) := h7.perm ((List.perm_append_comm (l₁ := [_, _, _]) (l₂ := [_])).append_right _)
  have h9 := h8.toRed.putAt 1 rfl 34 (.slice (some ⟨g6, 0, none⟩) (v.os.length + 1) cap6)
  have h10 : Own B w0 (w6.setCell ⟨x.p, 34, none⟩ (.slice (some ⟨g6, 0, none⟩) (v.os.length + 1) cap6)) (segR x.p 141 (nsC x s (.slice (some ⟨g6, 0, none⟩) (v.os ++ [(⟨100 + c, .slice eo eb.length ek, eb⟩ : Sd)]).length cap6)) :: ownR 62 2 (.slice (some ⟨g6, 0, none⟩) (v.os ++ [(⟨100 + c, .slice eo eb.length ek, eb⟩ : Sd)]).length cap6) (v.os ++ [(⟨100 + c, .slice eo eb.length ek, eb⟩ : Sd)]).length ((v.os ++ [(⟨100 + c, .slice eo eb.length ek, eb⟩ : Sd)]).flatMap sdC) :: sdsR (v.os ++ [(⟨100 + c, .slice eo eb.length ek, eb⟩ : Sd)]) :: (ss ++ rr2)) := by
   have g1 : Own B w0 _ (sdsR (v.os ++ [(⟨100 + c, .slice eo eb.length ek, eb⟩ : Sd)]) :: _) := h9.mkSds (fun d hd => by
    rcases List.mem_append.1 hd with hd | hd
    ·exact sds_fr h9 3 rfl d hd
    ·simp only [List.mem_singleton] at hd
     subst hd
     exact ⟨h9.redFr 0 rfl, HQ2.out, HQ3.out⟩)
   have g2 := ((g1.dropAt 1 (by simp)).dropAt 3 (by simp)).rot'
   simpa [List.length_append, List.flatMap_append, sdC] using g2
  have HF := Lib.hid (HW.out _ (.slice (some ⟨g6, 0, none⟩) (v.os ++ [(⟨100 + c, .slice eo eb.length ek, eb⟩ : Sd)]).length cap6) (v.os ++ [(⟨100 + c, .slice eo eb.length ek, eb⟩ : Sd)]) ss ⟨_, _, rfl⟩ h10)
  have HG : Hid ((v.os ++ [(⟨100 + c, .slice eo eb.length ek, eb⟩ : Sd)]).map Sd.p = s.out ++ [(100 + c, eb)]) := Lib.hid (by
   rw [List.map_append, HVS.out]
   rfl)
  clear h6 h7 h8 h9 h10 HX HN5 c34 z34
  rw [HG.out] at HF
  go_wp2_with fail
  refine bodyPost_end (results_none rfl _ _ _) rfl ?_
  exact ⟨rfl, HF.out⟩
end
section
variable {B : Nat} {w0 w W W' : World} {ss rs : List Res} {x : Np} {s s' : Ns} {l l' : Nt}
theorem nd_run {bv : Value} {bs : List Rq} (h : NdIs B w0 W x s l (batR bv bs :: ss)) (hb : bs.length ≤ 4) (hr : ((s.bk.es ++ (zbi s.bk bs).2).length : Int) ≤ 4 * s.run) :
  Calls Tryz.prog 271 #[ptrV x.bk, bv] W fun e w' => ∃ vo, e = .returned vo ∧ NdIs B w0 w' x { s with bk := (runL s.bk bs).1 } l (enR vo (runL s.bk bs).2 :: batR bv bs :: ss) := by
 obtain ⟨v, rr, c, d, g⟩ := h.lens 5 (by omega) (by omega)
 have hok := h.ok
 have hrun1 := hok.run1
 obtain ⟨n, hn⟩ : ∃ n : Nat, s.c.cl = n := ⟨s.c.cl.toNat, by have := hok.c.cl1; omega⟩
 have hlg := c.lg
 have hlo := c.lo
 have hlp := c.lp
 have hkc := hok.bkc
 have hkn := hok.bkn
 have hks := hok.bks
 have hkv := hok.bkv
 have hke := hok.bke
 rw [← hlg] at hr hkc hkn hks hkv hke
 have d1 : Own B w0 W (lgL v.lg ++ (batR bv bs :: (ss ++ rr))) := Own.open d
 generalize v.lg = y at hr hkc hkn hks hkv hke hlo hlp d1 hlg
 obtain ⟨p, sb, cb, gb, cap, lv, clients, es, st, rp⟩ := y
 simp only [Lg.lp] at hr hkc hkn hks hkv hke hlg
 simp only at hlp
 subst hlp
 rw [hn] at hkc hkn
 subst hkc
 have hcap := hlo.cap
 simp only at hcap
 have hes : es.length ≤ 64 := by omega
 have d2 : Own B w0 W (lgR x.bk sb cb gb cap n lv st rp es (batR bv bs :: (ss ++ rr))) := d1.perm ((List.perm_append_comm (l₁ := [_, _]) (l₂ := [_, _, _])).append_right _)
 have hlx : LxS n st rp := ⟨by rw [hkn]; simp, hks, hkv⟩
 refine (zwz (n := n) d2 hlx (by rw [← hlx.rl]; exact hcap.1) (by omega) (by omega)).mono ?_
 rintro e w' ⟨vo, lv', st', rp', he, hrun, hls, ho⟩
 rw [← hlg]
 rw [hrun]
 refine ⟨vo, he, g w' _ { v with lg := ⟨x.bk, sb, cb, gb, cap, lv', n, es ++ (zbi ⟨n, es, st, rp⟩ bs).2, st', rp'⟩ } (enR vo (zbi ⟨n, es, st, rp⟩ bs).2 :: batR bv bs :: ss) (joinR (lgL ⟨x.bk, sb, cb, gb, cap, lv', n, es ++ (zbi ⟨n, es, st, rp⟩ bs).2, st', rp'⟩)) { hok with bkc := ?_, bkn := ?_, bks := ?_, bkv := ?_, bke := ?_ } { c with lg := rfl, lo := ?_, lp := rfl } rfl (Own.shut ?_)⟩
 ·exact hn.symm
 ·show rp'.length = _
  rw [hn, hls.rl]; simp
 ·exact hls.sl
 ·exact hls.ok
 ·exact hr
 ·have h1 := hls.rl
  have h2 := hlx.rl
  have h3 := hlo.rp1
  have h4 := hlo.rp4
  simp only at h3 h4
  have h5 := hr
  exact ⟨hls.sl, by show 1 ≤ rp'.length; omega, by show rp'.length ≤ 4; omega, by show rp'.length ≤ cap ∧ cap ≤ maxLen; omega, by show (es ++ _).length ≤ 100000; omega⟩
 ·exact ho.perm ((List.perm_append_comm (l₁ := [_, _, _]) (l₂ := [_, _])).append_right _)
theorem nd_done (h : NdIs B w0 W x s l ss) (k : Nat) (hk : k < s.c.f + 1) {i : Nat} (hi : x.is[k]? = some i) : Calls Tryz.prog 156 #[ptrV i] W fun e w' => e = .returned (.int .i64 (doneI (insAt s k))) ∧ W = w' := by
 have hk' : k < s.ins.length := by rw [h.ok.ins]; exact hk
 obtain ⟨j, rr, hj, ha, -⟩ := h.ask k hk'
 rw [hi] at hj
 cases hj
 rw [zd3 s k hk']
 exact zt7 ha
theorem zgd (h : NdIs B w0 W x s l ss) (k : Nat) (hk : k < s.c.f + 1) {i : Nat} (hi : x.is[k]? = some i) (seq : Int) : Calls Tryz.prog 110 #[ptrV i, .int .i64 seq] W fun e w' => ∃ c : Ct, e = .returned (.tuple #[ctAgg c, .bool (zau (insAt s k) seq).isSome]) ∧ c.cp = (zau (insAt s k) seq).getD noCp ∧ (∃ a1 k1 a2 k2, c.vb = .slice a1 c.rs.length k1 ∧ c.vv = .slice a2 c.vs.length k2) ∧
  NdIs B w0 w' x s l (batR c.vb c.rs :: redR c.vv 2 c.vs.length (zan c.vs) :: ss) := by
 have hk' : k < s.ins.length := by rw [h.ok.ins]; exact hk
 obtain ⟨j, rr, hj, ha, g⟩ := h.ask k hk'
 rw [hi] at hj
 cases hj
 rw [zd3 s k hk']
 obtain ⟨y, h1, h2, h3⟩ := ha
 rw [← h2]
 refine (zfi h3 h1 seq).mono ?_
 rintro e w' ⟨c, he, hc, hn, hb, hv, n1, n2, x', e1, e2, e3⟩
 obtain ⟨b1, b2, b3, -⟩ := hb
 obtain ⟨v1, v2, v3, -⟩ := hv
 exact ⟨c, he, hc, ⟨_, _, _, _, b3, v3⟩, g w' (_ :: _ :: ss) ⟨x', e1, e2.trans h2, e3.swap.rot⟩⟩
end
theorem zux {p : NSt} (ht : p.1.tab = []) (e : En) : ∃ o l', ze0 p e = ({ p.1 with out := p.1.out ++ o }, l') ∧ o.length ≤ 1 ∧ l'.length ≤ p.2.length + 1 := by
 obtain ⟨s, l⟩ := p
 simp only at ht
 have hl := zq0 (l := l) (m := repM s.id e.rq.client e.rq.time e.res)
 unfold ze0
 simp only
 rw [zfz]
 generalize sealP l (repM s.id e.rq.client e.rq.time e.res) = sp at *
 obtain ⟨o, l2⟩ := sp
 have hd : ∀ c t, znn ([] : List Td) c t = [] := fun _ _ => rfl
 cases o with
 | none => exact ⟨[], l2, by simp only [List.append_nil]; rw [ht, hd, ← ht], by simp, hl⟩
 | some b => exact ⟨[_], l2, by simp only; rw [ht, hd, ← ht], by simp, hl⟩
theorem zla (p : NSt) (c t r : Int) : (ze6 p c t r).1.tab = p.1.tab := by
 obtain ⟨s, l⟩ := p
 rw [zfz]
 generalize sealP l (repM s.id c t r) = sp
 obtain ⟨o, l2⟩ := sp
 cases o <;> rfl
theorem zhg {p : NSt} (ht : p.1.tab = []) (e : En) : ze0 p e = ze6 p e.rq.client e.rq.time e.res := by
 unfold ze0
 simp only
 have h := zla p e.rq.client e.rq.time e.res
 rw [ht] at h
 generalize ze6 p e.rq.client e.rq.time e.res = q at *
 obtain ⟨s, l⟩ := q
 simp only at h ⊢
 rw [h]
 rw [show znn ([] : List Td) e.rq.client e.rq.time = [] from rfl, ← h]
theorem zhc {p : NSt} (ht : p.1.tab = []) : ∀ es : List En, ∃ o l', es.foldl ze0 p = ({ p.1 with out := p.1.out ++ o }, l') ∧ o.length ≤ es.length ∧ l'.length ≤ p.2.length + es.length := by
 intro es
 induction es generalizing p with
 | nil => exact ⟨[], p.2, by simp, by simp, by simp⟩
 | cons e es ih =>
  obtain ⟨o, l', h1, h2, h3⟩ := zux ht e
  obtain ⟨o2, l2, k1, k2, k3⟩ := ih (p := ze0 p e) (by rw [h1]; exact ht)
  rw [h1] at k1 k3
  simp only at k1 k3
  refine ⟨o ++ o2, l2, ?_, by rw [List.length_append, List.length_cons]; omega, by rw [List.length_cons]; omega⟩
  rw [List.foldl_cons, h1, k1, List.append_assoc]
theorem zlq {s : Ns} (ht : s.tab = []) (k : Nat) (rs : List Rq) : zon k s rs = s := by
 unfold zon
 induction rs with
 | nil => rfl
 | cons r rs ih =>
  rw [List.foldl_cons]
  rw [show zka k s r = s by unfold zka zc4; rw [ht]; rfl]
  exact ih
theorem zle (b : Lp) (rs : List Rq) : (zbi b rs).1.clients = b.clients ∧ ∀ e ∈ (zbi b rs).2, 0 ≤ e.rq.client ∧ e.rq.client < b.clients := by
 induction rs generalizing b with
 | nil => simp [zbi]
 | cons r rs ih =>
  rw [ze7]
  have h1 : (stepL b r).1.clients = b.clients ∧ ∀ e ∈ (stepL b r).2, 0 ≤ e.rq.client ∧ e.rq.client < b.clients := by
   unfold stepL
   split
   ·simp
   ·refine ⟨rfl, fun e he => ?_⟩
    simp only [List.mem_singleton] at he
    subst he
    simp only
    omega
  obtain ⟨h2, h3⟩ := ih (stepL b r).1
  refine ⟨by simp only; rw [h2, h1.1], fun e he => ?_⟩
  simp only [List.mem_append] at he
  rcases he with he | he
  ·exact h1.2 e he
  ·have := h3 e he; rw [h1.1] at this; exact this
theorem zjc {n : Nat} {p : NSt} (h : ¬ p.1.run < doneI (insAt p.1 0)) : runGo n p = p := by
 cases n with
 | zero => rfl
 | succ n => unfold runGo; rw [if_neg h]
theorem zja {n : Nat} {p : NSt} (h : p.1.run < doneI (insAt p.1 0)) : runGo (n + 1) p = runGo n (zga p) := by
 conv => lhs; unfold runGo
 rw [if_pos h]
abbrev runC (s : Ns) : Cp := (zau (insAt s 0) (s.run + 1)).getD noCp
theorem zir (s : Ns) (l : Nt) : zga (s, l) = (runL s.bk (runC s).rs).2.foldl ze0 ({ s with run := s.run + 1, bk := (runL s.bk (runC s).rs).1 }, l) := by
 unfold zga
 rfl
section
variable {B : Nat} {w0 w W W' : World} {ss rs : List Res} {x : Np} {s s' : Ns} {l l' : Nt}
theorem zn6 {tb f : Nat} {cl : Int} {v : Value} (h : Own B w0 W (blk tb (tabOb f cl v) :: tdR v [] :: ss)) (c t : Int) :
  Calls Tryz.prog 272 #[ptrV tb, .int .i64 c, .int .i64 t] W fun e w' => e = .returned (.int .i64 0) ∧ Own B w0 w' (blk tb (tabOb f cl (.slice none 0 0)) :: tdR (.slice none 0 0) [] :: ss) := by
 obtain ⟨ao, cap, rfl⟩ := zcn (zak (h.get 1 rfl))
 have x2 : W.cell? ⟨tb, 2, none⟩ = some (.slice ao 0 cap) := zaa h.blk_out 2 rfl
 have z2 := zab h.blk_out 2
 have H1 : Hid (Own B w0 (W.setCell ⟨tb, 2, none⟩ (.slice none 0 0)) (blk tb (tabOb f cl (.slice none 0 0)) :: tdR (.slice none 0 0) [] :: ss)) := Lib.hid (by
  have h1 := (h.store 2 (.slice none 0 0)).swap.drop
  exact (h1.row0 (E := 314) (sz := 21)).swap)
 clear h
 go_enter Tryz.func272, Tryz.ntmps272
 go_wp2_with fail
 go_loopw [7, 16] (fun a i wr => a = .slice none 0 0 ∧ i = .int .i64 0 ∧ wr = W) (fun _ i _ => 0)
 case atStart => exact ⟨rfl, rfl, rfl⟩
 case round =>
  obtain ⟨rfl, rfl, rfl⟩ := hrel
  go_wp2_with fail
  go_ret
  exact ⟨rfl, H1.out⟩
theorem zp0 (h : NdIs B w0 W x s l ss) (ht : s.tab = []) (c t : Int) :
  Calls Tryz.prog 272 #[ptrV x.tb, .int .i64 c, .int .i64 t] W fun e w' => e = .returned (.int .i64 0) ∧ NdIs B w0 w' x s l ss := by
 obtain ⟨v, rr, cc, d, g⟩ := h.lens 2 (by omega) (by omega)
 have hok := h.ok
 have d1 : Own B w0 W (blk x.tb (tabOb s.c.f s.c.cl v.tv) :: tdR v.tv s.tab :: (ss ++ rr)) := Own.open d
 rw [ht] at d1
 refine (zn6 d1 c t).mono ?_
 rintro e w' ⟨he, ho⟩
 refine ⟨he, g w' s { v with tv := .slice none 0 0 } ss (joinR (tabL x.tb s.c.f s.c.cl (.slice none 0 0) s.tab)) hok { cc with } rfl (Own.shut (rs := tabL x.tb s.c.f s.c.cl (.slice none 0 0) s.tab) ?_)⟩
 rw [ht]
 exact ho
theorem NdIs.tbAt (h : NdIs B w0 W x s l ss) : ∃ v, TbAt W x.tb s.c.f s.c.cl v s.tab := by
 obtain ⟨v, rr, cc, d, -⟩ := h.lens 2 (by omega) (by omega)
 have hok := h.ok
 have d1 : Own B w0 W (blk x.tb (tabOb s.c.f s.c.cl v.tv) :: tdR v.tv s.tab :: (ss ++ rr)) := Own.open d
 refine ⟨v.tv, d1.blk_out, owns_reads (zak (d1.get 1 rfl)), fun t htm => ?_⟩
 have := (hok.tab.c t htm).2.2.1
 unfold tdC za5
 simp [this]
end
structure RunSt (s0 : Ns) (l0 : Nt) (m : Nat) (p : NSt) : Prop where
 go : runGo 16 (s0, l0) = runGo m p
 fuel : 16 ≤ (m : Int) + p.1.run
 tab : p.1.tab = []
 ln : (p.2.length : Int) ≤ 800000000 + 4 * p.1.run
 on : (p.1.out.length : Int) ≤ 800000000 + 4 * p.1.run
 c : p.1.c = s0.c
theorem zmy (s : Ns) (l : Nt) (ht : s.tab = []) : ∃ o l', zga (s, l) = ({ s with run := s.run + 1, bk := (runL s.bk (runC s).rs).1, out := s.out ++ o }, l') ∧ o.length ≤ (runC s).rs.length ∧ l'.length ≤ l.length + (runC s).rs.length := by
 rw [zir]
 obtain ⟨o, l', h1, h2, h3⟩ := zhc (p := ({ s with run := s.run + 1, bk := (runL s.bk (runC s).rs).1 }, l)) ht (runL s.bk (runC s).rs).2
 have h4 : (runL s.bk (runC s).rs).2.length ≤ (runC s).rs.length := zer _ _
 exact ⟨o, l', h1, by omega, by simp only at h3; omega⟩
theorem RunSt.step {s0 s : Ns} {l0 l : Nt} {m : Nat} (h : RunSt s0 l0 m (s, l)) (h0 : s.run < doneI (insAt s 0)) (h1 : s.run + 1 ≤ 16) (hb : (runC s).rs.length ≤ 4) : ∃ m', m = m' + 1 ∧ RunSt s0 l0 m' (zga (s, l)) := by
 obtain ⟨g1, g2, g3, g4, g5, g6⟩ := h
 simp only at g2 g3 g4 g5 g6
 obtain ⟨n, rfl⟩ : ∃ n, m = n + 1 := ⟨m - 1, by omega⟩
 obtain ⟨o, l', e1, e2, e3⟩ := zmy s l g3
 refine ⟨n, rfl, by rw [g1, zja h0], ?_, ?_, ?_, ?_, ?_⟩
 ·rw [e1]; simp only; omega
 ·rw [e1]; exact g3
 ·rw [e1]; simp only; omega
 ·rw [e1]; simp only [List.length_append]; omega
 ·rw [e1]; exact g6
theorem Own.five {B : Nat} {w0 W : World} {rs : List Res} {b : Nat} {T : TypeId} {c0 c1 c2 c3 c4 v0 v1 v2 v3 v4 : Value} (h : Own B w0 W (blk b (.cells #[c0, c1, c2, c3, c4] T (0, 0)) :: rs)) : Own B w0 (((((W.setCell ⟨b, 0, none⟩ v0).setCell ⟨b, 1, none⟩ v1).setCell ⟨b, 2, none⟩ v2).setCell ⟨b, 3, none⟩ v3).setCell ⟨b, 4, none⟩ v4) (blk b (.cells #[v0, v1, v2, v3, v4] T (0, 0)) :: rs) := (Own.storeTo (Own.storeTo (Own.storeTo (Own.storeTo (Own.storeTo h 0 v0 rfl) 1 v1 rfl) 2 v2 rfl) 3 v3 rfl) 4 v4 rfl)
abbrev InAt (p ib ic f i : Nat) (run : Int) (w : World) : Prop := w.cell? ⟨p, 18, none⟩ = some (slI ib (f + 1) ic) ∧ w.cell? ⟨ib, 0, none⟩ = some (ptrV i) ∧ w.cell? ⟨p, 28, none⟩ = some (.int .i64 run)
theorem zgz {p ib ic f i : Nat} {run : Int} {o : Obj} {w : World} (h : InAt p ib ic f i run w) : InAt p ib ic f i run (w.alloc o) := ⟨zaf h.1, zaf h.2.1, zaf h.2.2⟩
theorem ztp {p ib ic f i : Nat} {run : Int} {o : Obj} {w : World} (h : InAt p ib ic f i run w.drew) : InAt p ib ic f i run (w.alloc o).drew := zgz (w := w) h
theorem zro {p ib ic f i e : Nat} {run : Int} {v0 v1 v2 v3 v4 : Value} {w : World} (h1 : p ≠ e) (h2 : ib ≠ e) (h : InAt p ib ic f i run w) : InAt p ib ic f i run (((((w.setCell ⟨e, 0, none⟩ v0).setCell ⟨e, 1, none⟩ v1).setCell ⟨e, 2, none⟩ v2).setCell ⟨e, 3, none⟩ v3).setCell ⟨e, 4, none⟩ v4) := by
 have g : ∀ (b j : Nat) (v : Value), b ≠ e → w.cell? ⟨b, j, none⟩ = some v → (((((w.setCell ⟨e, 0, none⟩ v0).setCell ⟨e, 1, none⟩ v1).setCell ⟨e, 2, none⟩ v2).setCell ⟨e, 3, none⟩ v3).setCell ⟨e, 4, none⟩ v4).cell? ⟨b, j, none⟩ = some v := fun b j v hb hc => (World.cell?_of_block (by rw [zcg hb, zcg hb, zcg hb, zcg hb, zcg hb])).trans hc
 exact ⟨g _ _ _ h1 h.1, g _ _ _ h2 h.2.1, g _ _ _ h1 h.2.2⟩
section
variable {B : Nat} {w0 w W W' : World} {ss rs : List Res} {x : Np} {s s' : Ns} {l l' : Nt}
theorem NdIs.inAt (h : NdIs B w0 W x s l ss) {i : Nat} (hi : x.is[0]? = some i) : InAt x.p x.ib x.ic s.c.f i s.run W := ⟨h.cell 18 rfl (by decide), h.instAt 0 hi, h.cell 28 rfl (by decide)⟩
theorem nd_five {q : Nat} {T : TypeId} {c0 c1 c2 c3 c4 v0 v1 v2 v3 v4 : Value} (h : NdIs B w0 W x s l (blk q (.cells #[c0, c1, c2, c3, c4] T (0, 0)) :: ss)) : NdIs B w0 (((((W.setCell ⟨q, 0, none⟩ v0).setCell ⟨q, 1, none⟩ v1).setCell ⟨q, 2, none⟩ v2).setCell ⟨q, 3, none⟩ v3).setCell ⟨q, 4, none⟩ v4) x s l (blk q (.cells #[v0, v1, v2, v3, v4] T (0, 0)) :: ss) := by
 obtain ⟨r, hs, hk⟩ := h.side
 exact hk _ (_ :: ss) (Own.five hs)
theorem NdIs.putRun (h : NdIs B w0 W x s l ss) (v : Int) (h0 : s.run ≤ v) (h1 : v ≤ 16) : NdIs B w0 (W.setCell ⟨x.p, 28, none⟩ (.int .i64 v)) x { s with run := v } l ss := h.put 28 _ (fun _ => rfl) { h.ok with run0 := by have := h.ok.run0; show 0 ≤ v; omega, run1 := h1, bke := by have := h.ok.bke; show (s.bk.es.length : Int) ≤ 4 * v; omega } (fun _ c => { c with }) (fun _ => rfl)
theorem NdIs.putStop (h : NdIs B w0 W x s l ss) (v : Bool) : NdIs B w0 (W.setCell ⟨x.p, 33, none⟩ (.bool v)) x { s with stop := v } l ss := h.put 33 _ (fun _ => rfl) { h.ok with } (fun _ c => { c with }) (fun _ => rfl)
theorem NdIs.insLen (h : NdIs B w0 W x s l ss) : (insAt s 0).l.length = 16 := by
 have hk' : 0 < s.ins.length := by rw [h.ok.ins]; omega
 obtain ⟨j, rr, hj, ha, -⟩ := h.ask 0 hk'
 rw [zd3 s 0 hk']
 exact ai_len ha
theorem NdIs.runSm (h : NdIs B w0 W x s l ss) : (runC s).rs.length ≤ 4 := by
 have hk' : 0 < s.ins.length := by rw [h.ok.ins]; omega
 have hsm := (h.ok.insk 0 hk').2.2.2
 unfold runC zau
 rw [zd3 s 0 hk']
 cases hp : plAt s.ins[0] (s.run + 1) with
 | none => simp [noCp]
 | some p =>
  have := (sm_at hsm hp).dw
  simp only
  cases p.done with
  | true => simpa using this
  | false => simp [noCp]
theorem zk2 {k : Nat} {ao : Option Addr} {bcap : Nat} {bs : List Rq} (h : NdIs B w0 W x s l (batR (.slice ao bs.length bcap) bs :: ss)) (ht : s.tab = []) (hk : k < s.c.f + 1) (hb : bs.length ≤ 1000) (hn : l.length ≤ 800000000) (ho : s.out.length ≤ 800000000) :
  Calls Tryz.prog 241 #[ptrV x.p, .int .i64 k, .slice ao bs.length bcap] W fun e w' => e = .returned (.tuple #[]) ∧ NdIs B w0 w' x (doneS k bs (s, l)).1 (doneS k bs (s, l)).2 (batR (.slice ao bs.length bcap) bs :: ss) := by
 obtain ⟨fin, hfin⟩ : ∃ fin, fin = doneS k bs (s, l) := ⟨_, rfl⟩
 have HFIN : Hid (fin = if k ≠ 0 then (s, l) else if 16 ≤ (runGo 16 (s, l)).1.run then ({ (runGo 16 (s, l)).1 with stop := true }, (runGo 16 (s, l)).2) else runGo 16 (s, l)) := Lib.hid (by rw [hfin]; unfold doneS; simp only; rw [zlq ht])
 rw [← hfin]
 have HR0 : Hid (RunSt s l 16 (s, l)) := Lib.hid ⟨rfl, by have := h.ok.run0; simp only; omega, ht, by have := h.ok.run0; simp only; omega, by have := h.ok.run0; simp only; omega, rfl⟩
 have HSN : Hid (∀ r, zc4 s.tab r = none) := Lib.hid (fun r => by rw [ht]; rfl)
 have H0 := Lib.hid h
 have hf2 := h.ok.c.f2
 have hbi : (bs.length : Int) ≤ 1000 := by omega
 clear h hfin ht
 go_enter Tryz.func241, Tryz.ntmps241
 go_upto_block 0 with fail
 go_cut [] (fun wx => Hid (NdIs B w0 wx x s l (batR (.slice ao bs.length bcap) bs :: ss)))
 case first =>
  go_wp2_with fail
  go_loopw [16] (fun n wr => ∃ j : Nat, j ≤ bs.length ∧ n = .int .i64 j ∧ Hid (NdIs B w0 wr x s l (batR (.slice ao bs.length bcap) bs :: ss))) (fun n _ => bs.length - (intOf n).toNat)
  case atStart => exact ⟨0, by omega, rfl, H0⟩
  case round =>
   clear H0
   obtain ⟨j, hj, rfl, H1⟩ := hrel
   by_cases hlt : j < bs.length
   ·have hjI : (j : Int) < (bs.length : Int) := by omega
    have hj0 : (0 : Int) ≤ (j : Int) := by omega
    obtain ⟨r0, hs, -⟩ := H1.out.side
    obtain ⟨ao', cap', hv', hbc, -, -, -, h5⟩ := zdq (hs.get 0 rfl)
    simp only [Value.slice.injEq] at hv'
    obtain ⟨rfl, -, rfl⟩ := hv'
    obtain ⟨b, o, rfl, hbs, hcs⟩ := h5 (by omega)
    obtain ⟨q0, q1, q2, q3, q4, q5⟩ := zbp hcs j bs[j] (by simp)
    have hbcI : (bs.length : Int) ≤ (bcap : Int) := by omega
    clear hcs h5 hbs hs hbc
    generalize bs[j] = r at *
    obtain ⟨client, time, kind, key, val, sl⟩ := r
    simp only at q0 q1 q2 q3 q4 q5
    have H2 := Lib.hid (H1.out.box (rqBox ⟨client, time, kind, key, val, sl⟩))
    go_upto_region 3 with fail
    generalize wr.heap.size = e0 at *
    generalize wr.alloc _ = w2 at *
    obtain ⟨r2, hs2, -⟩ := H2.out.drew.side
    obtain ⟨b0, b1, b2, b3, b4, b5⟩ := ze5 (hs2.blkAt 0 rfl)
    have c19 := H2.out.drew.cell 19 rfl (by decide)
    obtain ⟨tv, htb⟩ := H2.out.drew.tbAt
    have HS := Lib.hid (zmp htb (by have := (HR0.out).tab; simp only at this; rw [this]; simp) ⟨client, time, kind, key, val, sl⟩)
    rw [HSN.out] at HS
    clear q0 q1 q2 q3 q4 q5 hs2 htb H1
    refine Mix.wp_text2 (by kernel_rfl) (by kernel_rfl) ?_
    go_wp2_with fail
    refine HS.out.mono ?_
    rintro e w3 ⟨rfl, hu⟩
    have H3 := Lib.hid ((H2.out.drew.upd0 hu).drop)
    clear hu HS b0 b1 b2 b3 b4 b5 c19 H2
    go_wp2_with fail
    refine ⟨by rfl, ?_⟩
    go_wp2_with fail
    go_roundw
    case rel => exact ⟨j + 1, by omega, by go_num, H3⟩
    case measure => simp [intOf]; omega
   ·have hjI : decide ((j : Int) < (bs.length : Int)) = false := by simp; omega
    go_wp2_with fail
    go_meet
    exact H1
 case rest =>
  clear H0
  have H1 := hcut
  clear hcut
  by_cases hk0 : k = 0
  ·subst hk0
   have e1 : fin = if 16 ≤ (runGo 16 (s, l)).1.run then ({ (runGo 16 (s, l)).1 with stop := true }, (runGo 16 (s, l)).2) else runGo 16 (s, l) := by rw [HFIN.out, if_neg (by simp)]
   have HF1 := Lib.hid e1
   clear e1 HFIN
   go_wp2_with fail
   go_loopg [] 16 (fun m wr => ∃ p : NSt, Hid (RunSt s l m p) ∧ (0 ≤ p.1.run ∧ p.1.run ≤ 16) ∧ Hid (NdIs B w0 wr x p.1 p.2 (batR (.slice ao bs.length bcap) bs :: ss)))
   case atStart => exact ⟨(s, l), HR0, ⟨H1.out.ok.run0, H1.out.ok.run1⟩, H1⟩
   case round =>
    clear H1 HR0
    obtain ⟨p, HR, hr, H1⟩ := hrel
    obtain ⟨s1, l1⟩ := p
    simp only at hr H1
    obtain ⟨hr0, hr1⟩ := hr
    obtain ⟨i, hi, -⟩ := H1.out.iAt (k := 0) (by omega)
    have HI := Lib.hid hi
    have HIA : Hid (∀ {s' : Ns} {l' : Nt} {ss' : List Res} {w' : World}, NdIs B w0 w' x s' l' ss' → w'.cell? ⟨x.ib, 0, none⟩ = some (ptrV i)) := Lib.hid (fun h => h.instAt 0 hi)
    have HD := Lib.hid (fun N => nd_done (H1.out.drewN N) 0 (by omega) hi)
    have hcap := H1.out.caps.1
    have HSM := Lib.hid H1.out.runSm
    have HBKE := Lib.hid H1.out.ok.bke
    have c28 := H1.out.cell 28 rfl (by decide)
    have c18 := H1.out.cell 18 rfl (by decide)
    have ci := HIA.out H1.out
    have hdl : doneI (insAt s1 0) ≤ 16 := Nat.le_trans done_le (by rw [H1.out.insLen]; omega)
    clear hi
    by_cases hlt : s1.run < doneI (insAt s1 0)
    ·have HLT := Lib.hid hlt
     have hd : decide (s1.run < (doneI (insAt s1 0) : Int)) = true := by simp [hlt]
     have hcI : (0 : Int) < (s1.c.f : Int) + 1 := by omega
     have hr15 : s1.run ≤ 15 := by omega
     clear hlt
     go_wp2_with fail
     go_quiet ((go_at_call 156; exact zbb (HD.out _)))
     have H2 := Lib.hid (H1.out.drewN nq)
     clear c28 c18 ci HD H1
     generalize wr.drewN nq = w2 at *
     have c28 := H2.out.cell 28 rfl (by decide)
     have z28 := H2.out.fz 28
     go_upto_region 10 with fail
     have H3 := Lib.hid (H2.out.putRun (s1.run + 1) (by omega) (by omega))
     clear c28 z28 H2
     generalize World.setCell _ _ _ = w3 at *
     obtain ⟨s2, hs2⟩ : ∃ s2 : Ns, s2 = { s1 with run := s1.run + 1 } := ⟨_, rfl⟩
     rw [← hs2] at H3
     have HS2 := Lib.hid hs2
     have hcf : s2.c.f = s1.c.f := by rw [hs2]
     have hrn : s2.run = s1.run + 1 := by rw [hs2]
     have HIS : Hid (insAt s2 0 = insAt s1 0) := Lib.hid (by rw [hs2]; rfl)
     have d0 : InAt x.p x.ib x.ic s1.c.f i (s1.run + 1) w3.drew := by have := H3.out.drew.inAt HI.out; rw [hcf, hrn] at this; exact this
     have hq1 : x.p ≠ w3.heap.size := Nat.ne_of_lt (World.block_lt_of_cell? _ _ d0.1)
     have hq2 : x.ib ≠ w3.heap.size := Nat.ne_of_lt (World.block_lt_of_cell? _ _ d0.2.1)
     clear hs2
     go_cut [10] (fun p10 wx => ∃ (e1 : Nat) (view inst seq : Int) (a1 : Option Addr) (k1 : Nat) (bt : List Rq) (a2 : Option Addr) (k2 : Nat) (vs : Vs), p10 = .pointer (some ⟨e1, 0, none⟩) ∧ Hid (bt = (runC s1).rs) ∧ Hid (NdIs B w0 wx x s2 l1 (blk e1 (ctO view inst seq (.slice a1 bt.length k1) (.slice a2 vs.length k2)) :: batR (.slice a1 bt.length k1) bt :: batR (.slice ao bs.length bcap) bs :: ss)))
     case first =>
      have HC1 := Lib.hid (zgd H3.out.drew 0 (by omega) HI.out (s1.run + 1))
      have HC2 := Lib.hid (zgd (H3.out.box (ctO 0 0 0 (.slice none 0 0) (.slice none 0 0))).drew 0 (by omega) HI.out (s1.run + 1))
      rw [HIS.out] at HC1 HC2
      go_region_held3 (fun w' => InAt x.p x.ib x.ic s1.c.f i (s1.run + 1) w')
       (first | (with_reducible exact d0) | (with_reducible exact e0) | (with_reducible exact zgz d0) | (with_reducible exact zgz e0) | (with_reducible exact e1) | (with_reducible exact ztp d0) | (with_reducible exact ztp e0) | (with_reducible exact zro hq1 hq2 e0))
       ((go_at_call 110; first
        | ((with_reducible refine HC1.out.mono ?_); rintro e w4 ⟨c, rfl, hc, ⟨a1, k1, a2, k2, hb1, hv1⟩, h4⟩; have e0 : InAt x.p x.ib x.ic s1.c.f i (s1.run + 1) w4 := (by have := h4.inAt HI.out; rw [hcf, hrn] at this; exact this); obtain ⟨view, inst, seq, vb, vv, bt, vs⟩ := c; simp only at hb1 hv1; subst hb1 hv1; have HCC := Lib.hid hc; have H4 := Lib.hid h4; clear h4 hc)
        | ((with_reducible refine HC2.out.mono ?_); rintro e w4 ⟨c, rfl, hc, ⟨a1, k1, a2, k2, hb1, hv1⟩, h4⟩; have e0 : InAt x.p x.ib x.ic s1.c.f i (s1.run + 1) w4 := (by have := h4.inAt HI.out; rw [hcf, hrn] at this; exact this); obtain ⟨view, inst, seq, vb, vv, bt, vs⟩ := c; simp only at hb1 hv1; subst hb1 hv1; have HCC := Lib.hid hc; have H4 := Lib.hid h4; obtain ⟨r3, hs3, -⟩ := h4.side; have b3 := hs3.blkAt 2 rfl; have x0 := zaa b3 0 rfl; have z0 := zab b3 0; have x1 := zaa b3 1 rfl; have z1 := zab b3 1; have x2 := zaa b3 2 rfl; have z2 := zab b3 2; have x3 := zaa b3 3 rfl; have z3 := zab b3 3; have x4 := zaa b3 4 rfl; have z4 := zab b3 4; clear h4 hc hs3 b3)))
      all_goals go_wp2_with fail
      all_goals go_meet
      ·exact ⟨_, view, inst, seq, a1, k1, bt, a2, k2, vs, rfl, Lib.hid (congrArg Cp.rs HCC.out), Lib.hid ((H4.out.box (ctO view inst seq (.slice a1 bt.length k1) (.slice a2 vs.length k2))).perm ((List.perm_append_comm (l₁ := [_, _]) (l₂ := [_])).append_right _)).drop⟩
      ·exact ⟨_, view, inst, seq, a1, k1, bt, a2, k2, vs, rfl, Lib.hid (congrArg Cp.rs HCC.out), Lib.hid ((nd_five (H4.out.perm ((List.perm_append_comm (l₁ := [_, _]) (l₂ := [_])).append_right _))).perm ((List.perm_append_comm (l₁ := [_, _]) (l₂ := [_])).append_right _)).drop⟩
     case rest =>
      clear d0 hq1 hq2 H3
      obtain ⟨e1, view, inst, seq, a1, k1, bt, a2, k2, vs, rfl, HBT, H4⟩ := hcut
      go_upto_region 11 with fail
      have hb4 : bt.length ≤ 4 := by
       rw [HBT.out]
       exact HSM.out
      have c22 := H4.out.drew.cell 22 rfl (by decide)
      obtain ⟨r5, hs5, -⟩ := H4.out.drew.side
      have y3 := zaa (hs5.blkAt 0 rfl) 3 rfl
      have hes : s2.bk.es = s1.bk.es ∧ s2.bk = s1.bk := by rw [HS2.out]; exact ⟨rfl, rfl⟩
      have HRN := Lib.hid (nd_run (H4.out.drew.perm (.swap _ _ _)) hb4 (by
       have h1 := zer s2.bk bt
       have h2 := HBKE.out
       rw [List.length_append, hes.1, hrn]
       omega))
      clear hs5
      refine Mix.wp_text2 (by kernel_rfl) (by kernel_rfl) ?_
      go_wp2_with fail
      refine HRN.out.mono ?_
      rintro e w5 ⟨vo, rfl, h5⟩
      have h6 := ((h5.perm ((List.perm_append_comm (l₁ := [_]) (l₂ := [_, _])).append_right _)).drop).drop
      obtain ⟨r6, hs6, -⟩ := h6.side
      obtain ⟨a6, k6, rfl⟩ := zcn (zak (hs6.get 0 rfl))
      have hel : (runL s2.bk bt).2.length ≤ 4 := Nat.le_trans (zer s2.bk bt) hb4
      have HCL : Hid (∀ e ∈ (runL s2.bk bt).2, 0 ≤ e.rq.client ∧ e.rq.client ≤ 1000) := Lib.hid (fun e he => by
       have h1 := (zle s2.bk bt).2 e he
       have h2 := h6.ok.bkc
       have h3 := h6.ok.c.cl2
       have h4 : (runL s2.bk bt).1.clients = s2.bk.clients := (zle s2.bk bt).1
       simp only at h2 h3
       rw [h4] at h2
       omega)
      have HT3 : Hid (s2.tab = []) := Lib.hid (by rw [HS2.out]; exact HR.out.tab)
      have HO3 : Hid (s2.out.length ≤ 800000064 ∧ l1.length ≤ 800000064) := Lib.hid (by
       have h1 := HR.out.on
       have h2 := HR.out.ln
       rw [HS2.out]
       simp only at h1 h2 ⊢
       omega)
      have HEND : Hid ((runL s2.bk bt).2.foldl ze0 (({ s2 with bk := (runL s2.bk bt).1 } : Ns), l1) = zga (s1, l1)) := Lib.hid (by
       rw [zir, HBT.out, HS2.out])
      have HSTP := Lib.hid (HR.out.step HLT.out (by omega) HSM.out)
      have H6 := Lib.hid h6
      have HS3 : Hid (∃ s3 : Ns, s3 = { s2 with bk := (runL s2.bk bt).1 }) := Lib.hid ⟨_, rfl⟩
      obtain ⟨s3, hs3⟩ := HS3.out
      rw [← hs3] at H6 HEND
      have ht3 : s3.tab = [] := by rw [hs3]; exact HT3.out
      have ho3 : s3.out.length ≤ 800000064 := by rw [hs3]; exact HO3.out.1
      have HT4 := Lib.hid ht3
      have HO4 := Lib.hid ho3
      generalize (runL s2.bk bt).2 = ens at *
      clear h5 h6 hs6 HRN H4 c22 y3 hes hs3 HS3 HT3 ht3 ho3 HBT HS2 HBKE HSM HLT HR HIS
      go_wp2_with fail
      refine ⟨by rfl, ?_⟩
      go_wp2_with fail
      go_loopw [87] (fun j wr => ∃ k : Nat, k ≤ ens.length ∧ j = .int .i64 k ∧ Hid (NdIs B w0 wr x ((ens.take k).foldl ze0 (s3, l1)).1 ((ens.take k).foldl ze0 (s3, l1)).2 (enR (.slice a6 ens.length k6) ens :: batR (.slice ao bs.length bcap) bs :: ss))) (fun j _ => ens.length - (intOf j).toNat)
      case atStart => exact ⟨0, by omega, rfl, H6⟩
      case round =>
       clear H6
       obtain ⟨k, hk, rfl, H7⟩ := hrel
       by_cases hlt : k < ens.length
       ·have hkI : (k : Int) < (ens.length : Int) := by omega
        have hk0 : (0 : Int) ≤ (k : Int) := by omega
        obtain ⟨o, l', hst, h2, h3⟩ := zhc (p := (s3, l1)) HT4.out (ens.take k)
        have htk : (ens.take (k + 1)).foldl ze0 (s3, l1) = ze0 ((ens.take k).foldl ze0 (s3, l1)) ens[k] := by
         rw [List.take_add_one, List.getElem?_eq_getElem hlt, List.foldl_append]; rfl
        have hce := HCL.out ens[k] (List.getElem_mem hlt)
        obtain ⟨r7, hs7, -⟩ := H7.out.side
        obtain ⟨ao', cap', hv', hkc, -, -, -, h5⟩ := ztv (l := ens) hs7 0 rfl
        simp only [Value.slice.injEq] at hv'
        obtain ⟨rfl, -, rfl⟩ := hv'
        obtain ⟨b, o', rfl, -, hcs⟩ := h5 (by omega)
        have hkc' : (ens.length : Int) ≤ (k6 : Int) := by omega
        have hln : (ens.take k).length ≤ 4 := by rw [List.length_take]; omega
        rw [hst] at htk H7
        simp only at htk H7 h3
        have hts : ({ s3 with out := s3.out ++ o } : Ns).tab = [] := HT4.out
        rw [zhg hts] at htk
        have hso : ({ s3 with out := s3.out ++ o } : Ns).out.length ≤ 900000000 := by have := HO4.out; simp only [List.length_append]; omega
        generalize ({ s3 with out := s3.out ++ o } : Ns) = s4 at *
        obtain ⟨q0, q1, q2, q3, q4, q5, q6⟩ := zr4 hcs k ens[k] (by simp)
        have hl' : l'.length ≤ 900000000 := by have := HO3.out.2; omega
        have HTK := Lib.hid htk
        generalize ens[k] = ek at *
        obtain ⟨⟨client, time, kind, key, val, sl⟩, res⟩ := ek
        simp only at q0 q1 q2 q3 q4 q5 q6 hce HTK
        have hbx := H7.out.box (enBox ⟨⟨client, time, kind, key, val, sl⟩, res⟩)
        have HRP := Lib.hid (zqd (c := client) (t := time) (r := res) hbx hce.1 hce.2 hl' hso)
        obtain ⟨r8, hs8, -⟩ := hbx.side
        obtain ⟨x0, x1, x2, x3, x4, x5, x6⟩ := zf6 (hs8.blkAt 0 rfl)
        have HT5 : Hid ((ze6 (s4, l') client time res).1.tab = []) := Lib.hid (by rw [zla]; exact hts)
        generalize ze6 (s4, l') client time res = p5 at *
        clear hst htk hs7 hcs h5 hbx hs8 hts hso hl' hln
        go_wp2_with fail
        refine HRP.out.mono ?_
        rintro e w8 ⟨rfl, h8⟩
        have H8 := Lib.hid h8
        generalize wr.heap.size = e0 at *
        obtain ⟨r9, hs9, -⟩ := h8.drew.side
        obtain ⟨y0, y1, -, -, -, -, -⟩ := zf6 (hs9.blkAt 0 rfl)
        have c19 := h8.drew.cell 19 rfl (by decide)
        have HDR := Lib.hid (zp0 h8.drew HT5.out client time)
        clear h8 hs9 HRP q0 q1 q2 q3 q4 q5 q6 x0 x1 x2 x3 x4 x5 x6 H7 H8
        go_upto_region 15 with fail
        refine Mix.wp_text2 (by kernel_rfl) (by kernel_rfl) ?_
        go_wp2_with fail
        refine HDR.out.mono ?_
        rintro e w10 ⟨rfl, h10⟩
        have H10 := Lib.hid h10.drop
        clear h10 HDR y0 y1 c19
        go_wp2_with fail
        refine ⟨by rfl, ?_⟩
        go_wp2_with fail
        go_roundw
        case rel => exact ⟨k + 1, by omega, by go_num, Lib.hid (by rw [HTK.out]; exact H10.out)⟩
        case measure => simp [intOf]; omega
       ·have hke : k = ens.length := by omega
        subst hke
        have hkI : decide ((ens.length : Int) < (ens.length : Int)) = false := by simp
        rw [List.take_length, HEND.out] at H7
        obtain ⟨m', hm', HR'⟩ := HSTP.out
        have HR2 := Lib.hid HR'
        have H8 := Lib.hid H7.out.drop
        have hrr : 0 ≤ (zga (s1, l1)).1.run ∧ (zga (s1, l1)).1.run ≤ 16 := ⟨H7.out.ok.run0, H7.out.ok.run1⟩
        have HRR := Lib.hid hrr
        have HM := Lib.hid hm'
        clear H7 HEND HSTP hm' HR' hrr
        generalize zga (s1, l1) = p' at *
        go_wp2_with fail
        go_roundg m'
        case measure => have := HM.out; omega
        case rel => exact ⟨p', HR2, HRR.out, H8⟩
    ·have hd : decide (s1.run < (doneI (insAt s1 0) : Int)) = false := by simp; omega
     have HNL := Lib.hid hlt
     clear hlt
     go_wp2_with fail
     go_quiet ((go_at_call 156; exact zbb (HD.out _)))
     have H2 := Lib.hid (H1.out.drewN nq)
     clear c28 c18 ci HD H1
     generalize wr.drewN nq = w2 at *
     have c28 := H2.out.cell 28 rfl (by decide)
     have c33 := H2.out.cell 33 rfl (by decide)
     have z33 := H2.out.fz 33
     have e2 : runGo 16 (s, l) = (s1, l1) := by rw [HR.out.go, zjc (p := (s1, l1)) (by have := HNL.out; simp only; omega)]
     have HE2 := Lib.hid e2
     clear e2 HNL HR
     by_cases h16 : 16 ≤ s1.run
     ·have HF : Hid (NdIs B w0 (w2.setCell ⟨x.p, 33, none⟩ (.bool true)) x fin.1 fin.2 (batR (.slice ao bs.length bcap) bs :: ss)) := Lib.hid (by
       rw [HF1.out, HE2.out, if_pos h16]
       exact H2.out.putStop true)
      have hd2 : decide (16 ≤ s1.run) = true := by simp [h16]
      clear HF1 HE2 h16
      go_wp2_with fail
      refine bodyPost_end (results_none rfl _ _ _) rfl ?_
      exact ⟨rfl, HF.out⟩
     ·have HF : Hid (NdIs B w0 w2 x fin.1 fin.2 (batR (.slice ao bs.length bcap) bs :: ss)) := Lib.hid (by
       rw [HF1.out, HE2.out, if_neg h16]
       exact H2.out)
      have hd2 : decide (16 ≤ s1.run) = false := by simp; omega
      clear HF1 HE2 h16
      go_wp2_with fail
      refine bodyPost_end (results_none rfl _ _ _) rfl ?_
      exact ⟨rfl, HF.out⟩
  ·have e1 : fin = (s, l) := by rw [HFIN.out, if_pos hk0]
   subst e1
   have hkb : ((k : Int) != 0) = true := by simp; omega
   clear hk0 HFIN
   go_wp2_with fail
   refine bodyPost_ret (v := .tuple #[]) (results_none rfl _ _ _) rfl ?_
   exact ⟨rfl, H1.out⟩
end
section
variable {B : Nat} {w0 w W W' : World} {ss rs : List Res} {x : Np} {s s' : Ns} {l l' : Nt}
theorem zue {st : In} {c : Cp} (h : zc5 st c = false) : zdk st c = st := by
 unfold zdk
 split
 ·rfl
 ·rw [h]; rfl
theorem zun {c : Ct} (h : NdIs B w0 W x s l ss) (k : Nat) (hk : k < s.c.f + 1) {i : Nat} (hi : x.is[k]? = some i) (hb : Bat W c.vb c.rs) (hbn : c.rs.length ≤ 4) (hv : Vts W c.vv c.vs) (hvn : c.vs.length ≤ 100000) :
  Calls Tryz.prog 240 #[ptrV i, ctAgg c] W fun e w' => e = .returned (.bool (zc5 (insAt s k) c.cp)) ∧ NdIs B w0 w' x (zff s k (zdk (insAt s k) c.cp)) l ss := by
 have hk' : k < s.ins.length := by rw [h.ok.ins]; exact hk
 obtain ⟨j, rr, hj, ha, g⟩ := h.inst k hk'
 rw [hi] at hj
 cases hj
 rw [zd3 s k hk']
 refine (zwp ha c hb (by omega) hv hvn).mono ?_
 rintro e w' ⟨he, h2⟩
 exact ⟨he, g w' _ ss (znh hbn) h2⟩
theorem NdIs.noAd {k : Nat} {c : Cp} (h : NdIs B w0 W x (zff s k (zdk (insAt s k) c)) l ss) (hn : zc5 (insAt s k) c = false) (hk : k < s.ins.length) : NdIs B w0 W x s l ss := by
 rw [zue hn, zd3 s k hk] at h
 unfold zff at h
 rw [set_self] at h
 exact h
theorem zp7 {c : Ct} (h : NdIs B w0 W x s l (batR c.vb c.rs :: redR c.vv 2 c.vs.length (zan c.vs) :: ss)) (ht : s.tab = []) (hc : CtW W c) (hn : l.length ≤ 800000000) (ho : s.out.length ≤ 800000000) :
  Calls Tryz.prog 182 #[ptrV x.p, ctAgg c] W fun e w' => e = .returned (.int .i64 (zbm c.cp (s, l)).1) ∧ NdIs B w0 w' x (zbm c.cp (s, l)).2.1 (zbm c.cp (s, l)).2.2 (batR c.vb c.rs :: redR c.vv 2 c.vs.length (zan c.vs) :: ss) := by
 obtain ⟨⟨a1, k1, e1⟩, a2, k2, e2⟩ := hc.slices
 have hok := h.ok.c
 obtain ⟨fin, hfin⟩ : ∃ fin, fin = zbm c.cp (s, l) := ⟨_, rfl⟩
 have HFIN : Hid (fin = if !za1 l 5 c.cp s.c.f s.c.cl then (3, (s, l)) else if !zc5 (insAt s c.inst.toNat) c.cp then (1, (s, l)) else (0, doneS c.inst.toNat c.rs (zff s c.inst.toNat (zdk (insAt s c.inst.toNat) c.cp), l))) := Lib.hid hfin
 rw [← hfin]
 have H0 := Lib.hid (h.box (ctO c.view c.inst c.seq c.vb c.vv))
 have HUA : Upd [] W (W.alloc (ctO c.view c.inst c.seq c.vb c.vv)) := (Upd.refl [] W).alloc _
 have HC := Lib.hid (hc.upd (HUA.drew))
 have HCE := Lib.hid (zjd 5 (f := s.c.f) (cl := s.c.cl) H0.out.drew.ntAt h.nok hok.f1 hok.f2 hok.cl2 HC.out)
 obtain ⟨view, inst, seq, vb, vv, bs, vs⟩ := c
 simp only at e1 e2 h H0 HC HCE HFIN ⊢
 subst e1 e2
 have HUB : Hid (Bat W (.slice a1 bs.length k1) bs ∧ Vts W (.slice a2 vs.length k2) vs ∧ vs.length ≤ 100000) := Lib.hid ⟨hc.1, hc.2.2.1, hc.2.2.2⟩
 obtain ⟨r0, hs0, -⟩ := H0.out.drew.side
 have y0 := zaa (hs0.blkAt 0 rfl) 0 rfl
 have y1 := zaa (hs0.blkAt 0 rfl) 1 rfl
 have y2 := zaa (hs0.blkAt 0 rfl) 2 rfl
 have y3 := zaa (hs0.blkAt 0 rfl) 3 rfl
 have y4 := zaa (hs0.blkAt 0 rfl) 4 rfl
 have c0 := H0.out.drew.cell 0 rfl (by decide)
 have c1 := H0.out.drew.cell 1 rfl (by decide)
 have c16 := H0.out.drew.cell 16 rfl (by decide)
 have hb0 := heap_alloc_new W (ctO view inst seq (.slice a1 bs.length k1) (.slice a2 vs.length k2))
 clear h hs0 hfin hc hok HUA
 go_enter Tryz.func182, Tryz.ntmps182
 go_upto_region 1 with fail
 refine Mix.wp_text2 (by kernel_rfl) (by kernel_rfl) ?_
 go_wp2_with fail
 refine HCE.out.mono ?_
 rintro e w1 ⟨rfl, hu1⟩
 have H1 := Lib.hid (H0.out.drew.upd0 hu1)
 have HUU : Hid (Upd [] W w1) := Lib.hid (((Upd.refl [] W).alloc _).drew.trans hu1)
 clear hu1 HCE c0 c1 c16 y0 y1 y2 y3 y4 H0 hb0
 cases hcf : za1 l 5 (Ct.cp ⟨view, inst, seq, .slice a1 bs.length k1, .slice a2 vs.length k2, bs, vs⟩) s.c.f s.c.cl with
 | false =>
  have e1 : fin = (3, (s, l)) := by rw [HFIN.out, hcf]; rfl
  subst e1
  have HF := Lib.hid H1.out.drop
  clear HFIN H1 hcf
  go_wp2_with fail
  refine ⟨by rfl, ?_⟩
  go_wp2_with fail
  go_ret
  exact ⟨rfl, HF.out⟩
 | true =>
  have hcf2 := hcf
  unfold za1 at hcf2
  simp only [Bool.and_eq_true, Ct.cp] at hcf2
  obtain ⟨hpl, hbt, -⟩ := hcf2
  have hb4 : bs.length ≤ 4 := by unfold zee at hbt; simp only [Bool.and_eq_true, decide_eq_true_eq] at hbt; omega
  have hi2 : 0 ≤ inst ∧ inst ≤ s.c.f := by unfold zbv inW at hpl; simp only [Bool.and_eq_true, decide_eq_true_eq] at hpl; omega
  obtain ⟨k, rfl⟩ : ∃ k : Nat, inst = k := ⟨inst.toNat, by omega⟩
  have hk : k < s.c.f + 1 := by omega
  rw [hcf] at HFIN
  simp only [Bool.not_true, Bool.false_eq_true, if_false, Int.toNat_natCast] at HFIN
  clear hcf hpl hbt hi2
  obtain ⟨i, hi, -⟩ := H1.out.iAt hk
  have hki : k < s.ins.length := by rw [H1.out.ok.ins]; exact hk
  have hcap := H1.out.caps.1
  have hu : Upd [] W w1 := HUU.out
  have HAD := Lib.hid (zun (c := ⟨view, k, seq, .slice a1 bs.length k1, .slice a2 vs.length k2, bs, vs⟩) H1.out.drew k hk hi (HUB.out.1.upd (M := []) hu.drew (by simp)) hb4 (HUB.out.2.1.upd (M := []) hu.drew (by simp)) HUB.out.2.2)
  have HNO := Lib.hid (fun (w' : World) ss' (h : NdIs B w0 w' x (zff s k (zdk (insAt s k) (Ct.cp ⟨view, k, seq, .slice a1 bs.length k1, .slice a2 vs.length k2, bs, vs⟩))) l ss') hn => NdIs.noAd h hn hki)
  obtain ⟨r1, hs1, -⟩ := H1.out.drew.side
  have y0 := zaa (hs1.blkAt 0 rfl) 0 rfl
  have y1 := zaa (hs1.blkAt 0 rfl) 1 rfl
  have y2 := zaa (hs1.blkAt 0 rfl) 2 rfl
  have y3 := zaa (hs1.blkAt 0 rfl) 3 rfl
  have y4 := zaa (hs1.blkAt 0 rfl) 4 rfl
  have c18 := H1.out.drew.cell 18 rfl (by decide)
  have ci := H1.out.drew.instAt k hi
  have HTA : Hid (∀ st', (zff s k st').tab = []) := Lib.hid (fun _ => ht)
  have hkI : (k : Int) < (s.c.f : Int) + 1 := by omega
  have hk0 : (0 : Int) ≤ (k : Int) := by omega
  have hcI : (s.c.f : Int) + 1 ≤ (x.ic : Int) := by omega
  generalize hst : zdk (insAt s k) (Ct.cp ⟨view, k, seq, .slice a1 bs.length k1, .slice a2 vs.length k2, bs, vs⟩) = st' at *
  have hsc : (zff s k st').c = s.c := rfl
  have hso : (zff s k st').out = s.out := rfl
  clear hs1 hi hst hu hki H1
  go_wp2_with fail
  refine ⟨by rfl, ?_⟩
  go_upto_region 3 with fail
  refine Mix.wp_text2 (by kernel_rfl) (by kernel_rfl) ?_
  go_wp2_with fail
  refine HAD.out.mono ?_
  rintro e w2 ⟨rfl, h2⟩
  have H2 := Lib.hid h2
  clear h2 HAD y0 y1 y2 y3 y4 c18 ci
  cases hab : zc5 (insAt s k) (Ct.cp ⟨view, k, seq, .slice a1 bs.length k1, .slice a2 vs.length k2, bs, vs⟩) with
  | false =>
   have e1 : fin = (1, (s, l)) := by rw [HFIN.out, hab]; rfl
   subst e1
   have HF := Lib.hid (HNO.out _ _ H2.out hab).drop
   clear HFIN HNO hab H2 hsc hso
   go_wp2_with fail
   refine ⟨by rfl, ?_⟩
   go_wp2_with fail
   go_ret
   exact ⟨rfl, HF.out⟩
  | true =>
   have e1 : fin = (0, doneS k bs (zff s k st', l)) := by rw [HFIN.out, hab]; rfl
   obtain ⟨fin2, hf2⟩ : ∃ fin2, fin2 = doneS k bs (zff s k st', l) := ⟨_, rfl⟩
   rw [← hf2] at e1
   subst e1
   obtain ⟨r2, hs2, -⟩ := H2.out.side
   have y1 := zaa (hs2.blkAt 0 rfl) 1 rfl
   have y3 := zaa (hs2.blkAt 0 rfl) 3 rfl
   have HDN2 := Lib.hid (zk2 (H2.out.perm ((List.perm_append_comm (l₁ := [_]) (l₂ := [_, _])).append_right _)) (HTA.out st') (by rw [hsc]; exact hk) (by omega) hn (by rw [hso]; exact ho))
   rw [← hf2] at HDN2
   clear HFIN HNO hab hs2 hsc hso hf2 H2
   go_wp2_with fail
   refine ⟨by rfl, ?_⟩
   go_wp2_with fail
   refine HDN2.out.mono ?_
   rintro e w5 ⟨rfl, h5⟩
   have HF := Lib.hid ((h5.perm ((List.perm_append_comm (l₁ := [_, _]) (l₂ := [_])).append_right _)).drop)
   clear h5 HDN2 y1 y3
   go_wp2_with fail
   go_ret
   exact ⟨rfl, HF.out⟩
end
end Go.Proofs.YtannckelmojkoaaGreat
