/- Parts of the proof, one behind the other. -/
import Derived.Test.YtannckelmojkoaaGreatAgnB28
set_option maxHeartbeats 32000000
set_option maxRecDepth 100000
set_option linter.unusedVariables false
set_option linter.unusedSimpArgs false
namespace Go.Proofs.YtannckelmojkoaaGreat
open Go.RowKit Go.Heap
theorem zlf (l:List (List Int)) (k j:Nat) (v:Int):(setRow l k j v).length=l.length:=by simp [setRow]
theorem zlg {l:List (List Int)} {k j:Nat} {v:Int} {n:Nat} (h: ∀r∈l,r.length=n): ∀r∈setRow l k j v,r.length=n:=by
 intro r hr;unfold setRow at hr;obtain ⟨i,hi,rfl⟩:=List.getElem_of_mem hr;have hi:i<l.length:=by simpa using hi
 rw [List.getElem_modify];split
 ·rw [List.length_set];exact h _ (List.getElem_mem hi)
 ·exact h _ (List.getElem_mem hi)
theorem zuw {bs:List Nat} {l:List (List Int)} {k j:Nat} {v:Int} {c:Nat} (hk:k<l.length) (hb:bs[k]?=some c):(bs.zip l).set k (c,(l[k]).set j v)=bs.zip (setRow l k j v):=by
 obtain ⟨hb1,hb2⟩:=List.getElem?_eq_some_iff.1 hb;refine List.ext_getElem (by simp [setRow]) (fun i h1 h2=> ?_);unfold setRow at h2⊢;rw [List.getElem_set,List.getElem_zip,List.getElem_zip,List.getElem_modify];split
 ·rename_i e;subst e;rw [hb2]
 ·rfl
theorem zyz {B:Nat} {w0 W:World} {ss:List Res} {b:Nat} {bs:List Nat} {l:List (List Int)} (h:Own B w0 W (nrL b bs l++ss)) (hl:bs.length=l.length) (k:Nat) (hk:k<l.length):
  ∃c,bs[k]?=some c∧W.cell? ⟨b,k,none⟩=some (nrV c)∧(∀j,W.frozen? ⟨c,j,none⟩=false)∧(∀j (hj:j<l[k].length),W.cell? ⟨c,j,none⟩=some (.int .i64 l[k][j]))∧
   ∀j v,Own B w0 (W.setCell ⟨c,j,none⟩ (.int .i64 v)) (nrL b bs (setRow l k j v)++ss):=by
 have hkb:k<bs.length:=by omega
 have hkz:k<(bs.zip l).length:=by simp;omega
 have h1:Own B w0 W (nrR (bs.zip l)[k]::([segR b 69 (bs.map nrV)]++(((bs.zip l).eraseIdx k).map nrR++ss))):=Own.pick (hd:=[segR b 69 (bs.map nrV)]) (f:=nrR) (l:=bs.zip l) (ss:=ss) h k hkz;have e:(bs.zip l)[k]=(bs[k],l[k]):=by simp
 rw [e] at h1;obtain ⟨-,q2,q3⟩:=zd1 h1.head;refine ⟨bs[k],by simp [hkb],?_,q3,fun j hj=> ?_,fun j v=> ?_⟩
 ·have:=(zd1 (h.get 0 rfl)).2.1 k (by simp;omega)
  rw [this];simp [hkb]
 ·rw [q2 j (by simp [intC];exact hj)];simp [intC,hj]
 ·have h2:=h1.put j (.int .i64 v)
  have e2:(intC l[k]).set j (.int .i64 v)=intC (l[k].set j v):=by unfold intC;rw [List.map_set]
  rw [e2] at h2;have h3:=Own.unpick (hd:=[segR b 69 (bs.map nrV)]) (f:=nrR) (x:=(bs[k],l[k].set j v)) (ss:=ss) (l:=bs.zip l) k hkz h2;rw [zuw hk (by simp [hkb])] at h3;exact h3
section
variable {B:Nat} {w0 w W W':World} {ss rs:List Res} {x:Np} {s s':Ns} {l l':Nt} {k i:Nat} {vb:Value} {bs:List Rq}
theorem NdIs.comRow (h:NdIs B w0 W x s l ss) (hk:k<s.c.f+1): ∃c,W.cell? ⟨x.co,k,none⟩=some (nrV c)∧(∀j,W.frozen? ⟨c,j,none⟩=false)∧(∀j,j<17→W.cell? ⟨c,j,none⟩=some (.int .i64 (rowAt s.com k j)))∧
  ∀j v,NdIs B w0 (W.setCell ⟨c,j,none⟩ (.int .i64 v)) x {s with com:=setRow s.com k j v} l ss:=by
 have hok:=h.ok;obtain ⟨v,rr,c,d,g⟩:=h.lens 11 (by omega) (by omega);have hkl:k<s.com.length:=by rw [hok.com];exact hk
 obtain ⟨q,h1,h2,h3,h4,h5⟩:=zyz (Own.open (rs:=nrL x.co x.cos s.com) d) (by rw [c.cos,hok.com]) k hkl;have hlen:=hok.com2 _ (List.getElem_mem hkl);refine ⟨q,h2,h3,fun j hj=> ?_,fun j u=> ?_⟩
 ·rw [h4 j (by omega)]
  unfold rowAt;simp [List.getD_eq_getElem?_getD,hkl,hlen,hj]
 ·exact g _ {s with com:=setRow s.com k j u} v ss (joinR (nrL x.co x.cos (setRow s.com k j u))) {hok with com:=by simp only [zlf];exact hok.com,com2:=zlg hok.com2} {c with} rfl (Own.shut (rs:=nrL x.co x.cos (setRow s.com k j u)) (h5 j u))
theorem NdIs.preRow (h:NdIs B w0 W x s l ss) (hk:k<s.c.f+1): ∃c,W.cell? ⟨x.pr,k,none⟩=some (nrV c)∧(∀j,W.frozen? ⟨c,j,none⟩=false)∧(∀j,j<17→W.cell? ⟨c,j,none⟩=some (.int .i64 (rowAt s.pre k j)))∧
  ∀j v,NdIs B w0 (W.setCell ⟨c,j,none⟩ (.int .i64 v)) x {s with pre:=setRow s.pre k j v} l ss:=by
 have hok:=h.ok;obtain ⟨v,rr,c,d,g⟩:=h.lens 10 (by omega) (by omega);have hkl:k<s.pre.length:=by rw [hok.pre];exact hk
 obtain ⟨q,h1,h2,h3,h4,h5⟩:=zyz (Own.open (rs:=nrL x.pr x.prs s.pre) d) (by rw [c.prs,hok.pre]) k hkl;have hlen:=hok.pre2 _ (List.getElem_mem hkl);refine ⟨q,h2,h3,fun j hj=> ?_,fun j u=> ?_⟩
 ·rw [h4 j (by omega)]
  unfold rowAt;simp [List.getD_eq_getElem?_getD,hkl,hlen,hj]
 ·exact g _ {s with pre:=setRow s.pre k j u} v ss (joinR (nrL x.pr x.prs (setRow s.pre k j u))) {hok with pre:=by simp only [zlf];exact hok.pre,pre2:=zlg hok.pre2} {c with} rfl (Own.shut (rs:=nrL x.pr x.prs (setRow s.pre k j u)) (h5 j u))
abbrev batMm (kind view inst seq:Int) (v:Value) (rs:List Rq):Mm:=⟨kind,0,view,inst,seq,0,v,rs,.slice none 0 0,[],.slice none 0 0,[],.slice none 0 0,[]⟩
theorem zoc {kind view inst seq:Int} {v:Value} {bs:List Rq} (h:Own B w0 W (batR v bs::rs)):Own B w0 W (mmR (batMm kind view inst seq v bs) (batR v bs::rs)):=by
 have h0:Own B w0 W (redR v 6 bs.length (bs.flatMap zas)::batR v bs::rs):=h.copy (by rw [zq1];exact List.mem_cons_self) rfl;have h1:=zb3 2 h0;have h2:Own B w0 W (ctsR []::_):=h1.mkCts (by simp);have h3:=zb3 5 h2;have h4:Own B w0 W (ptsR []::_):=h3.mkPts (by simp);exact zb3 4 h4
theorem zmb {kind view inst seq:Int} {v:Value} {bs:List Rq} (hb:bs.length≤4):MmOk (batMm kind view inst seq v bs):=⟨by simp;omega,by simp,by simp,by simp⟩
theorem zii {a1:Option Addr} {c1:Nat} {kind seq:Int} (h:NdIs B w0 W x s l (batR (.slice a1 bs.length c1) bs::ss)) (hk:k<s.c.f+1) (hb:bs.length≤4) (hn:l.length≤900000000) (ho:s.out.length≤900000000):
  Calls Tryz.prog 221 #[ptrV x.p,.int .i64 kind,.int .i64 k,.int .i64 seq,.slice a1 bs.length c1] W fun e w'=>e= .returned (.tuple #[])∧NdIs B w0 w' x (zch kind k seq bs (s,l)).1 (zch kind k seq bs (s,l)).2 (batR (.slice a1 bs.length c1) bs::ss):=by
 have hcap:=h.caps.1;obtain ⟨i,hi,-⟩:=h.iAt hk;obtain ⟨fin,hfin⟩: ∃fin,fin=zch kind k seq bs (s,l):=⟨_,rfl⟩;have HFIN:Hid (fin=(zbc (sendS (s,l) (balM' kind s.view k seq bs)).1 k (voteI (insAt (sendS (s,l) (balM' kind s.view k seq bs)).1 k) kind seq (sendS (s,l) (balM' kind s.view k seq bs)).1.id (sendN (s,l) (balM' kind s.view k seq bs)) bs),(sendS (s,l) (balM' kind s.view k seq bs)).2)):=zq (by rw [hfin];rfl);rw [←hfin];have HSE:=zq (zgk (m:=batMm kind s.view k seq (.slice a1 bs.length c1) bs) (h.onSide (ss':=mmR (batMm kind s.view k seq (.slice a1 bs.length c1) bs) (batR (.slice a1 bs.length c1) bs::ss)) (fun r hr=>zoc (rs:=ss++[r]) hr)) (zmb hb) hn ho);have c29:=h.cell 29 rfl (by decide);rw [show (batMm kind s.view k seq (.slice a1 bs.length c1) bs).ms=balM' kind s.view k seq bs from rfl] at HSE;obtain ⟨o,hso,-,-⟩:=zfg (s,l) (balM' kind s.view k seq bs);generalize sendS (s,l) (balM' kind s.view k seq bs)=p1 at*;generalize sendN (s,l) (balM' kind s.view k seq bs)=sn at*;obtain ⟨s1,l1⟩:=p1;simp only [Prod.mk.injEq] at hso;have hcf:s1.c.f=s.c.f:=by rw [hso.1]
 simp only at HSE HFIN;have HI:=zq hi;have hk0:(0:Int)≤(k:Int):=by omega
 have hkI:(k:Int)<(s1.c.f:Int)+1:=by omega
 have hcI:(s1.c.f:Int)+1≤(x.ic:Int):=by omega
 clear h hfin hso hi;go_enter Tryz.func221,Tryz.ntmps221
 go_wp2_with fail
 refine HSE.out.mono ?_;rintro e w2 ⟨rfl,h2⟩;have h3:NdIs B w0 w2 x s1 l1 (batR (.slice a1 bs.length c1) bs::ss):=h2.drop.drop.drop.drop.drop.drop;have d18:=h3.drew.cell 18 rfl (by decide);have d15:=h3.drew.cell 15 rfl (by decide);have di:=h3.drew.instAt k HI.out;have HV:=zq (nd_vote h3.drew (by omega) HI.out hb kind seq s1.id sn);clear h2 h3 HSE c29
 go_upto_region 1 with fail
 refine Mix.wp_text2 (by kernel_rfl) (by kernel_rfl) ?_
 go_wp2_with fail
 with_reducible refine HV.out.mono ?_
 rintro e w4 ⟨rfl,h4⟩;have HF:Hid (NdIs B w0 w4 x fin.1 fin.2 (batR (.slice a1 bs.length c1) bs::ss)):=zq (by rw [HFIN.out];exact h4);clear h4 HV d18 d15 di HFIN
 go_wp2_with fail
 refine ⟨by rfl,?_⟩
 go_wp2_with fail
 refine bodyPost_end (results_none rfl _ _ _) rfl ?_;exact ⟨rfl,HF.out⟩
end
structure KeepN (a b:Ns):Prop where
 c:b.c=a.c
 id:b.id=a.id
 now:b.now=a.now
 vo:b.vo=a.vo
 gd:b.gd=a.gd
 pts:b.pts=a.pts
 view:b.view=a.view
 voted:b.voted=a.voted
 used:b.used=a.used
 bad:b.bad=a.bad
 stale:b.stale=a.stale
 shut:b.shut=a.shut
 full:b.full=a.full
theorem KeepN.refl (a:Ns):KeepN a a:=by constructor<;>rfl
theorem KeepN.trans {a b d:Ns} (h:KeepN a b) (g:KeepN b d):KeepN a d:=⟨g.c.trans h.c,g.id.trans h.id,g.now.trans h.now,g.vo.trans h.vo,g.gd.trans h.gd,g.pts.trans h.pts,g.view.trans h.view,g.voted.trans h.voted,g.used.trans h.used,g.bad.trans h.bad,g.stale.trans h.stale,g.shut.trans h.shut,g.full.trans h.full⟩
structure Grow (n:Nat) (p q:NSt):Prop where
 out:q.1.out.length≤p.1.out.length+n
 nt:q.2.length≤p.2.length+n
 k:KeepN p.1 q.1
theorem Grow.refl (p:NSt):Grow 0 p p:=⟨Nat.le_refl _,Nat.le_refl _,.refl _⟩
theorem Grow.trans {n m:Nat} {p q r:NSt} (h:Grow n p q) (g:Grow m q r):Grow (n+m) p r:=
 ⟨by have:=h.out;have:=g.out;omega,by have:=h.nt;have:=g.nt;omega,h.k.trans g.k⟩
theorem Grow.mono {n m:Nat} {p q:NSt} (h:Grow n p q) (hm:n≤m):Grow m p q:=⟨by have:=h.out;omega,by have:=h.nt;omega,h.k⟩
theorem zn2 (p:NSt) (m:Ms) (hf:p.1.c.f≤4):Grow 13 p (sendS p m):=by
 obtain ⟨o,e,h1,h2⟩:=zfg p m;refine ⟨?_,by omega,by rw [e];constructor<;>rfl⟩
 rw [e];simp only [List.length_append];omega
theorem zfp (kind:Int) (k:Nat) (seq:Int) (rs:List Rq) (p:NSt) (hf:p.1.c.f≤4):Grow 13 p (zch kind k seq rs p):=by
 obtain ⟨h1,h2,h3⟩:=zn2 p (balM' kind p.1.view k seq rs) hf;exact ⟨h1,h2,h3.trans (by constructor<;>rfl)⟩
theorem zpr (p:NSt) (h4:(runC p.1).rs.length≤4):Grow 4 p (zhs p):=by
 obtain ⟨s,l⟩:=p;obtain ⟨o,l',t',e,h1,h2⟩:=zht s l;simp only at h4;rw [e];exact ⟨by simp only [List.length_append];omega,by simp only;omega,by constructor<;>rfl⟩
theorem zp8 {st:In} {seq:Int} (h:prepI st seq=none):zbf st seq=st:=by
 unfold zbf;rw [h];split<;>simp_all
theorem zrk {st:In} {seq:Int} (h:commI st seq=none):zbg st seq=st:=by
 unfold zbg;rw [h];split<;>simp_all
theorem pl_seq {st:In} {seq:Int} {p:Pl} (h:plAt st seq=some p):1≤seq∧seq≤16:=by
 unfold plAt idx at h;split at h
 ·assumption
 ·simp at h
theorem prep_seq {st:In} {seq:Int} {c:Cp} (h:prepI st seq=some c):1≤seq∧seq≤16:=by
 unfold prepI at h;cases hp:plAt st seq with
 | none=>rw [hp] at h;simp at h
 | some p=>exact pl_seq hp
theorem zke {α:Type} (p:α→Bool) (g:α→α) (hg: ∀a,p (g a)=true): ∀(l:List α) (k:Nat) (a:α),l[k]?=some a→p a=false→l.countP p+1≤(l.modify k g).countP p
 | [],k,a,h,_=>by simp at h
 | b::l,0,a,h,ha=>by
  simp only [List.getElem?_cons_zero,Option.some.injEq] at h;subst h;simp only [List.modify_zero_cons,List.countP_cons,ha,hg];simp
 | b::l,k+1,a,h,ha=>by
  simp only [List.modify_succ_cons,List.countP_cons];have:=zke p g hg l k a (by simpa using h) ha;omega
theorem zrj {st:In} {seq:Int} {c:Cp} (h:commI st seq=some c):st.l.countP (·.done)+1≤(zbg st seq).l.countP (·.done):=by
 have h':=h;unfold commI at h';unfold zbg;cases hi:idx seq with
 | none=>unfold plAt at h';rw [hi] at h';simp at h'
 | some k=>
  rw [h];have hp:plAt st seq=st.l[k]?:=by unfold plAt;rw [hi];rfl
  rw [hp] at h';cases hq:st.l[k]? with
  | none=>rw [hq] at h';simp at h'
  | some p=>
   rw [hq] at h';simp only at h';split at h'
   ·simp at h'
   ·rename_i hd
    exact zke (·.done) (fun p=> {p with done:=true,dw:=c}) (fun _=>rfl) _ _ _ hq (by simpa using hd)
theorem ztz {s:Ns} {k:Nat} {st:In} (h:k<s.ins.length):insAt (zbc s k st) k=st:=by unfold insAt zbc;simp [List.getD_eq_getElem?_getD,h]
theorem zet {s:Ns} {k:Nat} (h:k<s.ins.length):zbc s k (insAt s k)=s:=by
 rw [zay s k h];unfold zbc;rw [set_self]
def look1 (k:Nat) (seq:Int) (p:NSt):NSt:=match prepI (insAt p.1 k) seq with
 | some c=>zch 5 k seq c.rs ({zbc p.1 k (zbf (insAt p.1 k) seq) with com:=setRow p.1.com k seq.toNat (p.1.view+1)},p.2)
 | none=>p
def look2 (k:Nat) (seq:Int) (p:NSt):NSt:=match commI (insAt p.1 k) seq with
 | some c=>doneS k c.rs (zbc p.1 k (zbg (insAt p.1 k) seq),p.2)
 | none=>p
theorem zsd (k:Nat) (seq:Int) (p:NSt):lookS k seq p=look2 k seq (look1 k seq p):=rfl
theorem zkk (k:Nat) (seq:Int) (p:NSt) (hf:p.1.c.f≤4):Grow 13 p (look1 k seq p):=by
 unfold look1;split
 ·have:=zfp 5 k seq (by assumption:Cp).rs ({zbc p.1 k (zbf (insAt p.1 k) seq) with com:=setRow p.1.com k seq.toNat (p.1.view+1)},p.2) hf
  exact ⟨this.out,this.nt,KeepN.trans (by constructor<;>rfl) this.k⟩
 ·exact (Grow.refl p).mono (by omega)
section
variable {B:Nat} {w0 w W W':World} {ss rs:List Res} {x:Np} {s s':Ns} {l l':Nt} {k i:Nat} {vb:Value} {bs:List Rq}
def CmtC (B:Nat) (w0:World) (x:Np):Prop:= ∀ {W:World} {s:Ns} {l:Nt} {k:Nat} {ao:Option Addr} {bcap:Nat} {bs:List Rq} {ss:List Res},NdIs B w0 W x s l (batR (.slice ao bs.length bcap) bs::ss)→k<s.c.f+1→bs.length≤4→(s.mt.getD k (0,0)).1+bs.length≤4*((s.ins.getD k noIn).l.countP (·.done):Nat)→l.length≤800000000→s.out.length≤800000000→
  Calls Tryz.prog 241 #[ptrV x.p,.int .i64 k,.slice ao bs.length bcap] W fun e w'=>e= .returned (.tuple #[])∧NdIs B w0 w' x (doneS k bs (s,l)).1 (doneS k bs (s,l)).2 (batR (.slice ao bs.length bcap) bs::ss)
theorem zsq {seq:Int} (HQ:commI (insAt (look1 k seq (s,l)).1 k) seq=none∨CmtC B w0 x) (h:NdIs B w0 W x s l ss) (hk:k<s.c.f+1) (hn:l.length≤700000000) (ho:s.out.length≤700000000):
  Calls Tryz.prog 222 #[ptrV x.p,.int .i64 k,.int .i64 seq] W fun e w'=>e= .returned (.tuple #[])∧NdIs B w0 w' x (lookS k seq (s,l)).1 (lookS k seq (s,l)).2 ss:=by
 have hcap:=h.caps;have hkc:=h.caps.2.2.2.2.1;have hki:k<s.ins.length:=by rw [h.ok.ins];exact hk
 obtain ⟨i,hi,-⟩:=h.iAt hk;have HI:=zq hi;have HSM:Hid (InSm (insAt s k)):=zq (by rw [zay s k hki];exact (h.ok.insk k hki).2.2.2);have HV:=zq (And.intro h.ok.view0 h.ok.view1);have HG:=zq (zkk k seq (s,l) h.ok.c.f2);rw [zsd];obtain ⟨p1,hp1⟩: ∃p1,p1=look1 k seq (s,l):=⟨_,rfl⟩;obtain ⟨fin,hfin⟩: ∃fin,fin=look2 k seq p1:=⟨_,rfl⟩;rw [←hp1] at HG HQ⊢;rw [←hfin];have HQ:=zq HQ;have HP1:=zq hp1;have HFIN:=zq hfin;have H0:=zq h;have c18:=h.cell 18 rfl (by decide);have ci:=h.instAt k hi;have HPR:=zq (zpz h hk hi seq);obtain ⟨ok,hok⟩: ∃ok,ok=(prepI (insAt s k) seq).isSome:=⟨_,rfl⟩;rw [←hok] at HPR;have HOK:=zq hok;clear hok;have hk0:(0:Int)≤(k:Int):=by omega
 have hkI:(k:Int)<(s.c.f:Int)+1:=by omega
 have hcI:(s.c.f:Int)+1≤(x.ic:Int):=by omega
 have hcK:(s.c.f:Int)+1≤(x.cok:Int):=by omega
 clear h hp1 hfin hi hcap;go_enter Tryz.func222,Tryz.ntmps222
 go_wp2_with fail
 with_reducible refine HPR.out.mono ?_
 rintro e w2 ⟨c,rfl,hc,h2⟩;obtain ⟨a1,k1,e1⟩:=hc.vb;obtain ⟨a2,k2,e2⟩:=hc.vv;have HCP:=zq hc.cp;have HCN:=zq hc.vn;clear hc HPR c18 ci;obtain ⟨view,inst,sq,vb,vv,bs,vs⟩:=c;simp only at e1 e2 HCN;subst e1 e2;have H3:=zq (h2.box (ctO view inst sq (.slice a1 bs.length k1) (.slice a2 vs.length k2)));clear h2
 go_upto_if 22 with fail
 generalize w2.heap.size=e0 at*;generalize w2.alloc _=w3 at*
 go_cut [] (fun wx=>Hid (NdIs B w0 wx x p1.1 p1.2 ss))
 case first=>
  cases ok with
  | false=>
   have hpr:prepI (insAt s k) seq=none:=by have:=HOK.out;cases h:prepI (insAt s k) seq with | none=>rfl | some c=>rw [h] at this;simp at this
   have HF:Hid (NdIs B w0 w3 x p1.1 p1.2 ss):=zq (by
    have h4:=H3.out.drop.drop.drop;rw [zp8 hpr,zet hki] at h4;rw [HP1.out];unfold look1;simp only;rw [hpr];exact h4)
   clear H3 HCP HP1 hpr HOK
   go_wp2_with fail
   go_meet
   exact HF
  | true=>
   obtain ⟨c0,hpr⟩: ∃c0,prepI (insAt s k) seq=some c0:=Option.isSome_iff_exists.1 HOK.out.symm;obtain ⟨q1,q2⟩:=prep_seq hpr;obtain ⟨sn,hsn⟩: ∃sn:Nat,seq=sn:=⟨seq.toNat,by omega⟩;have hrs:bs=c0.rs:=by have:=HCP.out;rw [hpr] at this;exact congrArg Cp.rs this
   have hb4:bs.length≤4:=by rw [hrs];exact zth HSM.out hpr
   have HE:Hid (p1=zch 5 k seq bs ({zbc s k (zbf (insAt s k) seq) with com:=setRow s.com k seq.toNat (s.view+1)},l)):=zq (by rw [HP1.out];unfold look1;simp only;rw [hpr,hrs]);clear hrs hpr HP1 HCP HOK;subst hsn;rw [Int.toNat_natCast] at HE;obtain ⟨q,y1,z1,y2,hput⟩:=H3.out.comRow (k:=k) hk;have hsn0:(0:Int)≤(sn:Int):=by omega
   have hsnI:(sn:Int)<17:=by omega
   have c27:w3.cell? ⟨x.p,27,none⟩=some (slI x.co (s.c.f+1) x.cok):=H3.out.cell 27 rfl (by decide);have c29:w3.cell? ⟨x.p,29,none⟩=some (.int .i64 s.view):=H3.out.cell 29 rfl (by decide);have hvw:IntKind.i64.wrap (s.view+1)=s.view+1:=IntWalk.i64_in _ (by have:=HV.out;omega);have y3:w3.drew.cell? ⟨q,sn,none⟩=some (.int .i64 (rowAt s.com k sn)):=y2 sn (by omega);have z3:w3.drew.frozen? ⟨q,sn,none⟩=false:=z1 sn;obtain ⟨s2,hs2⟩: ∃s2:Ns,s2= {zbc s k (zbf (insAt s k) sn) with com:=setRow s.com k sn (s.view+1)}:=⟨_,rfl⟩;rw [←hs2] at HE;have H4:Hid (NdIs B w0 (w3.setCell ⟨q,sn,none⟩ (.int .i64 (s.view+1))).drew x s2 l (blk e0 (ctO view inst sq (.slice a1 bs.length k1) (.slice a2 vs.length k2))::batR (.slice a1 bs.length k1) bs::redR (.slice a2 vs.length k2) 2 vs.length (zan vs)::ss)):=zq (by rw [hs2];exact (hput sn (s.view+1)).drew);have hk2:k<s2.c.f+1:=by rw [hs2];exact hk
   have ho2:s2.out.length≤900000000:=by rw [hs2];exact Nat.le_trans ho (by omega)
   clear hs2;have y1':w3.cell? ⟨x.co,k,none⟩=some (nrV q):=y1;clear hput z1 y2 y1 H3
   go_wp2_with fail
   go_region
   all_goals
    generalize World.drew (World.setCell _ _ _)=w4 at*;obtain ⟨r4,hs4,-⟩:=H4.out.side;have y4:=zaa (hs4.blkAt 0 rfl) 3 rfl;have HB:=zq (zii (kind:=5) (seq:=sn) (H4.out.perm (.swap _ _ _)) hk2 hb4 (by omega) ho2);rw [←HE.out] at HB;clear hs4 H4 HE y1' y3 z3 c27 c29
    go_wp2_with fail
    with_reducible refine HB.out.mono ?_
    rintro e w5 ⟨rfl,h5⟩;have HF:=zq h5.drop.drop.drop;clear h5 HB y4
    go_wp2_with fail
    go_meet
    exact HF
 case rest=>
  have H1:=hcut;clear hcut H3 H0 HCP HOK HP1 HSM HCN;obtain ⟨g1,g2,g3⟩:=HG.out;have g3:=g3.c;obtain ⟨s1,l1⟩:=p1;simp only at g1 g2 g3 H1 HFIN;have hk1:k<s1.c.f+1:=by rw [g3];exact hk
  have hki1:k<s1.ins.length:=by rw [H1.out.ok.ins];exact hk1
  have d18:wc.cell? ⟨x.p,18,none⟩=some (slI x.ib (s.c.f+1) x.ic):=by have:=H1.out.cell 18 rfl (by decide);rw [g3] at this;exact this
  have di:=H1.out.instAt k HI.out;have HCM:=zq (zsk H1.out hk1 HI.out seq);have HSM1:Hid (InSm (insAt s1 k)):=zq (by rw [zay s1 k hki1];exact (H1.out.ok.insk k hki1).2.2.2);obtain ⟨ok2,hok2⟩: ∃ok2,ok2=(commI (insAt s1 k) seq).isSome:=⟨_,rfl⟩;rw [←hok2] at HCM;have HOK2:=zq hok2;have HMT:Hid ((s1.mt.getD k (0,0)).1≤4*((insAt s1 k).l.countP (·.done):Nat)):=zq (by
   have hml:k<s1.mt.length:=by rw [H1.out.ok.mt];exact hk1
   have:=(H1.out.ok.mtn k hml hki1).2.1;rw [zay s1 k hki1]
   simpa [List.getD_eq_getElem?_getD,hml] using this)
  have HCF:=zq g3;clear hok2 H1 g3
  go_wp2_with fail
  with_reducible refine HCM.out.mono ?_
  rintro e w6 ⟨c,rfl,hc,h6⟩;obtain ⟨a1,k1,e1⟩:=hc.vb;obtain ⟨a2,k2,e2⟩:=hc.vv;have HCP:=zq hc.cp;clear hc HCM d18 di;obtain ⟨view,inst,sq,vb,vv,bs,vs⟩:=c;simp only at e1 e2;subst e1 e2;have H7:=zq (h6.box (ctO view inst sq (.slice a1 bs.length k1) (.slice a2 vs.length k2)));clear h6
  go_upto_if 55 with fail
  generalize w6.heap.size=e1 at*;generalize w6.alloc _=w7 at*;cases ok2 with
  | false=>
   have hcm:commI (insAt s1 k) seq=none:=by have:=HOK2.out;cases h:commI (insAt s1 k) seq with | none=>rfl | some c=>rw [h] at this;simp at this
   have HF:Hid (NdIs B w0 w7 x fin.1 fin.2 ss):=zq (by
    have h4:=H7.out.drop.drop.drop;rw [zrk hcm,zet hki1] at h4;rw [HFIN.out];unfold look2;simp only;rw [hcm];exact h4)
   clear H7 HCP HFIN hcm HOK2 HMT HCF HSM1
   go_wp2_with fail
   refine bodyPost_end (results_none rfl _ _ _) rfl ?_;exact ⟨rfl,HF.out⟩
  | true=>
   obtain ⟨c0,hcm⟩: ∃c0,commI (insAt s1 k) seq=some c0:=Option.isSome_iff_exists.1 HOK2.out.symm;have HCC:CmtC B w0 x:=by
    rcases HQ.out with hq | hq
    ·exact absurd (hq.symm.trans hcm) (by simp)
    ·exact hq
   have hrs:bs=c0.rs:=by have:=HCP.out;rw [hcm] at this;exact congrArg Cp.rs this
   have hb4:bs.length≤4:=by rw [hrs];exact zyb HSM1.out hcm
   have HE:Hid (fin=doneS k bs (zbc s1 k (zbg (insAt s1 k) seq),l1)):=zq (by rw [HFIN.out];unfold look2;simp only;rw [hcm,hrs]);have hdn:=zrj hcm;have hmt:=HMT.out;obtain ⟨r7,hs7,-⟩:=H7.out.side;have y4:=zaa (hs7.blkAt 0 rfl) 3 rfl;have HC:=zq (HCC (k:=k) (H7.out.perm (.swap _ _ _)) (by exact hk1) hb4 (by
    have e:(zbc s1 k (zbg (insAt s1 k) seq)).ins.getD k noIn=zbg (insAt s1 k) seq:=ztz hki1;rw [e];show (s1.mt.getD k (0,0)).1+_≤_;omega) (by omega) (by show s1.out.length≤_;omega))
   rw [←HE.out] at HC;clear HCC hs7 H7 HE hdn hmt HMT hcm hrs HCP HFIN HOK2 HSM1 HCF
   go_wp2_with fail
   with_reducible refine HC.out.mono ?_
   rintro e w8 ⟨rfl,h8⟩;have HF:=zq h8.drop.drop.drop;clear h8 HC y4
   go_wp2_with fail
   refine bodyPost_end (results_none rfl _ _ _) rfl ?_;exact ⟨rfl,HF.out⟩
end
theorem zy2 {st:In} {seq:Int} {rs:List Rq} (h:preB st seq=false):preI st seq rs=st:=by
 unfold preI;split
 ·rfl
 ·rw [h];rfl
theorem zva {l:Nt} {bt cl:Int} {rs:List Rq} (h:zd3 l bt cl rs=true) (hb:bt≤4):rs.length≤4:=by
 unfold zd3 at h;simp only [Bool.and_eq_true,decide_eq_true_eq] at h;omega
section
variable {B:Nat} {w0 w W W':World} {ss rs:List Res} {x:Np} {s s':Ns} {l l':Nt} {k i:Nat}
def zw1 (k:Nat) (seq:Int) (p:NSt):Prop:=commI (insAt (look1 k seq (zch 4 k seq (zau (insAt p.1 k) seq).1 p)).1 k) seq=none
theorem zg9 {seq:Int} (HQ:zw1 k seq (s,l)∨CmtC B w0 x) (h:NdIs B w0 W x s l ss) (hk:k<s.c.f+1) (hn:l.length≤600000000) (ho:s.out.length≤600000000):
  Calls Tryz.prog 161 #[ptrV x.p,.int .i64 k,.int .i64 seq] W fun e w'=>e= .returned (.tuple #[])∧NdIs B w0 w' x (zb7 k seq (s,l)).1 (zb7 k seq (s,l)).2 ss:=by
 have hcap:=h.caps.1;have hki:k<s.ins.length:=by rw [h.ok.ins];exact hk
 obtain ⟨i,hi,-⟩:=h.iAt hk;have HSM:Hid ((zau (insAt s k) seq).1.length≤4):=zq (zi4 (by rw [zay s k hki];exact (h.ok.insk k hki).2.2.2) seq);obtain ⟨fin,hfin⟩: ∃fin,fin=zb7 k seq (s,l):=⟨_,rfl⟩;have HFIN:Hid (fin=lookS k seq (zch 4 k seq (zau (insAt s k) seq).1 (s,l))):=zq (by rw [hfin];rfl);rw [←hfin];have HQ:Hid (commI (insAt (look1 k seq (zch 4 k seq (zau (insAt s k) seq).1 (s,l))).1 k) seq=none∨CmtC B w0 x):=zq HQ;have HG:=zq (zfp 4 k seq (zau (insAt s k) seq).1 (s,l) h.ok.c.f2);have c18:=h.cell 18 rfl (by decide);have ci:=h.instAt k hi;have HCH:=zq (zn5 h hk hi seq);have HK:=zq hk;have hk0:(0:Int)≤(k:Int):=by omega
 have hkI:(k:Int)<(s.c.f:Int)+1:=by omega
 have hcI:(s.c.f:Int)+1≤(x.ic:Int):=by omega
 generalize (zau (insAt s k) seq).1=bs at*;generalize (zau (insAt s k) seq).2=is at*;clear h hfin hi hcap;go_enter Tryz.func161,Tryz.ntmps161
 go_wp2_with fail
 with_reducible refine HCH.out.mono ?_
 rintro e w2 ⟨a1,c1,rfl,h2⟩;have HB:=zq (zii (kind:=4) (seq:=seq) h2 HK.out HSM.out (by omega) (by omega));clear h2 HCH c18 ci
 go_wp2_with fail
 with_reducible refine HB.out.mono ?_
 rintro e w3 ⟨rfl,h3⟩;have h4:=h3.drop;have hg:=HG.out;generalize zch 4 k seq bs (s,l)=p1 at*;obtain ⟨s1,l1⟩:=p1;obtain ⟨g1,g2,g3⟩:=hg;have g3:=g3.c;simp only at g1 g2 g3 h4;have HL:=zq (zsq (k:=k) (seq:=seq) HQ.out h4 (by rw [g3];exact HK.out) (by omega) (by omega));rw [←HFIN.out] at HL;clear h3 h4 HB hkI hcI HG HSM HK HQ g1 g2 g3
 go_wp2_with fail
 with_reducible refine HL.out.mono ?_
 rintro e w5 ⟨rfl,h5⟩;have HF:=zq h5;clear h5 HL
 go_wp2_with fail
 refine bodyPost_end (results_none rfl _ _ _) rfl ?_;exact ⟨rfl,HF.out⟩
theorem npre_of {m:Mm} (HQ:zw1 m.inst.toNat m.seq (zbc s m.inst.toNat (preI (insAt s m.inst.toNat) m.seq m.rs),l)∨CmtC B w0 x) (h:NdIs B w0 W x s l (mmR m ss)) (hm0:0≤m.inst) (hm1:m.inst≤s.c.f) (hmn:m.rs.length≤100000) (hn:l.length≤600000000) (ho:s.out.length≤600000000):
  Calls Tryz.prog 177 #[ptrV x.p,.agg (mmA m)] W fun e w'=>e= .returned (.int .i64 (zcn m.ms (s,l)).1)∧NdIs B w0 w' x (zcn m.ms (s,l)).2.1 (zcn m.ms (s,l)).2.2 (mmR m ss):=by
 obtain ⟨r0,hs0,-⟩:=h.side;have hbv:Reads W m.vb 6 m.rs.length (m.rs.flatMap zas):=zae (k:=5) hs0 rfl;obtain ⟨a1,c1,e1⟩: ∃a c,m.vb= .slice a m.rs.length c:=let ⟨a,c,e,_⟩:=hbv;⟨a,c,e⟩;obtain ⟨k,hinst⟩: ∃k:Nat,m.inst=k:=⟨m.inst.toNat,by omega⟩;obtain ⟨kind,fm,view,inst,seq,res,vb,rs,vv,vs,vc,cts,vp,pts⟩:=m;simp only at hbv e1 hinst hm0 hm1 hmn HQ;subst hinst e1;rw [Int.toNat_natCast] at HQ;have HQ:=zq HQ;have hk:k<s.c.f+1:=by omega
 have hki:k<s.ins.length:=by rw [h.ok.ins];exact hk
 have hcap:=h.caps.1;have hok:=h.ok.c;obtain ⟨i,hi,-⟩:=h.iAt hk;obtain ⟨mm,hmm⟩: ∃mm:Mm,mm=⟨kind,fm,view,k,seq,res,.slice a1 rs.length c1,rs,vv,vs,vc,cts,vp,pts⟩:=⟨_,rfl⟩;obtain ⟨fin,hfin⟩: ∃fin,fin=zcn mm.ms (s,l):=⟨_,rfl⟩;have HFIN:Hid (fin=if !zd3 l s.c.bt s.c.cl rs then (3,(s,l)) else if view≠s.view∨ !preB (insAt s k) seq then (1,(s,l)) else (0,zb7 k seq (zbc s k (preI (insAt s k) seq rs),l))):=zq (by rw [hfin,hmm];rfl);rw [←hmm] at h⊢;rw [←hfin];have H0:=zq (h.box (mmO mm));have hb0:=heap_alloc_new W (mmO mm);have y0:(W.alloc (mmO mm)).cell? ⟨W.heap.size,0,none⟩=some (.int .i64 kind):=zaa hb0 0 (by rw [hmm];rfl);have y1:(W.alloc (mmO mm)).cell? ⟨W.heap.size,1,none⟩=some (.int .i64 fm):=zaa hb0 1 (by rw [hmm];rfl);have y2:(W.alloc (mmO mm)).cell? ⟨W.heap.size,2,none⟩=some (.int .i64 view):=zaa hb0 2 (by rw [hmm];rfl);have y3:(W.alloc (mmO mm)).cell? ⟨W.heap.size,3,none⟩=some (.int .i64 k):=zaa hb0 3 (by rw [hmm];rfl);have y4:(W.alloc (mmO mm)).cell? ⟨W.heap.size,4,none⟩=some (.int .i64 seq):=zaa hb0 4 (by rw [hmm];rfl);have y6:(W.alloc (mmO mm)).cell? ⟨W.heap.size,6,none⟩=some (.slice a1 rs.length c1):=zaa hb0 6 (by rw [hmm];rfl);have hua:Upd [] W (W.alloc (mmO mm)):=(Upd.refl [] W).alloc _;have HBT:=zq (zpg (most:=s.c.bt) (cl:=s.c.cl) H0.out.drew.ntAt h.nok hok.cl2 (hbv.upd hua.drew (by simp)) hmn);have c1':=H0.out.drew.cell 1 rfl (by decide);have c2':=H0.out.drew.cell 2 rfl (by decide);have c16:=H0.out.drew.cell 16 rfl (by decide);have HI:=zq hi;have HMM:=zq hmm;have hbt4:=hok.bt2;have hk0:(0:Int)≤(k:Int):=by omega
 have hkI:(k:Int)<(s.c.f:Int)+1:=by omega
 have hcI:(s.c.f:Int)+1≤(x.ic:Int):=by omega
 clear hs0 h hfin hcap hok hua hbv hmn hi hb0;rw [show Value.agg (mmA mm)= .agg (mmA ⟨kind,fm,view,k,seq,res,.slice a1 rs.length c1,rs,vv,vs,vc,cts,vp,pts⟩) from by rw [hmm]];rw [show mmO mm= .cells (mmA ⟨kind,fm,view,k,seq,res,.slice a1 rs.length c1,rs,vv,vs,vc,cts,vp,pts⟩) 47 (0,0) from by rw [hmm]] at y0 y1 y2 y3 y4 y6 H0 HBT c1' c2' c16;clear hmm;go_enter Tryz.func177,Tryz.ntmps177
 go_upto_region 1 with fail
 generalize W.heap.size=e0 at*;generalize W.alloc _=w1 at*;refine Mix.wp_text2 (by kernel_rfl) (by kernel_rfl) ?_
 go_wp2_with fail
 with_reducible refine HBT.out.mono ?_
 rintro e w2 ⟨rfl,hu⟩;have H2:=zq (H0.out.drew.upd0 hu);clear hu HBT H0 y0 y1 y2 y3 y4 y6 c1' c2' c16;obtain ⟨bp,hbp⟩: ∃bp,bp=zd3 l s.c.bt s.c.cl rs:=⟨_,rfl⟩;rw [←hbp] at HFIN⊢;cases bp with
 | false=>
  have e1:fin=(3,(s,l)):=HFIN.out;subst e1;have HF:=zq H2.out.drop;clear HFIN H2 hbp
  go_wp2_with fail
  refine ⟨by rfl,?_⟩
  go_wp2_with fail
  go_ret
  exact ⟨rfl,HF.out⟩
 | true=>
  have hb4:rs.length≤4:=zva hbp.symm hbt4;have e1:fin=if view≠s.view∨ !preB (insAt s k) seq then (1,(s,l)) else (0,zb7 k seq (zbc s k (preI (insAt s k) seq rs),l)):=HFIN.out
  have HF1:=zq e1;clear e1 HFIN hbp
  go_wp2_with fail
  refine ⟨by rfl,?_⟩
  go_upto_region 3 with fail
  have hblk: ∃r:Res,Own B w0 w2.drew ((blk e0 (.cells (mmA ⟨kind,fm,view,k,seq,res,.slice a1 rs.length c1,rs,vv,vs,vc,cts,vp,pts⟩) 47 (0,0))::mmR mm ss)++[r]):=let ⟨r,hs,_⟩:=H2.out.drew.side;⟨r,hs⟩;obtain ⟨r2,hs2⟩:=hblk;have y0:=zaa (hs2.blkAt 0 rfl) 0 rfl;have y1:=zaa (hs2.blkAt 0 rfl) 1 rfl;have y2:=zaa (hs2.blkAt 0 rfl) 2 rfl;have y3:=zaa (hs2.blkAt 0 rfl) 3 rfl;have y4:=zaa (hs2.blkAt 0 rfl) 4 rfl;have y6:=zaa (hs2.blkAt 0 rfl) 6 rfl;have c18:=H2.out.drew.cell 18 rfl (by decide);have c29:=H2.out.drew.cell 29 rfl (by decide);have ci:=H2.out.drew.instAt k HI.out;clear hs2;by_cases hvw:view=s.view
  ·have hne:(view !=s.view)=false:=by simp [hvw]
   have HP:=zq (nd_pre (H2.out.drew.onSide (ss':=batR (.slice a1 rs.length c1) rs::blk e0 (.cells (mmA ⟨kind,fm,view,k,seq,res,.slice a1 rs.length c1,rs,vv,vs,vc,cts,vp,pts⟩) 47 (0,0))::mmR mm ss) (fun r hr=>hr.copy (by rw [HMM.out,zq1];simp) rfl)) hk HI.out hb4 seq);obtain ⟨ok,hok⟩: ∃ok,ok=preB (insAt s k) seq:=⟨_,rfl⟩;rw [←hok] at HP;have HOK:=zq hok;have HVW:=zq hvw;clear hok hvw H2;refine Mix.wp_text2 (by kernel_rfl) (by kernel_rfl) ?_
   go_wp2_with fail
   with_reducible refine HP.out.mono ?_
   rintro e w3 ⟨rfl,h3⟩;have H3:=zq h3.drop;clear h3 HP y0 y1 y2 y3 y4 y6 c18 c29 ci;cases ok with
   | false=>
    have e1:fin=(1,(s,l)):=by rw [HF1.out,←HOK.out];simp
    have HF:Hid (NdIs B w0 w3 x s l (mmR mm ss)):=zq (by
     have h4:=H3.out.drop;rw [zy2 HOK.out.symm,zet hki] at h4;exact h4)
    subst e1;clear H3 HF1 HOK HVW
    go_wp2_with fail
    refine ⟨by rfl,?_⟩
    go_wp2_with fail
    go_ret
    exact ⟨rfl,HF.out⟩
   | true=>
    have e1:fin=(0,zb7 k seq (zbc s k (preI (insAt s k) seq rs),l)):=by rw [HF1.out,←HOK.out];simp [HVW.out]
    obtain ⟨p2,hp2⟩: ∃p2,p2=zb7 k seq (zbc s k (preI (insAt s k) seq rs),l):=⟨_,rfl⟩;rw [←hp2] at e1;have HA:=zq (zg9 (k:=k) (seq:=seq) HQ.out H3.out hk (by omega) (by show s.out.length≤_;omega));rw [←hp2] at HA;have hblk: ∃r:Res,Own B w0 w3 ((blk e0 (.cells (mmA ⟨kind,fm,view,k,seq,res,.slice a1 rs.length c1,rs,vv,vs,vc,cts,vp,pts⟩) 47 (0,0))::mmR mm ss)++[r]):=let ⟨r,hs,_⟩:=H3.out.side;⟨r,hs⟩;obtain ⟨r3,hs3⟩:=hblk;have z3:=zaa (hs3.blkAt 0 rfl) 3 rfl;have z4:=zaa (hs3.blkAt 0 rfl) 4 rfl;subst e1;clear H3 HF1 HOK HVW hp2 hs3
    go_wp2_with fail
    refine ⟨by rfl,?_⟩
    go_wp2_with fail
    with_reducible refine HA.out.mono ?_
    rintro e w4 ⟨rfl,h4⟩;have HF:=zq h4.drop;clear h4 HA z3 z4
    go_wp2_with fail
    go_ret
    exact ⟨rfl,HF.out⟩
  ·have hne:(view !=s.view)=true:=by simp [hvw]
   have e1:fin=(1,(s,l)):=by rw [HF1.out,if_pos (.inl hvw)]
   subst e1;have HF:=zq H2.out.drew.drop;clear HF1 H2 hvw;refine Mix.wp_text2 (by kernel_rfl) (by kernel_rfl) ?_
   go_wp2_with fail
   refine ⟨by rfl,?_⟩
   go_wp2_with fail
   go_ret
   exact ⟨rfl,HF.out⟩
end
section
variable {B:Nat} {w0 w W W':World} {ss rs:List Res} {x:Np} {s s':Ns} {l l':Nt}
def TakeM (B:Nat) (w0:World) (x:Np) (s:Ns) (l:Nt) (fn:FuncId) (m:Mm) (fin:Int×NSt):Prop:=
 ∀W ss,NdIs B w0 W x s l (mmR m ss)→Calls Tryz.prog fn #[ptrV x.p,.agg (mmA m)] W fun e w'=>e= .returned (.int .i64 fin.1)∧NdIs B w0 w' x fin.2.1 fin.2.2 (mmR m ss)
theorem zwg {m:Mm} {sl:Int} {fin:Int×NSt} (hk:m.kind=3) (HC:TakeM B w0 x s l 177 m fin):TakeC B w0 x s l 98 m sl fin:=by
 intro W ss h;obtain ⟨kind,fm,view,inst,seq,res,a1,rs,c1,a2,vs,c2,a3,cts,c3,a4,pts,c4,rfl⟩:=zwa h;simp only at hk;subst hk;have H8:=zq (HC _ _ (h.alloc (mmO ⟨3,fm,view,inst,seq,res,.slice a1 rs.length c1,rs,.slice a2 vs.length c2,vs,.slice a3 cts.length c3,cts,.slice a4 pts.length c4,pts⟩)));clear h HC;go_enter Tryz.func98,Tryz.ntmps98
 go_wp2_with fail
 with_reducible refine H8.out.mono ?_
 rintro e w2 ⟨rfl,h2⟩;have HF:=zq h2;clear h2 H8
 go_wp2_with fail
 go_ret
 exact ⟨rfl,HF.out⟩
end
section
variable {w:World}
end
def bo (is:Bool) (c:Ct):Option Cp:=if is then some c.cp else none
abbrev zCt:Ct:=⟨0,0,0,.slice none 0 0,.slice none 0 0,[],[]⟩
structure BestOk (w:World) (is:Bool) (c:Ct):Prop where
 b:Bat w c.vb c.rs
 bn:c.rs.length≤100000
 v:Vts w c.vv c.vs
 vn:c.vs.length≤100000
 z:is=false→c=zCt
theorem BestOk.upd {w w':World} {is:Bool} {c:Ct} (h:BestOk w is c) (hu:Upd [] w w'):BestOk w' is c:=⟨h.b.upd (M:=[]) hu (by simp),h.bn,h.v.upd (M:=[]) hu (by simp),h.vn,h.z⟩
section
variable {B:Nat} {w0 W:World} {rs:List Res}
end
def SmN (s:Ns):Prop:= ∀j,InSm (insAt s j)
theorem noIn_sm:InSm noIn:=⟨by simp [noIn]⟩
theorem SmN.of (s:Ns) (h:NsOk s):SmN s:=fun j=>by
 by_cases hj:j<s.ins.length
 ·rw [zay s j hj];exact (h.insk j hj).2.2.2
 ·unfold insAt
  rw [List.getD_eq_getElem?_getD,List.getElem?_eq_none (by omega)];exact noIn_sm
theorem zv0 (s:Ns) (k j:Nat) (st:In):insAt (zbc s k st) j=if k=j∧j<s.ins.length then st else insAt s j:=by
 unfold insAt zbc;simp only [List.getD_eq_getElem?_getD,List.getElem?_set];by_cases h:k=j
 ·subst h
  by_cases h2:k<s.ins.length
  ·simp [h2]
  ·simp [h2]
 ·simp [h]
theorem SmN.set {s:Ns} {k:Nat} {st:In} (h:SmN s) (hs:InSm st):SmN (zbc s k st):=fun j=>by
 rw [zv0];split
 ·exact hs
 ·exact h j
theorem SmN.ins {s t:Ns} (h:SmN s) (e:t.ins=s.ins):SmN t:=fun j=>by
 have:=h j;unfold insAt at this⊢;rw [e];exact this
theorem zow (p:NSt) (m:Ms):(sendS p m).1.ins=p.1.ins:=by
 obtain ⟨o,e,-⟩:=zfg p m;rw [e]
theorem zoz {kind:Int} {k:Nat} {seq:Int} {rs:List Rq} {p:NSt} (h:SmN p.1) (hr:rs.length≤4):SmN (zch kind k seq rs p).1:=by
 unfold zch;have h1:SmN (sendS p (balM' kind p.1.view k seq rs)).1:=h.ins (zow _ _);exact h1.set ((zn3 hr).sm (h1 k))
theorem sm_look1 {k:Nat} {seq:Int} {p:NSt} (h:SmN p.1):SmN (look1 k seq p).1:=by
 unfold look1;split
 ·rename_i c e
  refine zoz ?_ (zth (h k) e);exact (h.set (k:=k) ((zf1 (h k)).sm (h k))).ins rfl
 ·exact h
theorem runC_sm {s:Ns} (h:InSm (insAt s 0)):(runC s).rs.length≤4:=by
 unfold runC;cases hc:zai (insAt s 0) (s.run+1) with
 | none=>simp [noCp]
 | some c=>exact zmd h hc
theorem ztv (p:NSt):(zhs p).1.ins=p.1.ins:=by
 obtain ⟨s,l⟩:=p;obtain ⟨o,l',t',e,-⟩:=zht s l;rw [e]
theorem zkl: ∀(n:Nat) (p:NSt),InSm (insAt p.1 0)→Grow (4*n) p (runGo n p)∧(runGo n p).1.ins=p.1.ins
 | 0,p,_=>⟨Grow.refl p,rfl⟩
 | n+1,p,h=>by
  unfold runGo;split
  ·have h1:=zpr p (runC_sm h)
   have h2:=ztv p;obtain ⟨h3,h4⟩:=zkl n (zhs p) (by unfold insAt at h⊢;rw [h2];exact h);exact ⟨(h1.trans h3).mono (by omega),h4.trans h2⟩
  ·exact ⟨(Grow.refl p).mono (by omega),rfl⟩
theorem zvx (k:Nat) (rs:List Rq) (p:NSt) (h:SmN p.1):Grow 64 p (doneS k rs p)∧(doneS k rs p).1.ins=p.1.ins:=by
 unfold doneS;simp only;rw [zr2];have hs:SmN {p.1 with mt:=zvr p.1 k rs}:=h.ins rfl;obtain ⟨g1,g2⟩:=zkl 16 ({p.1 with mt:=zvr p.1 k rs},p.2) (hs 0);split
 ·exact ⟨⟨by simp,by simp,by constructor<;>rfl⟩,rfl⟩
 ·split
  ·exact ⟨⟨g1.out,g1.nt,(KeepN.trans (by constructor<;>rfl) g1.k).trans (by constructor<;>rfl)⟩,g2⟩
  ·exact ⟨⟨g1.out,g1.nt,KeepN.trans (by constructor<;>rfl) g1.k⟩,g2⟩
theorem zvy (k:Nat) (seq:Int) (p:NSt) (hf:p.1.c.f≤4) (h:SmN p.1):Grow 77 p (lookS k seq p)∧SmN (lookS k seq p).1:=by
 rw [zsd];have h1:=zkk k seq p hf;have h2:=sm_look1 (k:=k) (seq:=seq) h;generalize look1 k seq p=q at*;unfold look2;split
 ·rename_i c e
  have h3:SmN (zbc q.1 k (zbg (insAt q.1 k) seq)):=h2.set ((zg4 (h2 k)).sm (h2 k));obtain ⟨g1,g2⟩:=zvx k c.rs (zbc q.1 k (zbg (insAt q.1 k) seq),q.2) h3;exact ⟨(h1.trans ⟨g1.out,g1.nt,KeepN.trans (by constructor<;>rfl) g1.k⟩),h3.ins g2⟩
 ·exact ⟨h1.mono (by omega),h2⟩
theorem zpq (k:Nat) (seq:Int) (p:NSt) (hf:p.1.c.f≤4) (h:SmN p.1):Grow 90 p (zb7 k seq p)∧SmN (zb7 k seq p).1:=by
 unfold zb7;have h1:=zfp 4 k seq (zau (insAt p.1 k) seq).1 p hf;have h2:=zoz (kind:=4) (k:=k) (seq:=seq) h (zi4 (h k) seq);obtain ⟨h3,h4⟩:=zvy k seq (zch 4 k seq (zau (insAt p.1 k) seq).1 p) (by rw [h1.k.c];exact hf) h2;exact ⟨(h1.trans h3),h4⟩
section
variable {B:Nat} {w0 w W:World} {rs:List Res}
end
theorem zhq {α:Type} (g:α→Nat→α) (a:α) (j:Nat):(List.range (j+1)).foldl g a=g ((List.range j).foldl g a) j:=by rw [List.range_succ,List.foldl_append];rfl
section
variable {B:Nat} {w0 w W W':World} {ss rs:List Res} {x:Np} {s s':Ns} {l l':Nt} {k i:Nat}
end
def PtOk (s:Ns):Prop:= ∀q∈s.pts,∀c∈q.2.cs,c.rs.length≤4
theorem PtOk.of {s t:Ns} (h:PtOk s) (e:t.pts=s.pts):PtOk t:=fun q hq=>h q (e ▸ hq)
section
variable {B:Nat} {w0 w W W':World} {ss rs:List Res} {x:Np} {s s':Ns} {l l':Nt} {k i:Nat}
end
section
variable {B:Nat} {w0 w W W':World} {ss rs:List Res} {x:Np} {s s':Ns} {l l':Nt} {rn:Nat} {vp:Value} {vt:Rn}
theorem zvu {m:Mm} {b:Bys} {v:Int} {p:NSt} (h:NdIs B w0 W x s l (mmR m (rnR rn vp vt l ss))) (hm:MmOk m) (hn:l.length≤700000000) (h0:0≤m.fm) (h1:m.fm≤100) (hb:bodyP m.ms=some b) (hbl:b.length≤65530) (hfm:formP s.c.f s.c.cl m.ms=true) (hst:s.stop=false) (hgd:s.gd=[])
  (HT: ∀mm:Mm,mm.ms=m.ms→TakeC B w0 x s (sealL l m.fm b) 98 mm (sealN l m.fm b) (v,p)) (hv:v=0∨v=1∨v=2∨v=3) (hg2:p.1.gd.length≤1000)
  (hu:p.1.used≤1000000000000) (hbd:p.1.bad≤1000000000000) (hsl:p.1.stale≤1000000000000) (hfu:p.1.full≤1000000000000):
  Calls Tryz.prog 23 #[ptrV x.p,.agg (twA x.nt rn),.agg (mmA m)] W fun e w'=>e= .returned (.tuple #[])∧ ∃vp' vt',NdIs B w0 w' x (zpj m.fm (v,p)).1 (zpj m.fm (v,p)).2 (mmR m (rnR rn vp' vt' (sealL l m.fm b) ss)):=by
 have hgb:=zvt (l:=l) hb hbl (by omega);have key:=give_nd (P:=zpj m.fm (v,p)) h hm (by omega) (by omega) (by omega) hb (fun w1 ev vp' vt' h2=>by
  have hop:openP (sealL l m.fm b) s.c.f s.c.cl (givE l m.fm b)=some (m.ms,sealN l m.fm b):=by
   have e:=zwk (l:=l) (f:=s.c.f) (cl:=s.c.cl) hb hbl (by omega);rw [hfm,if_pos rfl] at e;exact e
  obtain ⟨q,hs,-⟩:=h2.side;have hrd:RdOk w0 B ev (givE l m.fm b) _:=rd_bys hs (by simp) (fun q hq=>List.mem_append_left _ hq) hgb.1 hgb.2;exact zsi (m:=m.ms) (sl:=sealN l m.fm b) (v:=v) (p:=p) h2 hrd hst (by rw [hgd];simp) (by rw [hgd];rfl) hop HT hv hg2 hu hbd hsl hfu)
 exact key.mono (fun e w' ⟨he,vp',vt',h6⟩=>⟨he,vp',vt',h6.perm ((List.perm_append_comm (l₁:=[_,_,_]) (l₂:=[_,_,_,_,_,_])).append_right ss)⟩)
end
structure VtL (f:Nat) (b:List Rq) (h:Nat→Bool) (n:Nat) (l:List Vt):Prop where
 len:l.length=3*f+1
 bt: ∀t∈l,t.has=true→t.batch=b
 hh: ∀(k:Nat) (hk:k<l.length),l[k].has=h k
 n:l.countP (fun t=>t.has)=n
def hAdd (h:Nat→Bool) (m:Nat):Nat→Bool:=fun j=>if j=m then true else h j
section
variable {f n m:Nat} {b:List Rq} {h:Nat→Bool} {l:List Vt} {sl:Int}
theorem VtL.none (f:Nat) (b:List Rq):VtL f b (fun _=>false) 0 (List.replicate (3*f+1) noVt) where
 len:=by simp
 bt:=fun t ht hh=>by rw [List.eq_of_mem_replicate ht] at hh;simp [noVt] at hh
 hh:=fun k hk=>by simp [noVt]
 n:=by
  rw [List.countP_eq_zero];intro t ht;rw [List.eq_of_mem_replicate ht];simp [noVt]
theorem zkf {α:Type} (p:α→Bool): ∀(l:List α) (k:Nat) (hk:k<l.length) (a:α),p l[k]=false→p a=true→(l.set k a).countP p=l.countP p+1
 | x::l,0,_,a,h1,h2=>by
  have h1:p x=false:=h1;simp [List.countP_cons,h1,h2]
 | x::l,k+1,hk,a,h1,h2=>by
  have ih:=zkf p l k (by simpa using hk) a h1 h2;rw [List.set_cons_succ,List.countP_cons,List.countP_cons,ih];omega
theorem VtL.put (H:VtL f b h n l) (hm:m≤3*f) (h0:h m=false):VtL f b (hAdd h m) (n+1) (l.set m ⟨true,sl,b⟩):=by
 have hml:m<l.length:=by rw [H.len];omega
 refine ⟨by rw [List.length_set,H.len],fun t ht hh=> ?_,fun k hk=> ?_,?_⟩
 ·rcases List.mem_or_eq_of_mem_set ht with ht | rfl
  ·exact H.bt t ht hh
  ·rfl
 ·rw [List.getElem_set]
  unfold hAdd;by_cases hkm:m=k
  ·subst hkm;simp
  ·rw [if_neg hkm,if_neg (fun e=>hkm e.symm)]
   exact H.hh k (by simpa using hk)
 ·rw [zkf _ l m hml _ (by rw [H.hh m hml];exact h0) rfl,H.n]
theorem VtL.can (H:VtL f b h n l) (hm:m≤3*f):openB l m= !h m:=by
 have hml:m<l.length:=by rw [H.len];omega
 unfold openB;simp only [Int.toNat_natCast,List.getElem?_eq_getElem hml,H.hh m hml];cases h m<;>simp
theorem zhn (b:List Rq): ∀(l:List Vt) (k:Nat),(∀t∈l,t.has=true→t.batch=b)→(picks b l k).length=l.countP (fun t=>t.has)
 | [],_,_=>rfl
 | t::l,k,h=>by
  have ih:=zhn b l (k+1) (fun u hu=>h u (List.mem_cons_of_mem _ hu));unfold picks;rw [List.countP_cons];cases ht:t.has with
  | false=>rw [if_neg (by simp [goodB,ht])];simpa using ih
  | true=>rw [if_pos (by simp [goodB,ht,h t (by simp) ht]),List.length_cons,ih];simp
theorem VtL.few (H:VtL f b h n l) (hn:n<2*f+1):zb5 l b (2*f+1)=Option.none:=by
 unfold zb5;rw [zhn b l 0 H.bt,H.n,if_pos hn]
theorem VtL.enough (H:VtL f b h n l) (hn:2*f+1≤n): ∃vs,zb5 l b (2*f+1)=some vs:=by
 unfold zb5;rw [zhn b l 0 H.bt,H.n,if_neg (by omega)];exact ⟨_,rfl⟩
theorem zd9 {all:List Vt} {q:Nat} {b:List Rq}: ∀l:List Vt,(∀t∈l,t.has=true→t.batch=b)→za3 all q l=if l.any (·.has) then (zb5 all b q).map (Prod.mk b) else Option.none
 | [],_=>rfl
 | t::r,hl=>by
  unfold za3;rw [zd9 r (fun t ht=>hl t (List.mem_cons_of_mem _ ht))];cases hh:t.has
  ·simp [hh]
  ·rw [hl t (by simp) hh]
   cases he:zb5 all b q<;>simp [hh]
theorem VtL.comm (H:VtL f b h n l) {ps:List Vt} {hs:Bool} {bt:List Rq}:zaw f ⟨hs,bt,ps,l⟩=(zb5 l b (2*f+1)).map (Prod.mk b):=by
 unfold zaw;rw [zd9 _ H.bt];by_cases ha:l.any (·.has)=true
 ·rw [if_pos ha]
 ·rw [if_neg ha]
  have hz:l.countP (fun t=>t.has)=0:=by
   rw [List.countP_eq_zero];intro t ht e;exact ha (List.any_eq_true.2 ⟨t,ht,e⟩)
  rw [H.few (by have:=H.n;omega)];rfl
end
def ordI (f:Nat) (ah:Int) (p:Pl):In:=⟨f,0,ah,0,true,p::List.replicate 15 (zbq f)⟩
section
variable {f:Nat} {ah:Int} {p:Pl}
theorem idx_one:idx 1=some 0:=rfl
theorem zku:plAt (ordI f ah p) 1=some p:=rfl
theorem zwm:doneI (ordI f ah p)=if p.done then 1 else 0:=by
 unfold doneI ordI;cases hd:p.done with
 | false=>simp [List.takeWhile_cons,hd]
 | true=>
  simp only [List.takeWhile_cons,hd,if_true,List.length_cons];rw [show List.takeWhile (fun q:Pl=>q.done) (List.replicate 15 (zbq f))=[] from rfl];rfl
theorem zoa (h0:p.sl.has=false) (h1:1≤ah):preB (ordI f ah p) 1=true:=by
 unfold preB;rw [zku];simp only [h0,Bool.not_false,Bool.and_true];show (true&&decide _)=true;rw [Bool.true_and,decide_eq_true_eq];show (1:Int)≤(doneI (ordI f ah p):Int)+ah;omega
theorem ordI_pre (rs:List Rq) (h0:p.sl.has=false) (h1:1≤ah):preI (ordI f ah p) 1 rs=ordI f ah {p with sl:= {p.sl with has:=true,batch:=rs}}:=by
 unfold preI;rw [idx_one];simp only [zoa h0 h1,if_true];show ordI f ah {p with sl:=slPre rs p.sl}=_;unfold slPre;rw [h0];rfl
theorem zwo (kind node sl:Int) (rs:List Rq):voteI (ordI f ah p) kind 1 node sl rs=ordI f ah {p with sl:=voteS p.sl kind node sl rs}:=rfl
theorem zwn:prepI (ordI f ah p) 1=if !p.told then (zbi f p.sl).map fun vs=>⟨0,0,1,p.sl.batch,vs⟩ else none:=by
 unfold prepI;rw [zku];show (if (true&& !p.told)=true then _ else _)=_;rw [Bool.true_and];rfl
theorem zn9:commI (ordI f ah p) 1=if p.done then none else (zaw f p.sl).map fun r=>⟨0,0,1,r.1,r.2⟩:=by
 unfold commI;rw [zku];rfl
theorem zfb:zai (ordI f ah p) 1=if p.done then some p.dw else none:=by
 unfold zai;rw [zku]
theorem zij:zau (ordI f ah p) 1=(zbj p.sl,p.sl.has):=by
 unfold zau;rw [zku]
end
theorem zx7 (kind view inst seq k:Int) (r:Rq):(msB (crtM kind view inst seq [r] k)).length≤65530:=by
 have n1:=zcv kind;have n2:=zcv view;have n3:=zcv inst;have n4:=zcv seq;have n5:=zcv k;have n6:=zox 0;have n7:=zyy r;have q1:(listB vtB ([]:Vs)).length=1:=by decide
 have q2:(listB certB ([]:List Cp)).length=1:=by decide
 have q3:(listB partB ([]:List Pa)).length=1:=by decide
 unfold msB crtM;simp only [List.length_append];rw [q1,q2,q3];omega
theorem zq0 {kind k:Int} {r:Rq} (hr:reqW r=true) (h1:0≤kind) (h2:kind≤100) (k0:0≤k) (k1:k≤100):bodyP (crtM kind 0 0 1 [r] k)=some (msB (crtM kind 0 0 1 [r] k)):=by
 have h:=zvg (view:=0) (inst:=0) (seq:=1) hr h1 h2 (by omega) (by omega) (by omega) (by omega) (by omega) (by omega) k0 k1;unfold bodyP at h⊢;split
 ·rfl
 ·rename_i hn;rw [if_neg hn] at h;cases h
theorem zzu {f:Nat} {cl kind k:Int} {r:Rq} (hq:okReq r cl=true) (hk:kind=3∨kind=4∨kind=5) (k0:0≤k) (k1:k≤3*f) (h3:kind=3→k=0):formP f cl (crtM kind 0 0 1 [r] k)=true:=by
 have hr:reqAt [r] 0=r:=rfl;have hb:allR 1 (fun j=>okReq (reqAt [r] j) cl)=true:=zc7 (fun j hj=>by
  have:j=0:=by omega
  subst this;rw [hr];exact hq)
 rcases hk with rfl | rfl | rfl
 ·obtain rfl:=h3 rfl
  unfold formP crtM formK zbu inW bareP zc6 zbh inW zam;simp [hb];omega
 ·unfold formP crtM formK zbu inW bareP zc6 zbh inW
  simp [hb,k0,k1]
 ·unfold formP crtM formK zbu inW bareP zc6 zbh inW
  simp [hb,k0,k1]
def orS (f:Nat) (id:Int) (p:Pl) (com:List (List Int)) (n:Int) (bk:Lp) (out:List (Int×Bys)) (u:Int):Ns:=
 {newS (stdC f) id with ins:=(newS (stdC f) id).ins.set 0 (ordI f 4 p),com:=com,run:=n,bk:=bk,out:=out,used:=u}
section
variable {f:Nat} {id n u:Int} {p p':Pl} {bk:Lp} {com:List (List Int)} {out:List (Int×Bys)} {l:Nt} {r:Rq}
theorem or_at:insAt (orS f id p com n bk out u) 0=ordI f 4 p:=by
 have h:((newS (stdC f) id).ins.set 0 (ordI f 4 p)).length=f+1:=by rw [List.length_set,ad_ins]
 unfold insAt orS;simp only;rw [List.getD_eq_getElem?_getD,List.getElem?_eq_getElem (by omega),List.getElem_set_self];rfl
theorem or_new:newS (stdC f) id=orS f id (zbq f) (newS (stdC f) id).com 0 (newL 2) [] 0:=by
 have h:(newS (stdC f) id).ins.set 0 (ordI f 4 (zbq f))=(newS (stdC f) id).ins:=by
  have e:(newS (stdC f) id).ins=newI f 0 4::((List.range f).map fun (k:Nat)=>newI f ((k+1:Nat):Int) 4):=by
   show (List.range (f+1)).map _=_;rw [List.range_succ_eq_map,List.map_cons,List.map_map];rfl
  rw [e];rfl
 unfold orS;rw [h];rfl
theorem zv2 {s:Ns} (h1:prepI (insAt s 0) 1=none) (h2:commI (insAt s 0) 1=none):lookS 0 1 (s,l)=(s,l):=by
 unfold lookS;simp only [h1,h2]
end
end Go.Proofs.YtannckelmojkoaaGreat
