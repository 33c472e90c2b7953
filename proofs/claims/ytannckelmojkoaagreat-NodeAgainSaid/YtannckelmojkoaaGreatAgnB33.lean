/- Parts of the proof, one behind the other. -/
import Derived.Test.YtannckelmojkoaaGreatAgnB32
set_option maxHeartbeats 32000000
set_option maxRecDepth 100000
set_option linter.unusedVariables false
set_option linter.unusedSimpArgs false
namespace Go.Proofs.YtannckelmojkoaaGreat
open Go.RowKit Go.Heap
theorem zda {α:Type} (g:NSt→α→NSt) (n:Nat) (hg: ∀p a,p.1.c.f≤4→Outs n p (g p a)): ∀(l:List α) (p:NSt),p.1.c.f≤4→Outs (n*l.length) p (l.foldl g p)
 | [],p,_=>(Outs.refl p).mono (by simp)
 | a::l,p,h=>by
  have h1:=hg p a h;have h2:=zda g n hg l (g p a) (by rw [h1.c];exact h);refine (h1.trans h2).mono ?_;rw [List.length_cons,Nat.mul_add];omega
theorem zi9 {α β:Type} (g:β→α→β) (p:β) (l:List α) (k:Nat) (hk:k<l.length):(l.take (k+1)).foldl g p=g ((l.take k).foldl g p) l[k]:=by
 rw [List.take_succ_eq_append_getElem hk,List.foldl_append];rfl
theorem zkx (p:NSt) (k:Nat) (hf:p.1.c.f≤4):Outs 624 p (zd6 p k):=by
 rw [zoy];split
 ·exact (zfs k p hf 16).mono (by omega)
 ·exact (Outs.refl p).mono (by omega)
theorem zil (p:NSt) (hf:p.1.c.f≤4):Outs 3120 p (zpb p):=(zda zd6 624 zkx _ p hf).mono (by rw [List.length_range];omega)
theorem zim (p:NSt) (hf:p.1.c.f≤4):Outs 13 p (zl5 p):=by
 unfold zl5;split
 ·exact zbv _ _ hf
 ·exact (Outs.refl p).mono (by omega)
theorem zin (p:NSt) (hf:p.1.c.f≤4):Outs 13 p (zpc p):=by
 unfold zpc;split
 ·exact (Outs.refl p).mono (by omega)
 ·exact zbv _ _ hf
theorem zkv (p:NSt) (b:Int×Ms) (hf:p.1.c.f≤4):Outs 13 p (bgOne p b):=by
 unfold bgOne;split
 ·exact zbv _ _ hf
 ·exact (Outs.refl p).mono (by omega)
theorem zkw (p:NSt) (i:In) (hf:p.1.c.f≤4):Outs 13 p (pfOne p i):=by
 unfold pfOne;split
 ·exact zbv _ _ hf
 ·exact (Outs.refl p).mono (by omega)
theorem zhg (p:NSt) (r:Rq) (hf:p.1.c.f≤4):Outs 13 p (zfh p r):=by
 unfold zfh;split
 ·exact zbv _ _ hf
 ·exact (Outs.refl p).mono (by omega)
theorem zio (p:NSt) (hf:p.1.c.f≤4):Outs (13*p.1.bg.length) p (zu3 p):=zda bgOne 13 zkv _ p hf
theorem ziq (p:NSt) (hf:p.1.c.f≤4):Outs (13*p.1.ins.length) p (zu4 p):=zda pfOne 13 zkw _ p hf
theorem zp4 (p:NSt) (hf:p.1.c.f≤4):Outs (13*p.1.tab.length) p (zzp p):=(zda zfh 13 zhg _ p hf).mono (by unfold zby;rw [List.length_map];omega)
section
variable {B:Nat} {w0 w W W':World} {ss rs:List Res} {x:Np} {s s':Ns} {l l':Nt} {k:Nat}
theorem nd_slots (p:NSt) (h:NdIs B w0 W x p.1 p.2 ss) (hk:k<p.1.c.f+1) (hn:p.2.length≤500000000) (ho:p.1.out.length≤500000000):
  Calls Tryz.prog 162 #[ptrV x.p,.int .i64 k] W fun e w'=>e= .returned (.tuple #[])∧NdIs B w0 w' x (zd6 p k).1 (zd6 p k).2 ss:=zsu h hk hn ho
abbrev PA (p t:Nat) (ag:Int) (w:World):Prop:=w.cell? ⟨p,17,none⟩=some (ptrV t)∧w.cell? ⟨p,13,none⟩=some (.int .i64 ag)
theorem NdIs.pa (h:NdIs B w0 W x s l ss):PA x.p x.t s.c.ag W:=⟨h.cell 17 rfl (by decide),h.cell 13 rfl (by decide)⟩
theorem zs7 {p t:Nat} {ag:Int} {w:World} {o:Obj} (h:PA p t ag w):PA p t ag (w.alloc o):=⟨zax h.1,zax h.2⟩
theorem own_5c {b:Nat} {T:TypeId} {c0 c1 c2 c3 c4 v0 v1 v2 v3 v4:Value} (h:Own B w0 W (blk b (.cells #[c0,c1,c2,c3,c4] T (0,0))::rs)):Own B w0 (((((W.setCell ⟨b,0,none⟩ v0).setCell ⟨b,1,none⟩ v1).setCell ⟨b,2,none⟩ v2).setCell ⟨b,3,none⟩ v3).setCell ⟨b,4,none⟩ v4) (blk b (.cells #[v0,v1,v2,v3,v4] T (0,0))::rs):=
 Own.storeTo (Own.storeTo (Own.storeTo (Own.storeTo (Own.storeTo h 0 v0 (o':= .cells #[v0,c1,c2,c3,c4] T (0,0)) rfl) 1 v1 (o':= .cells #[v0,v1,c2,c3,c4] T (0,0)) rfl) 2 v2 (o':= .cells #[v0,v1,v2,c3,c4] T (0,0)) rfl) 3 v3 (o':= .cells #[v0,v1,v2,v3,c4] T (0,0)) rfl) 4 v4 (o':= .cells #[v0,v1,v2,v3,v4] T (0,0)) rfl
theorem nd_5c {b:Nat} {r:Res} {cv ci cq:Int} {vb vv:Value} (h:NdIs B w0 W x s l (r::blk b zct::ss)):NdIs B w0 (((((W.setCell ⟨b,0,none⟩ (.int .i64 cv)).setCell ⟨b,1,none⟩ (.int .i64 ci)).setCell ⟨b,2,none⟩ (.int .i64 cq)).setCell ⟨b,3,none⟩ vb).setCell ⟨b,4,none⟩ vv) x s l (blk b (ctO cv ci cq vb vv)::r::ss):=by
 obtain ⟨rr,hr,hk⟩:=h.side;exact hk _ (_::_::ss) (own_5c hr.swap)
theorem NdIs.oneCt {c:Ct} (h:NdIs B w0 W x s l (batR c.vb c.rs::redR c.vv 2 c.vs.length (zan c.vs)::ss)) (hn:c.rs.length≤100000) (hm:c.vs.length≤100000):NdIs B w0 W x s l (ctsR [c]::ss):=by
 refine h.onSide (fun r hr=> ?_);have k1:Own B w0 W (ctsR []::_):=hr.mkCts (by simp);exact zyc (cts:=[]) (k1.rot.rot.swap) hn hm
theorem zyp (h:NdIs B w0 W x s l ss) (k:Nat) (hk:k<s.c.f+1) {i:Nat} (hi:x.is[k]?=some i) (seq:Int):Calls Tryz.prog 110 #[ptrV i,.int .i64 seq] W fun e w'=> ∃(cv ci cq:Int) (a1:Option Addr) (k1:Nat) (rs:List Rq) (a2:Option Addr) (k2:Nat) (vs:Vs) (bb:Bool),e= .returned (.tuple #[.agg #[.int .i64 cv,.int .i64 ci,.int .i64 cq,.slice a1 rs.length k1,.slice a2 vs.length k2],.bool bb])∧
  Ct.cp ⟨cv,ci,cq,.slice a1 rs.length k1,.slice a2 vs.length k2,rs,vs⟩=(zai (insAt s k) seq).getD noCp∧NdIs B w0 w' x s l (ctsR [⟨cv,ci,cq,.slice a1 rs.length k1,.slice a2 vs.length k2,rs,vs⟩]::ss):=by
 have hk':k<s.ins.length:=by rw [h.ok.ins];exact hk
 obtain ⟨j,rr,hj,ha,g⟩:=h.ask k hk';rw [hi] at hj;cases hj
 rw [zay s k hk'];obtain ⟨y,h1,h2,h3⟩:=ha;rw [←h2];refine (zec h3 h1 seq).mono ?_;rintro e w' ⟨⟨cv,ci,cq,vb,vv,rs,vs⟩,he,hc,hn,hb,hv,n1,n2,x',e1,e2,e3⟩;obtain ⟨a1,k1,b3,-⟩:=hb;obtain ⟨a2,k2,v3,-⟩:=hv;simp only at b3 v3 hn;subst b3 v3;have h5:NdIs B w0 w' x s l (batR (.slice a1 rs.length k1) rs::redR (.slice a2 vs.length k2) 2 vs.length (zan vs)::ss):=g w' (_::_::ss) ⟨x',e1,e2.trans h2,e3.swap.rot⟩;exact ⟨cv,ci,cq,a1,k1,rs,a2,k2,vs,_,he,hc,h5.oneCt (c:=⟨cv,ci,cq,.slice a1 rs.length k1,.slice a2 vs.length k2,rs,vs⟩) hn.1 hn.2⟩
theorem zjf (p:NSt) {m:Mm} (h:NdIs B w0 W x p.1 p.2 (mmR m ss)) (hm:MmOk m) (hn:p.2.length≤900000000) (ho:p.1.out.length≤900000000):
  Calls Tryz.prog 160 #[ptrV x.p,.agg (mmA m)] W fun e w'=>(∃v:Int,∃b:Bool,e= .returned (.tuple #[.int .i64 v,.bool b]))∧NdIs B w0 w' x (sendS p m.ms).1 (sendS p m.ms).2 ss:=by
 refine (zgk h hm hn ho).mono ?_;rintro e w' ⟨he,h2⟩;exact ⟨⟨_,_,he⟩,zih h2⟩
theorem zzy (s:Ns) (l:Nt) (b:Int×Ms):bgOne (s,l) b=if b.1=s.view∧0<b.1 then sendS (s,l) b.2 else (s,l):=rfl
theorem zu1 (s:Ns) (l:Nt):zl5 (s,l)=if s.voted=s.view then sendS (s,l) (chM s.view) else (s,l):=rfl
theorem zu2 (s:Ns) (l:Nt):zpc (s,l)=if allOn s then (s,l) else sendS (s,l) (vcMs s):=rfl
theorem pfOne_is (s:Ns) (l:Nt) (i:In):pfOne (s,l) i=if 0<doneI i then sendS (s,l) (pfM ((zai i (1+(s.now/s.c.ag)%(doneI i:Int))).getD noCp)) else (s,l):=rfl
theorem zuf (s:Ns) (l:Nt) (r:Rq):zfh (s,l) r=if zhy s.tab r s.id then propS (s,l) r else (s,l):=rfl
def ag1 (p:NSt) (k:Nat):NSt:=(List.range k).foldl zd6 p
theorem zzi (p:NSt) (k:Nat):ag1 p (k+1)=zd6 (ag1 p k) k:=zhq _ _ _
theorem outs_ag1 (p:NSt) (hf:p.1.c.f≤4) (k:Nat):Outs (624*k) p (ag1 p k):=(zda zd6 624 zkx _ p hf).mono (by rw [List.length_range];omega)
def ag4 (p:NSt) (k:Nat):NSt:=(p.1.bg.take k).foldl bgOne p
theorem zzj (p:NSt) (k:Nat) (hk:k<p.1.bg.length):ag4 p (k+1)=bgOne (ag4 p k) p.1.bg[k]:=zi9 _ _ _ _ hk
theorem outs_ag4 (p:NSt) (hf:p.1.c.f≤4) (k:Nat):Outs (13*p.1.bg.length) p (ag4 p k):=(zda bgOne 13 zkv _ p hf).mono (by rw [List.length_take];exact Nat.mul_le_mul_left _ (Nat.min_le_right _ _))
def ag5 (p:NSt) (k:Nat):NSt:=(p.1.ins.take k).foldl pfOne p
theorem zzk (p:NSt) (k:Nat) (hk:k<p.1.ins.length):ag5 p (k+1)=pfOne (ag5 p k) p.1.ins[k]:=zi9 _ _ _ _ hk
theorem outs_ag5 (p:NSt) (hf:p.1.c.f≤4) (k:Nat):Outs (13*p.1.ins.length) p (ag5 p k):=(zda pfOne 13 zkw _ p hf).mono (by rw [List.length_take];exact Nat.mul_le_mul_left _ (Nat.min_le_right _ _))
def ag6 (p:NSt) (k:Nat):NSt:=((zby p.1.tab).take k).foldl zfh p
theorem zzl (p:NSt) (k:Nat) (hk:k<(zby p.1.tab).length):ag6 p (k+1)=zfh (ag6 p k) (zby p.1.tab)[k]:=zi9 _ _ _ _ hk
theorem outs_ag6 (p:NSt) (hf:p.1.c.f≤4) (k:Nat):Outs (13*(zby p.1.tab).length) p (ag6 p k):=(zda zfh 13 zhg _ p hf).mono (by rw [List.length_take];exact Nat.mul_le_mul_left _ (Nat.min_le_right _ _))
theorem zsj (h:NdIs B w0 W x s l ss) (hn:l.length≤300000000) (ho:s.out.length≤300000000):
  Calls Tryz.prog 91 #[ptrV x.p] W fun e w'=>e= .returned (.tuple #[])∧NdIs B w0 w' x (zh0 (s,l)).1 (zh0 (s,l)).2 ss:=by
 have hf2:=h.ok.c.f2;have hcap:=h.caps;have hcI:(s.c.f:Int)+1≤(x.ic:Int):=by omega
 have HCAP:=zq hcap;rw [znl];obtain ⟨p1,hp1⟩: ∃p1,p1=zpb (s,l):=⟨_,rfl⟩;obtain ⟨p2,hp2⟩: ∃p2,p2=zl5 p1:=⟨_,rfl⟩;obtain ⟨p3,hp3⟩: ∃p3,p3=zpc p2:=⟨_,rfl⟩;obtain ⟨p4,hp4⟩: ∃p4,p4=zu3 p3:=⟨_,rfl⟩;obtain ⟨p5,hp5⟩: ∃p5,p5=zu4 p4:=⟨_,rfl⟩;obtain ⟨fin,hfin⟩: ∃fin,fin=zzp p5:=⟨_,rfl⟩;rw [←hp1,←hp2,←hp3,←hp4,←hp5,←hfin];have HP1:=zq hp1;have HP2:=zq hp2;have HP3:=zq hp3;have HP4:=zq hp4;have HP5:=zq hp5;have HFIN:=zq hfin;have ho1:=zil (s,l) hf2;rw [←hp1] at ho1;have ho2:=zim p1 (by rw [ho1.c];exact hf2);rw [←hp2] at ho2;have ho2:=ho1.trans ho2;have ho3:=zin p2 (by rw [ho2.c];exact hf2);rw [←hp3] at ho3;have ho3:=ho2.trans ho3;have HO1:=zq ho1;have HO2:=zq ho2;have HO3:=zq ho3;have H0:=zq h;have c18:=h.cell 18 rfl (by decide);clear h hp1 hp2 hp3 hp4 hp5 hfin ho1 ho2 ho3 hcap;go_enter Tryz.func91,Tryz.ntmps91
 go_upto_block 0 with fail
 go_cut [] (fun wx=>Hid (NdIs B w0 wx x p1.1 p1.2 ss))
 case first=>
  go_wp2_with fail
  go_loopw [18] (fun n wr=> ∃k:Nat,k≤s.c.f+1∧n= .int .i64 k∧Hid (NdIs B w0 wr x (ag1 (s,l) k).1 (ag1 (s,l) k).2 ss)) (fun n _=>s.c.f+1-(intOf n).toNat)
  case atStart=>exact ⟨0,by omega,rfl,H0⟩
  case round=>
   clear H0 c18;obtain ⟨k,hk,rfl,H⟩:=hrel;have hk0:(0:Int)≤(k:Int):=by omega
   by_cases hlt:k<s.c.f+1
   ·have hkI:(k:Int)<(s.c.f:Int)+1:=by omega
    have hO:=outs_ag1 (s,l) hf2 k;have h1:=hO.nt;have h2:=hO.outl;have h3:=hO.c;have HST:=zq (zzi (s,l) k);simp only at h1 h2 h3;have HC:=zq (nd_slots (ag1 (s,l) k) H.out (by rw [h3];exact hlt) (by omega) (by omega));rw [←HST.out] at HC;clear hO h1 h2 h3 HST H
    go_wp2_with fail
    with_reducible refine HC.out.mono ?_
    rintro e w2 ⟨rfl,h2⟩;have H2:=zq h2;clear h2 HC
    go_wp2_with fail
    go_roundw
    case rel=>exact ⟨k+1,by omega,by go_num,H2⟩
    case measure=>simp [intOf];omega
   ·obtain rfl:k=s.c.f+1:=by omega
    have hkI:decide (((s.c.f+1:Nat):Int)<(s.c.f:Int)+1)=false:=by simp
    have HF:Hid (NdIs B w0 wr x p1.1 p1.2 ss):=zq (by rw [HP1.out];exact H.out);clear H
    go_wp2_with fail
    go_meet
    exact HF
 case rest=>
 clear H0 HP1 c18;have H1:=hcut;clear hcut;have hs1:=HO1.out.same;have hc1:=HO1.out.c;have hn1:=HO1.out.nt;have hq1:=HO1.out.outl;obtain ⟨s1,l1⟩:=p1;simp only at hs1 hc1 hn1 hq1 H1;have HS1:=zq hs1;have HC1:=zq hc1;clear hs1 hc1;have c30:wc.cell? ⟨x.p,30,none⟩=some (.int .i64 s1.voted):=H1.out.cell 30 rfl (by decide);have c29:wc.cell? ⟨x.p,29,none⟩=some (.int .i64 s1.view):=H1.out.cell 29 rfl (by decide);have HP2:=zq (HP2.out.trans (zu1 s1 l1))
 go_upto_region 5 with fail
 go_quiet (fail)
 generalize hw:World.drewN wc _=w2;have H2:Hid (NdIs B w0 w2 x s1 l1 ss):=zq (by rw [←hw];exact H1.out.drewN _);clear hw H1 c30 c29
 go_upto_if 33 with fail
 go_cut [] (fun wx=>Hid (NdIs B w0 wx x p2.1 p2.2 ss))
 case first=>
  by_cases hv:s1.voted=s1.view
  ·have hb:(s1.voted==s1.view)=true:=by simp [hv]
   have hp2:=HP2.out.trans (if_pos hv);have HS:=zq (zjf (m:=nilMm 6 0 s1.view 0 0 0) (s1,l1) (H2.out.onSide (ss':=mmR (nilMm 6 0 s1.view 0 0 0) ss) (fun r hr=>zwr 6 0 s1.view 0 0 0 hr)) (nilMm_ok _ _ _ _ _ _) (by simp only;omega) (by simp only;omega));rw [show (nilMm 6 0 s1.view 0 0 0).ms=chM s1.view from rfl,←hp2] at HS;have c29:w2.cell? ⟨x.p,29,none⟩=some (.int .i64 s1.view):=H2.out.cell 29 rfl (by decide);clear hv hp2 H2 HP2
   go_wp2_with fail
   with_reducible refine HS.out.mono ?_
   rintro e w3 ⟨⟨sv,sb,rfl⟩,h3⟩;have H3:=zq h3;clear h3 HS c29
   go_wp2_with fail
   go_meet
   exact H3
  ·have hb:(s1.voted==s1.view)=false:=by simp [hv]
   have hp2:=HP2.out.trans (if_neg hv);have H3:Hid (NdIs B w0 w2 x p2.1 p2.2 ss):=zq (by rw [hp2];exact H2.out);clear hv hp2 H2 HP2
   go_wp2_with fail
   go_meet
   exact H3
 case rest=>
 have H3:=hcut;clear H2 HP2 hcut HS1 HC1 hn1 hq1;have hs2:=HO2.out.same;have hc2:=HO2.out.c;have hn2:=HO2.out.nt;have hq2:=HO2.out.outl;obtain ⟨s2,l2⟩:=p2;simp only at hs2 hc2 hn2 hq2 H3;have HS2:=zq hs2;have HC2:=zq hc2;clear hs2 hc2;have HP3:=zq (HP3.out.trans (zu2 s2 l2));have HAL:=zq (nall_any H3.out)
 go_upto_if 43 with (with_reducible refine HAL.out.mono ?_;rintro e w' ⟨rfl,rfl⟩)
 clear HAL;generalize hal:allOn s2=al at*;clear hal
 go_cut [] (fun wx=>Hid (NdIs B w0 wx x p3.1 p3.2 ss))
 case first=>
  cases al with
  | true=>
   have hp3:=HP3.out.trans (if_pos rfl);have H4:Hid (NdIs B w0 wc x p3.1 p3.2 ss):=zq (by rw [hp3];exact H3.out);clear hp3 H3 HP3
   go_wp2_with fail
   go_meet
   exact H4
  | false=>
   have hp3:=HP3.out.trans (if_neg (by simp));have hid0:=H3.out.ok.id0;have hid1:=H3.out.ok.id1;have hptl:=H3.out.ok.pts;have hf4:=H3.out.ok.c.f2;have hpk:3*(s2.c.f:Int)+1≤(x.pk:Int):=by have:=H3.out.caps.2.1;omega
   obtain ⟨i,hi⟩: ∃i:Nat,s2.id=i:=⟨s2.id.toNat,by omega⟩;have hip:i<s2.pts.length:=by omega
   have hiI:(i:Int)<3*(s2.c.f:Int)+1:=by omega
   have hi0:(0:Int)≤(i:Int):=by omega
   obtain ⟨⟨qv,qfm,vv,qvs,cv,qcts,qsl⟩,hq,hcell,-,hn1,hn2,h2⟩:=H3.out.part i hip;obtain ⟨r,hs,-⟩:=h2.side;obtain ⟨a1,c1,rfl⟩: ∃a c,vv= .slice a qvs.length c:=let ⟨a,c,e,_⟩:=zae (k:=0) hs rfl;⟨a,c,e⟩;obtain ⟨a2,c2,rfl⟩: ∃a c,cv= .slice a qcts.length c:=let ⟨a,c,e,_⟩:=zae (k:=1) hs rfl;⟨a,c,e⟩;have q1:=hcell 1 (by omega);have q2:=hcell 2 (by omega);have q3:=hcell 3 (by omega);have q4:=hcell 4 (by omega);simp only [pqC,za1,Nat.add_zero,List.getElem?_cons_zero,List.getElem?_cons_succ] at q1 q2 q3 q4;have hvm:vcMs s2=⟨7,0,s2.view,0,0,0,[],qvs,qcts.map Ct.cp,[]⟩:=by
    unfold vcMs;have e:s2.pts.getD s2.id.toNat (0,noPa)=(qv,Pt.pa ⟨qfm,.slice a1 qvs.length c1,qvs,.slice a2 qcts.length c2,qcts,qsl⟩):=by
     rw [hi,Int.toNat_natCast,List.getD_eq_getElem?_getD,List.getElem?_eq_getElem hip,Option.getD_some,←hq]
    simp only [e];rfl
   rw [hvm] at hp3;have HP:=zq hp3;have c24:wc.cell? ⟨x.p,24,none⟩=some (slI x.pt (3*s2.c.f+1) x.pk):=H3.out.cell 24 rfl (by decide);have c15:wc.cell? ⟨x.p,15,none⟩=some (.int .i64 i):=by have:=H3.out.cell 15 rfl (by decide);rw [hi] at this;exact this
   have H5:=zq (h2.box (.cells #[.int .i64 qfm,.slice a1 qvs.length c1,.slice a2 qcts.length c2,.int .i64 qsl] 49 (0,0))).drew;have HSZ:Hid (qvs.length≤100000∧qcts.length≤100000):=zq ⟨hn1,hn2⟩;clear hp3 hvm hi hs h2 hcell hq HP3 H3 hip
   go_upto_region 8 with fail
   refine Held.wp_held [(x.p,24,[slI x.pt (3*s2.c.f+1) x.pk]),(x.p,15,[.int .i64 i]),(x.pt,i*5+1,[.int .i64 qfm,.slice a1 qvs.length c1,.slice a2 qcts.length c2,.int .i64 qsl])] [(3,0),(7,1),(10,2)] [12] [] (by kernel_rfl) (by kernel_rfl) ⟨⟨c24,trivial⟩,⟨c15,trivial⟩,⟨q1,q2,q3,q4,trivial⟩,trivial⟩ ?_;simp only [Held.cutAt,Held.walk,List.take_succ_cons,List.take_zero,List.drop_succ_cons,List.drop_zero]
   go_wp2_with fail
   refine ⟨trivial,by rfl,⟨⟨rfl,.inl ⟨by kernel_rfl,rfl⟩⟩,⟨rfl,.inl ⟨by kernel_rfl,rfl⟩⟩,⟨rfl,.inr ⟨by kernel_rfl,by kernel_rfl⟩⟩,trivial⟩,?_⟩;clear q1 q2 q3 q4 c24 c15
   go_upto_region 9 with fail
   have H5:Hid (NdIs B w0 (wc.alloc (.cells #[.int .i64 qfm,.slice a1 qvs.length c1,.slice a2 qcts.length c2,.int .i64 qsl] 49 (0,0))).drew x s2 l2 (blk wc.heap.size (.cells #[.int .i64 qfm,.slice a1 qvs.length c1,.slice a2 qcts.length c2,.int .i64 qsl] 49 (0,0))::redR (.slice a1 qvs.length c1) 2 qvs.length (zan qvs)::redR (.slice a2 qcts.length c2) 5 qcts.length (qcts.flatMap zar)::ctsR qcts::ss)):=H5;generalize wc.heap.size=e5 at*;generalize World.drew (World.alloc wc _)=w5 at*;obtain ⟨rr,hr,-⟩:=H5.out.drew.side;have d1:=zaa (hr.blkAt 0 rfl) 1 rfl;have d2:=zaa (hr.blkAt 0 rfl) 2 rfl;have c29:w5.drew.cell? ⟨x.p,29,none⟩=some (.int .i64 s2.view):=H5.out.drew.cell 29 rfl (by decide);have H6:=zq (H5.out.drew.onSide (ss':=mmR (vcMm 0 s2.view (.slice a1 qvs.length c1) qvs (.slice a2 qcts.length c2) qcts) ss) (fun r hr=>own_vcm (rs:=ss++[r]) hr.drop.rot'));have HS:=zq (zjf (m:=vcMm 0 s2.view (.slice a1 qvs.length c1) qvs (.slice a2 qcts.length c2) qcts) (s2,l2) H6.out ⟨by simp,HSZ.out.1,HSZ.out.2,by simp⟩ (by simp only;omega) (by simp only;omega));rw [show (vcMm 0 s2.view (.slice a1 qvs.length c1) qvs (.slice a2 qcts.length c2) qcts).ms=⟨7,0,s2.view,0,0,0,[],qvs,qcts.map Ct.cp,[]⟩ from rfl,←HP.out] at HS;clear hr H5 H6 HP HSZ;refine Mix.wp_text2 (by kernel_rfl) (by kernel_rfl) ?_
   go_wp2_with fail
   with_reducible refine HS.out.mono ?_
   rintro e w6 ⟨⟨sv,sb,rfl⟩,h6⟩;have H6:=zq h6;clear h6 HS d1 d2 c29
   go_wp2_with fail
   refine ⟨by rfl,?_⟩
   go_wp2_with fail
   go_meet
   exact H6
 case rest=>
 have H4:=hcut;clear H3 HP3 hcut HS2 HC2 hn2 hq2;have hs3:=HO3.out.same;have hc3:=HO3.out.c;have hn3:=HO3.out.nt;have hq3:=HO3.out.outl;obtain ⟨s3,l3⟩:=p3;simp only at hs3 hc3 hn3 hq3 H4;have HS3:=zq hs3;have HC3:=zq hc3;have hf3:=H4.out.ok.c.f2;have hbl:=H4.out.ok.bg;have hbk:(s3.c.f:Int)+1≤(x.bgk:Int):=by have:=H4.out.caps.2.2.1;omega
 clear hs3 hc3;have c25:wc.cell? ⟨x.p,25,none⟩=some (slI x.bg (s3.c.f+1) x.bgk):=H4.out.cell 25 rfl (by decide)
 go_upto_block 2 with fail
 go_cut [] (fun wx=>Hid (NdIs B w0 wx x p4.1 p4.2 ss))
 case first=>
  go_wp2_with fail
  go_loopw [71] (fun n wr=> ∃k:Nat,k≤s3.c.f+1∧n= .int .i64 k∧Hid (NdIs B w0 wr x (ag4 (s3,l3) k).1 (ag4 (s3,l3) k).2 ss)) (fun n _=>s3.c.f+1-(intOf n).toNat)
  case atStart=>exact ⟨0,by omega,rfl,H4⟩
  case round=>
   clear H4 c25;obtain ⟨k,hk,rfl,H⟩:=hrel;have hk0:(0:Int)≤(k:Int):=by omega
   by_cases hlt:k<s3.c.f+1
   ·have hkI:(k:Int)<(s3.c.f:Int)+1:=by omega
    have hO:=outs_ag4 (s3,l3) hf3 k;have h1:=hO.nt;have h2:=hO.outl;have h4:=hO.same;have HST:=zq (zzj (s3,l3) k (by simp only;omega));obtain ⟨p,hp⟩: ∃p,p=ag4 (s3,l3) k:=⟨_,rfl⟩;rw [←hp] at h1 h2 h4 HST H;obtain ⟨s4,l4⟩:=p;simp only at h1 h2 h4 H;obtain ⟨e1,-,-,-,-,-,-,-,e9,-⟩:=h4;have hkb:k<s4.bg.length:=by rw [e9];omega
    obtain ⟨⟨qv,mm⟩,hq,hcell,-,hmok,h5⟩:=H.out.begn k hkb;have HBG:Hid (s3.bg[k]'(by omega)=(qv,mm.ms)):=zq (by simp only at hq;rw [hq];simp only [e9]);have HST2:Hid (ag4 (s3,l3) (k+1)=if qv=s4.view∧0<qv then sendS (s4,l4) mm.ms else (s4,l4)):=zq (by
     have:=HST.out;simp only at this;rw [HBG.out,zzy] at this;exact this)
    obtain ⟨kind,fm,view,inst,seq,res,a1,rs,c1,a2,vs,c2,a3,cts,c3,a4,pts,c4,rfl⟩:=zwa h5;have t0:=hcell 0 (by omega);have t1:=hcell 1 (by omega);have t2:=hcell 2 (by omega);have t3:=hcell 3 (by omega);have t4:=hcell 4 (by omega);have t5:=hcell 5 (by omega);have t6:=hcell 6 (by omega);have t7:=hcell 7 (by omega);have t8:=hcell 8 (by omega);have t9:=hcell 9 (by omega);have t10:=hcell 10 (by omega);simp only [bgC,mmA,Nat.add_zero,List.getElem?_cons_zero,List.getElem?_cons_succ] at t0 t1 t2 t3 t4 t5 t6 t7 t8 t9 t10;have H6:=zq (h5.box (.cells #[.int .i64 qv,.int .i64 kind,.int .i64 fm,.int .i64 view,.int .i64 inst,.int .i64 seq,.int .i64 res,.slice a1 rs.length c1,.slice a2 vs.length c2,.slice a3 cts.length c3,.slice a4 pts.length c4] 262 (0,0)));have HMO:=zq hmok;clear hO hp hq hcell h5 HST HBG H hmok e1 e9 hkb
    go_upto_region 13 with fail
    clear t0 t1 t2 t3 t4 t5 t6 t7 t8 t9 t10;generalize wr.heap.size=e5 at*;generalize World.alloc wr _=w5 at*;obtain ⟨rr,hr,-⟩:=H6.out.side;have d0:=zaa (hr.blkAt 0 rfl) 0 rfl;have c29:w5.cell? ⟨x.p,29,none⟩=some (.int .i64 s4.view):=H6.out.cell 29 rfl (by decide);clear hr;by_cases hv:qv=s4.view∧0<qv
    ·have b1:(qv==s4.view)=true:=by simp [hv.1]
     have b2:decide (0<qv)=true:=by simp [hv.2]
     have HE:=zq (HST2.out.trans (if_pos hv));clear HST2 hv
     go_quiet (fail)
     generalize hw:World.drewN w5 _=w6;have H7:Hid (NdIs B w0 w6 x s4 l4 _):=zq (by rw [←hw];exact H6.out.drewN _);clear hw H6 d0 c29;obtain ⟨rr,hr,-⟩:=H7.out.side;have d1:=zaa (hr.blkAt 0 rfl) 1 rfl;have d2:=zaa (hr.blkAt 0 rfl) 2 rfl;have d3:=zaa (hr.blkAt 0 rfl) 3 rfl;have d4:=zaa (hr.blkAt 0 rfl) 4 rfl;have d5:=zaa (hr.blkAt 0 rfl) 5 rfl;have d6:=zaa (hr.blkAt 0 rfl) 6 rfl;have d7:=zaa (hr.blkAt 0 rfl) 7 rfl;have d8:=zaa (hr.blkAt 0 rfl) 8 rfl;have d9:=zaa (hr.blkAt 0 rfl) 9 rfl;have d10:=zaa (hr.blkAt 0 rfl) 10 rfl;clear hr;have HS:=zq (zjf (s4,l4) H7.out.drop HMO.out (by simp only;omega) (by simp only;omega));rw [←HE.out] at HS;clear H7 HE HMO
     go_wp2_with fail
     with_reducible refine HS.out.mono ?_
     rintro e w7 ⟨⟨sv,sb,rfl⟩,h7⟩;have H8:=zq h7;clear h7 HS d1 d2 d3 d4 d5 d6 d7 d8 d9 d10
     go_wp2_with fail
     go_roundw
     case rel=>exact ⟨k+1,by omega,by go_num,H8⟩
     case measure=>simp [intOf];omega
    ·have HE:=zq (HST2.out.trans (if_neg hv))
     have H7:Hid (∀n,NdIs B w0 (w5.drewN n) x (ag4 (s3,l3) (k+1)).1 (ag4 (s3,l3) (k+1)).2 ss):=zq (fun n=>by rw [HE.out];exact zih (H6.out.drop.drewN n));by_cases hv1:qv=s4.view
     ·have b1:(qv==s4.view)=true:=by simp [hv1]
      have b2:decide (0<qv)=false:=by simp;omega
      clear HST2 hv hv1 HE H6 HMO
      go_quiet (fail)
      go_wp2_with fail
      go_roundw
      case rel=>exact ⟨k+1,by omega,by go_num,zq (H7.out _)⟩
      case measure=>simp [intOf];omega
     ·have b1:(qv==s4.view)=false:=by simp [hv1]
      clear HST2 hv hv1 HE H6 HMO
      go_quiet (fail)
      go_wp2_with fail
      go_roundw
      case rel=>exact ⟨k+1,by omega,by go_num,zq (H7.out _)⟩
      case measure=>simp [intOf];omega
   ·obtain rfl:k=s3.c.f+1:=by omega
    have hkI:decide (((s3.c.f+1:Nat):Int)<(s3.c.f:Int)+1)=false:=by simp
    have HF:Hid (NdIs B w0 wr x p4.1 p4.2 ss):=zq (by
     rw [HP4.out];have:=H.out;unfold ag4 at this;simp only [←hbl,List.take_length] at this;exact this)
    clear H
    go_wp2_with fail
    go_meet
    exact HF
 case rest=>
 have H5:=hcut;have ho4:=zio (s3,l3) hf3;rw [←HP4.out] at ho4;simp only [hbl] at ho4;have ho4:=ho4.mono (m:=65) (by omega);have hn4:=ho4.nt;have hq4:=ho4.outl;clear H4 HP4 hcut HS3 HC3 hbl hbk c25;obtain ⟨s4,l4⟩:=p4;simp only at hn4 hq4 H5;have hn4:l4.length≤301000000:=by omega
 have hq4:s4.out.length≤301000000:=by omega
 clear ho4 hn3 hq3 hf3 HO1 HO2 HO3;have hf4:=H5.out.ok.c.f2;have hil:=H5.out.ok.ins;have hic:(s4.c.f:Int)+1≤(x.ic:Int):=by have:=H5.out.caps.1;omega
 have c18:wc.cell? ⟨x.p,18,none⟩=some (slI x.ib (s4.c.f+1) x.ic):=H5.out.cell 18 rfl (by decide)
 go_upto_block 4 with fail
 go_cut [] (fun wx=>Hid (NdIs B w0 wx x p5.1 p5.2 ss))
 case first=>
  go_wp2_with fail
  go_loopw [97] (fun n wr=> ∃k:Nat,k≤s4.c.f+1∧n= .int .i64 k∧Hid (NdIs B w0 wr x (ag5 (s4,l4) k).1 (ag5 (s4,l4) k).2 ss)) (fun n _=>s4.c.f+1-(intOf n).toNat)
  case atStart=>exact ⟨0,by omega,rfl,H5⟩
  case round=>
   clear H5 c18;obtain ⟨k,hk,rfl,H⟩:=hrel;have hk0:(0:Int)≤(k:Int):=by omega
   by_cases hlt:k<s4.c.f+1
   ·have hkI:(k:Int)<(s4.c.f:Int)+1:=by omega
    have hO:=(outs_ag5 (s4,l4) hf4 k).mono (m:=65) (by simp only [hil];omega);have h1:=hO.nt;have h2:=hO.outl;have h4:=hO.same;have h5:=hO.c;have HST:=zq (zzk (s4,l4) k (by simp only;omega));obtain ⟨p,hp⟩: ∃p,p=ag5 (s4,l4) k:=⟨_,rfl⟩;rw [←hp] at h1 h2 h4 h5 HST H;obtain ⟨s5,l5⟩:=p;simp only at h1 h2 h4 h5 H;obtain ⟨-,-,-,e4,-,-,-,-,-,-⟩:=h4;have hk5:k<s5.c.f+1:=by rw [h5];exact hlt
    obtain ⟨i,hi,ci⟩:=H.out.iAt hk5;have HIN:Hid (s4.ins[k]'(by omega)=insAt s5 k):=zq (by rw [zay s5 k (by rw [e4];omega)];simp only [e4]);have h16:=zsl H.out hk5;have hdn16:doneI (insAt s5 k)≤16:=by have:=zro (st:=insAt s5 k);omega
    have HDN:=zq (zyq H.out k hk5 hi);have HI:=zq hi;have HE:=zq (HST.out.trans (by simp only [HIN.out];exact pfOne_is s5 l5 (insAt s5 k)));have HSM:Hid (InSm (insAt s5 k)):=zq (by rw [zay s5 k (by rw [e4];omega)];exact (H.out.ok.insk k (by rw [e4];omega)).2.2.2);have hno0:=H.out.ok.now0;have hno1:=H.out.ok.now1;have hag1:=H.out.ok.c.ag1;have hag2:=H.out.ok.c.ag2;clear hO hp h5 e4 HST HIN hi h16;generalize hst:insAt s5 k=st at*;have HSTE:=zq hst;clear hst;obtain ⟨dn,hdn⟩: ∃dn,dn=doneI st:=⟨_,rfl⟩;rw [←hdn] at HDN HE hdn16;clear hdn
    go_wp2_with fail
    with_reducible refine HDN.out.mono ?_
    rintro e w' ⟨rfl,rfl⟩;clear HDN ci;by_cases h0:0<dn
    ·have h0I:(0:Int)<(dn:Int):=by omega
     have HE:=zq (HE.out.trans (if_pos h0));obtain ⟨sq,hsq⟩: ∃sq,sq=1+(s5.now/s5.c.ag)%(dn:Int):=⟨_,rfl⟩;rw [←hsq] at HE;have hz1:(s5.c.ag==0)=false:=by rw [beq_eq_false_iff_ne];omega
     have hz2:((dn:Int)==0)=false:=by rw [beq_eq_false_iff_ne];omega
     have c17:wr.drew.cell? ⟨x.p,17,none⟩=some (ptrV x.t):=H.out.drew.cell 17 rfl (by decide);have c13:wr.drew.cell? ⟨x.p,13,none⟩=some (.int .i64 s5.c.ag):=H.out.drew.cell 13 rfl (by decide);have hdz:s5.c.ag≠0:=by omega
     have hdz2:(dn:Int)≠0:=by omega
     have hdz3:dn≠0:=by omega
     have hdz4: ¬dn=0:=hdz3;obtain ⟨qt,hqt⟩: ∃qt,qt=s5.now/s5.c.ag:=⟨_,rfl⟩;have e1:0≤qt:=by rw [hqt];exact Int.ediv_nonneg hno0 (by omega)
     have e2:qt≤s5.now:=by rw [hqt];exact Int.ediv_le_self _ hno0
     have htd:s5.now.tdiv s5.c.ag=qt:=by rw [hqt];exact Int.tdiv_eq_ediv_of_nonneg hno0
     rw [←hqt] at hsq;obtain ⟨rm,hrm⟩: ∃rm,rm=qt%(dn:Int):=⟨_,rfl⟩;have hm0:0≤rm:=by rw [hrm];exact Int.emod_nonneg _ (by omega)
     have hm1:rm<dn:=by rw [hrm];exact Int.emod_lt_of_pos _ h0I
     have htm:qt.tmod dn=rm:=by rw [hrm];exact Int.tmod_eq_emod_of_nonneg e1
     rw [←hrm] at hsq;have hwq:IntKind.i64.wrap qt=qt:=IntWalk.i64_in _ (by omega);have hwr:IntKind.i64.wrap rm=rm:=IntWalk.i64_in _ (by omega);have hws:IntKind.i64.wrap (1+rm)=sq:=by rw [hsq];exact IntWalk.i64_in _ (by omega)
     clear hsq hqt hrm e2;obtain ⟨cp,hcp⟩: ∃cp,cp=(zai st sq).getD noCp:=⟨_,rfl⟩;rw [←hcp] at HE;have HN1:=zq (zh4 H.out.drew);have HN2:=zq (zh4 (H.out.box zct).drew);have HC1:=zq (zyp H.out.drew k hk5 HI.out sq);have HC2:=zq (zyp (H.out.box zct).drew k hk5 HI.out sq);rw [HSTE.out,←hcp] at HC1 HC2;have e0:PA x.p x.t s5.c.ag wr.drew:=⟨c17,c13⟩;have e0a:PA x.p x.t s5.c.ag (wr.alloc zct).drew:=(H.out.box zct).drew.pa;clear c17 c13 hcp HSM H
     go_upto_region 21 with fail
     go_cut [9] (fun t wx=> ∃e9:Nat,t=ptrV e9∧ ∃(cv ci cq:Int) (a1:Option Addr) (k1:Nat) (rs:List Rq) (a2:Option Addr) (k2:Nat) (vs:Vs),Hid (Ct.cp ⟨cv,ci,cq,.slice a1 rs.length k1,.slice a2 vs.length k2,rs,vs⟩=cp)∧Hid (NdIs B w0 wx x s5 l5 (blk e9 (ctO cv ci cq (.slice a1 rs.length k1) (.slice a2 vs.length k2))::ctsR [⟨cv,ci,cq,.slice a1 rs.length k1,.slice a2 vs.length k2,rs,vs⟩]::ss)))
     case first=>
      clear HE
      go_region_held3 (fun w'=>PA x.p x.t s5.c.ag w')
       (first | (with_reducible exact e0) | (with_reducible exact e0a) | (with_reducible exact e1) | (with_reducible exact zs7 e1) | (with_reducible exact zs7 e0) | (with_reducible exact e2))
       (first
        | (go_at_call 90;first | ((with_reducible refine HN1.out.mono ?_);rintro e w' ⟨rfl,rfl⟩) | ((with_reducible refine HN2.out.mono ?_);rintro e w' ⟨rfl,rfl⟩))
        | (go_at_call 110;first
         | ((with_reducible refine HC1.out.mono ?_);rintro e w3 ⟨cv,ci,cq,a1,k1,rs,a2,k2,vs,bb,rfl,hcp,h3⟩;have e1:=h3.pa;have HCP:=zq hcp;have H3:=zq h3;clear h3 hcp)
         | ((with_reducible refine HC2.out.mono ?_);rintro e w3 ⟨cv,ci,cq,a1,k1,rs,a2,k2,vs,bb,rfl,hcp,h3⟩;have e1:=h3.pa;have HCP:=zq hcp;have H3:=zq h3;clear h3 hcp;obtain ⟨r3,hs3,-⟩:=H3.out.side;have y:=hs3.blkAt 1 rfl;have x0:=zaa y 0 rfl;have z0:=zac y 0;have x1:=zaa y 1 rfl;have z1:=zac y 1;have x2:=zaa y 2 rfl;have z2:=zac y 2;have x3:=zaa y 3 rfl;have z3:=zac y 3;have x4:=zaa y 4 rfl;have z4:=zac y 4;clear y hs3;have H4:=zq (nd_5c (cv:=cv) (ci:=ci) (cq:=cq) (vb:= .slice a1 rs.length k1) (vv:= .slice a2 vs.length k2) H3.out);have e2:=H4.out.pa)))
      all_goals clear e0 e0a e1 HN1 HN2 HC1 HC2
      ·go_wp2_with fail
       go_meet
       exact ⟨_,rfl,cv,ci,cq,a1,k1,rs,a2,k2,vs,HCP,zq (H3.out.box (ctO cv ci cq (.slice a1 rs.length k1) (.slice a2 vs.length k2)))⟩
      ·go_wp2_with fail
       go_meet
       exact ⟨_,rfl,cv,ci,cq,a1,k1,rs,a2,k2,vs,HCP,H4⟩
      ·go_wp2_with fail
       go_meet
       exact ⟨_,rfl,cv,ci,cq,a1,k1,rs,a2,k2,vs,HCP,H4⟩
     case rest=>
     obtain ⟨e9,rfl,cv,ci,cq,a1,k1,rs,a2,k2,vs,HCP,H8⟩:=hcut;clear e0 e0a HN1 HN2 HC1 HC2;have H9:=zq (H8.out.prf 0 1 (c:=⟨cv,ci,cq,.slice a1 rs.length k1,.slice a2 vs.length k2,rs,vs⟩) rfl (by simp));have HS:=zq (zjf (m:=pfX 0 ⟨cv,ci,cq,.slice a1 rs.length k1,.slice a2 vs.length k2,rs,vs⟩ (.slice (some ⟨wc.heap.size,0,none⟩) 1 1)) (s5,l5) H9.out ⟨by simp,by simp,by simp,by simp⟩ (by simp only;omega) (by simp only;omega));rw [show (pfX 0 ⟨cv,ci,cq,.slice a1 rs.length k1,.slice a2 vs.length k2,rs,vs⟩ (.slice (some ⟨wc.heap.size,0,none⟩) 1 1)).ms=pfM (Ct.cp ⟨cv,ci,cq,.slice a1 rs.length k1,.slice a2 vs.length k2,rs,vs⟩) from rfl,HCP.out,←HE.out] at HS;obtain ⟨rr,hr,-⟩:=H8.out.side;have y0:=zaa (hr.blkAt 0 rfl) 0 rfl;have y1:=zaa (hr.blkAt 0 rfl) 1 rfl;have y2:=zaa (hr.blkAt 0 rfl) 2 rfl;have y3:=zaa (hr.blkAt 0 rfl) 3 rfl;have y4:=zaa (hr.blkAt 0 rfl) 4 rfl;clear hr H8 H9 HE HCP
     go_wp2_with fail
     with_reducible refine HS.out.mono ?_
     rintro e w9 ⟨⟨sv,sb,rfl⟩,h9⟩;have HF:=zq h9.drop.drop;clear h9 HS y0 y1 y2 y3 y4
     go_wp2_with fail
     go_roundw
     case rel=>exact ⟨k+1,by omega,by go_num,HF⟩
     case measure=>simp [intOf];omega
    ·obtain rfl:dn=0:=by omega
     have HF:Hid (NdIs B w0 wr x (ag5 (s4,l4) (k+1)).1 (ag5 (s4,l4) (k+1)).2 ss):=zq (by rw [HE.out.trans (if_neg h0)];exact H.out);clear HE h0 H HSM
     go_wp2_with fail
     go_roundw
     case rel=>exact ⟨k+1,by omega,by go_num,HF⟩
     case measure=>simp [intOf];omega
   ·obtain rfl:k=s4.c.f+1:=by omega
    have hkI:decide (((s4.c.f+1:Nat):Int)<(s4.c.f:Int)+1)=false:=by simp
    have HF:Hid (NdIs B w0 wr x p5.1 p5.2 ss):=zq (by
     rw [HP5.out];have:=H.out;unfold ag5 at this;simp only [←hil,List.take_length] at this;exact this)
    clear H
    go_wp2_with fail
    go_meet
    exact HF
 case rest=>
 have H6:=hcut;have ho5:=ziq (s4,l4) hf4;rw [←HP5.out] at ho5;simp only [hil] at ho5;have ho5:=ho5.mono (m:=65) (by omega);have hn5:=ho5.nt;have hq5:=ho5.outl;clear H5 HP5 hcut hil hic c18;obtain ⟨s5,l5⟩:=p5;simp only at hn5 hq5 H6;have hn5:l5.length≤302000000:=by omega
 have hq5:s5.out.length≤302000000:=by omega
 clear ho5 hn4 hq4 hf4;have hf5:=H6.out.ok.c.f2;have hid0:=H6.out.ok.id0;have hlen:(zby s5.tab).length≤16:=by have:=zlm s5.tab;have:=zga H6.out.ok.tab H6.out.ok.c.cl2;omega
 have c19:wc.cell? ⟨x.p,19,none⟩=some (ptrV x.tb):=H6.out.cell 19 rfl (by decide);have HTA:=zq (nd_tall H6.out);obtain ⟨ta,hta⟩: ∃ta,ta=zby s5.tab:=⟨_,rfl⟩;rw [←hta] at HTA hlen;have HTE:=zq hta;clear hta
 go_wp2_with fail
 with_reducible refine HTA.out.mono ?_
 rintro e w7 ⟨ao,cap,rfl,h7⟩;have H7:=zq h7;clear h7 HTA c19 H6
 go_wp2_with fail
 go_loopw [136] (fun n wr=> ∃k:Nat,k≤ta.length∧n= .int .i64 k∧Hid (NdIs B w0 wr x (ag6 (s5,l5) k).1 (ag6 (s5,l5) k).2 (batR (.slice ao ta.length cap) ta::ss))) (fun n _=>ta.length-(intOf n).toNat)
 case atStart=>exact ⟨0,by omega,rfl,H7⟩
 case round=>
  clear H7;obtain ⟨k,hk,rfl,H⟩:=hrel;have hk0:(0:Int)≤(k:Int):=by omega
  by_cases hlt:k<ta.length
  ·have hkI:(k:Int)<(ta.length:Int):=by omega
   have hO:=(outs_ag6 (s5,l5) hf5 k).mono (m:=208) (by simp only;rw [←HTE.out];omega);have h1:=hO.nt;have h2:=hO.outl;have h4:=hO.same;have HST:=zq (zzl (s5,l5) k (by simp only;rw [←HTE.out];exact hlt));obtain ⟨p,hp⟩: ∃p,p=ag6 (s5,l5) k:=⟨_,rfl⟩;rw [←hp] at h1 h2 h4 HST H;obtain ⟨s6,l6⟩:=p;simp only at h1 h2 h4 H;obtain ⟨-,-,-,-,-,e6,-,-,-,-⟩:=h4;have HE:Hid (ag6 (s5,l5) (k+1)=if zhy s6.tab ta[k] s6.id then propS (s6,l6) ta[k] else (s6,l6)):=zq (by
    rw [HST.out];simp only [←HTE.out];exact zuf s6 l6 ta[k])
   obtain ⟨r0,hs,-⟩:=H.out.side;obtain ⟨ao',cap',hv',hbc,-,-,-,h5⟩:=zgw (hs.get 0 rfl);simp only [Value.slice.injEq] at hv';obtain ⟨rfl,-,rfl⟩:=hv';obtain ⟨b,o,rfl,hbs,hcs⟩:=h5 (by omega);obtain ⟨q0,q1,q2,q3,q4,q5⟩:=zb8 hcs k ta[k] (by simp);have hbcI:(ta.length:Int)≤(cap:Int):=by omega
   clear hO hp e6 HST hcs h5 hbs hbc hs;generalize hrk:ta[k]=r at*;clear hrk;have H8:=zq (H.out.box (rqO r));clear H
   go_upto_region 27 with fail
   clear q0 q1 q2 q3 q4 q5;generalize wr.heap.size=e0 at*;generalize World.alloc wr _=w8 at*;obtain ⟨rr,hr,-⟩:=H8.out.drew.side;have b0:=zaa (hr.blkAt 0 rfl) 0 rfl;have b1:=zaa (hr.blkAt 0 rfl) 1 rfl;have b2:=zaa (hr.blkAt 0 rfl) 2 rfl;have b3:=zaa (hr.blkAt 0 rfl) 3 rfl;have b4:=zaa (hr.blkAt 0 rfl) 4 rfl;have b5:=zaa (hr.blkAt 0 rfl) 5 rfl;have c19:=H8.out.drew.cell 19 rfl (by decide);have c15:=H8.out.drew.cell 15 rfl (by decide);have HHA:=zq (nd_has H8.out.drew r s6.id);clear hr;unfold rqAgg at HHA;cases hha:zhy s6.tab r s6.id with
   | true=>
    rw [hha] at HHA HE;have HE2:=zq (HE.out.trans (if_pos rfl));clear hha HE;refine Mix.wp_text2 (by kernel_rfl) (by kernel_rfl) ?_
    go_wp2_with fail
    with_reducible refine HHA.out.mono ?_
    rintro e w9 ⟨rfl,hu⟩;have H9:=zq (H8.out.drew.upd0 hu);clear hu HHA H8 b0 b1 b2 b3 b4 b5 c19 c15
    go_wp2_with fail
    refine ⟨by rfl,?_⟩;obtain ⟨rr,hr,-⟩:=H9.out.side;have b0:=zaa (hr.blkAt 0 rfl) 0 rfl;have b1:=zaa (hr.blkAt 0 rfl) 1 rfl;have b2:=zaa (hr.blkAt 0 rfl) 2 rfl;have b3:=zaa (hr.blkAt 0 rfl) 3 rfl;have b4:=zaa (hr.blkAt 0 rfl) 4 rfl;have b5:=zaa (hr.blkAt 0 rfl) 5 rfl;have HPR:=zq (zje H9.out.drop r (by omega) (by omega));rw [←HE2.out] at HPR;unfold rqAgg at HPR;clear hr HE2 H9
    go_wp2_with fail
    with_reducible refine HPR.out.mono ?_
    rintro e w10 ⟨rfl,h10⟩;have HF:=zq h10;clear h10 HPR b0 b1 b2 b3 b4 b5
    go_wp2_with fail
    go_roundw
    case rel=>exact ⟨k+1,by omega,by go_num,HF⟩
    case measure=>simp [intOf];omega
   | false=>
    rw [hha] at HHA HE;have HE2:=zq (HE.out.trans (if_neg (by simp)));clear hha HE;refine Mix.wp_text2 (by kernel_rfl) (by kernel_rfl) ?_
    go_wp2_with fail
    with_reducible refine HHA.out.mono ?_
    rintro e w9 ⟨rfl,hu⟩;have H9:=zq (H8.out.drew.upd0 hu).drop;clear hu HHA H8 b0 b1 b2 b3 b4 b5 c19 c15
    go_wp2_with fail
    refine ⟨by rfl,?_⟩
    go_wp2_with fail
    go_roundw
    case rel=>exact ⟨k+1,by omega,by go_num,zq (by rw [HE2.out];exact H9.out)⟩
    case measure=>simp [intOf];omega
  ·obtain rfl:k=ta.length:=by omega
   have hkI:decide ((ta.length:Int)<(ta.length:Int))=false:=by simp
   have HF:Hid (NdIs B w0 wr x fin.1 fin.2 ss):=zq (by
    rw [HFIN.out];have:=H.out.drop;unfold ag6 at this;rw [HTE.out] at this;simp only [List.take_length] at this;exact this)
   clear H
   go_wp2_with fail
   refine bodyPost_end (results_none rfl _ _ _) rfl ?_;exact ⟨rfl,HF.out⟩
end
end Go.Proofs.YtannckelmojkoaaGreat
namespace Go.Heap
open Go.RowKit
theorem zl1 {P:Program} {w:World} {ops:Array Oper} {rest:List Oper} {o:Oper} {a:Act} {Q:Exit→Act→World→Prop} (hgd:o.guard=none) (x:Operand) (t:TypeId)
  (ho:o.op= .call {callee:= .builtin .append,args:=#[.const (.slice none 0 0),x],argTypes:=#[t,t]})
  (e:TypeId) (i:TypeInfo) (z:Value) (size bytes:Nat) (ht:P.underlying t=some (.slice e)) (hi:P.info? e=some i) (hz:i.zero=some z)
  (hsize:i.size=size) (hby:i.bytes=bytes) (hzs:z.cells.size=size) (hsz:0<size)
  (b:Nat) (n cap:Nat) (xs:List Value) (hx:a.eval x= .slice (some ⟨b,0,none⟩) n cap) (hl3:xs.length=n*size) (hc: ∀j,j<n*size→w.cell? ⟨b,j,none⟩=xs[j]?) (h1: ∀u∈xs,u.oneCell'=true) (hbytes:n*bytes≤140737488355328) (hmx:n≤maxLen)
  (h: ∀v' w',w'.ownsRow w.heap.size e size v' n xs→Upd [] w w'→wpList P ops Q rest (a.put o.dst v') w'):wpList P ops Q (o::rest) a w:=by
 have hnews: ∀j u,xs[j]?=some u→w.cell? ((⟨b,0,none⟩:Addr).add j)=some u:=by
  intro j u hj;have hlt:=(List.getElem?_eq_some_iff.1 hj).1;have:(⟨b,0,none⟩:Addr).add j=⟨b,0+j,none⟩:=by unfold Addr.add;split<;>simp_all
  rw [this,Nat.zero_add,hc j (by omega)];exact hj
 refine wpList_append_own w hgd (.const (.slice none 0 0)) x t ho w.heap.size e i z size bytes ht hi hz hsize hby hzs hsz (.slice none 0 0) 0 [] rfl (World.ownsRow_nil _ _ _ _) ⟨b,0,none⟩ n cap xs hx hl3 hnews h1 (by rw [Nat.zero_add];omega) (by rw [Nat.zero_add];exact hbytes) (Nat.le_refl _) ?_;intro v' w' hown hgrow _;rw [Nat.zero_add,List.nil_append] at hown;exact h v' w' hown ((Upd.refl _ _).grown hgrow (by intro k hk;simp [Value.ownBlock] at hk))
end Go.Heap
namespace Go.Proofs.YtannckelmojkoaaGreat
open Go.RowKit Go.Heap
theorem zwq {W:World} {E sz b o n cap:Nat} {xs:List Value} {A:List Nat} (h:(ownR E sz (.slice (some ⟨b,o,none⟩) n cap) n xs).At W A):o=0:=by
 obtain ⟨hx,h2⟩:=zal h;rcases h2 with ⟨h3,-⟩ | ⟨g',cap',cur,h3,-⟩
 ·cases h3
 ·cases h3
  rfl
theorem mtC_one (l:List (Int×Int)): ∀u∈mtC l,u.oneCell'=true:=by
 intro u hu;unfold mtC at hu;obtain ⟨q,-,rfl⟩:=List.mem_map.1 hu;rfl
section
variable {B:Nat} {w0 w W W':World} {ss rs:List Res} {x:Np} {s s':Ns} {l l':Nt} {k:Nat}
theorem mall_any {m g cap:Nat} {z:List (Int×Int)} (h:Own B w0 W (mtL m g z.length cap z++ss)) (hz:z.length≤100):
  Calls Tryz.prog 95 #[ptrV m] W fun e w'=> ∃v,e= .returned v∧Own B w0 w' (ownR 269 1 v z.length (mtC z)::(mtL m g z.length cap z++ss)):=by
 obtain ⟨i0,hi,hz0,hz1,hz2⟩:=info_parts Tryz.infocx;have c0:=zaa (h.blkAt 0 rfl) 0 rfl;obtain ⟨-,q2,-⟩:=zd1 (h.get 1 rfl);have hcc: ∀j,j<z.length*1→W.cell? ⟨g,j,none⟩=(mtC z)[j]?:=fun j hj=>q2 j (by rw [zsh];omega);have HC:=zq hcc;have HL:Hid ((mtC z).length=z.length*1):=zq (by rw [zsh,Nat.mul_one]);have HO:=zq (mtC_one z);have H:=zq h;have HB:Hid (z.length*16≤140737488355328):=zq (by omega);have HMX:Hid (z.length≤maxLen):=zq (by unfold maxLen;omega);clear h q2 hcc;generalize mtC z=cs at*;go_enter Tryz.func95,Tryz.ntmps95
 go_wp2_with (at_builtin;refine zl1 rfl (.tmp 6) 169 rfl 269 i0 (.complex .f64 0 0) 1 16 Tryz.underlying169 hi hz0 hz1 hz2 rfl (by decide) g z.length cap cs rfl HL.out HC.out HO.out HB.out HMX.out ?_)
 intro v w' ho hu;have H2:=zq (H.out.row1 hu ho);clear ho hu
 go_wp2_with fail
 go_ret
 exact ⟨v,rfl,H2.out⟩
theorem mt_sm (h:NdIs B w0 W x s l ss): ∀q∈s.mt,0≤q.1∧q.1≤64∧0≤q.2∧q.2≤67108864:=by
 intro q hq;obtain ⟨k,hk,rfl⟩:=List.getElem_of_mem hq;have hok:=h.ok;have hki:k<s.ins.length:=by rw [hok.ins];rw [←hok.mt];exact hk
 obtain ⟨m1,m2,m3,m4⟩:=hok.mtn k hk hki;have hcp:(s.ins[k].l.countP (·.done):Nat)≤s.ins[k].l.length:=List.countP_le_length;obtain ⟨jj,r5,-,ha,-⟩:=h.inst k hki;have hil:=ai_len ha;refine ⟨m1,by omega,m3,?_⟩;have:s.mt[k].1≤64:=by omega
 omega
theorem nd_mall (h:NdIs B w0 W x s l ss):Calls Tryz.prog 95 #[ptrV x.mt] W fun e w'=> ∃g cap,e= .returned (.slice (some ⟨g,0,none⟩) s.mt.length cap)∧s.mt.length≤cap∧(∀k,(hk:k<s.mt.length)→w'.cell? ⟨g,k,none⟩=some (mtV s.mt[k]))∧NdIs B w0 w' x s l ss:=by
 have hok:=h.ok;have hf:=hok.c.f2;have hl:=hok.mt;obtain ⟨v,rr,c,d,g⟩:=h.lens 6 (by omega) (by omega);refine (mall_any (Own.open d) (by omega)).mono ?_;rintro e w' ⟨u,rfl,ho⟩;have hr:=owns_reads (zal ho.head);obtain ⟨ao,cap,rfl,hc1,-,-,-,hcell⟩:=hr;obtain ⟨b,o,rfl,-,hc⟩:=hcell (by omega);have h0:=zwq ho.head;subst h0;refine ⟨b,cap,rfl,hc1,fun k hk=> ?_,?_⟩
 ·have:=hc k (by omega)
  rw [Nat.zero_add] at this;rw [this];unfold mtC;simp [hk]
 ·exact g w' s v ss (joinR (mtL x.mt x.mg s.mt.length x.mtk s.mt)) hok c rfl (Own.shut (rs:=mtL x.mt x.mg s.mt.length x.mtk s.mt) ho.drop)
theorem zmv (h:NdIs B w0 W x s l ss) {g cap:Nat} (hcap:s.mt.length≤cap) (hc: ∀k,(hk:k<s.mt.length)→W.cell? ⟨g,k,none⟩=some (mtV s.mt[k])):
  Calls Tryz.prog 94 #[.agg (cfA s.c),.slice (some ⟨g,0,none⟩) s.mt.length cap] W fun e w'=>e= .returned (.bool (zcq s.c s.mt))∧NdIs B w0 w' x s l ss:=by
 have hm:=mt_sm h;have hl:=h.ok.mt;have hf1:=h.ok.c.f1;have hf2:=h.ok.c.f2;have hcc:=h.ok.c;cases hmt:s.mt with
 | nil=>rw [hmt] at hl;simp at hl
 | cons z b=>
  rw [hmt] at hm hl hcap;simp only [hmt] at hc;have hbl:b.length=s.c.f:=by simpa using hl
  have hz:=hm z List.mem_cons_self;have hsm:MtSm (z::b):=fun q hq=>by have:=hm q hq;omega
  have s1:=zll Prod.fst 64 (by omega) b (fun q hq=>by have:=hm q (List.mem_cons_of_mem _ hq);exact ⟨this.1,this.2.1⟩);have s2:=zll Prod.snd 67108864 (by omega) b (fun q hq=>by have:=hm q (List.mem_cons_of_mem _ hq);exact ⟨this.2.2.1,this.2.2.2⟩);refine (zqr hcc (z:=z) (l:=b) (g:=g) (cap:=cap) (by simpa using hcap) (hc 0 (by simp)) (fun k hk=> ?_) hsm (by omega) (by omega) (by omega) (by omega) (by unfold sum1;omega) (by unfold sum2;omega)).mono ?_
  ·have:=hc (k+1) (by simp;omega)
   rw [Nat.add_comm 1 k];exact this
  ·rintro e w' ⟨he,hu⟩
   exact ⟨he,h.upd0 hu⟩
end
end Go.Proofs.YtannckelmojkoaaGreat
