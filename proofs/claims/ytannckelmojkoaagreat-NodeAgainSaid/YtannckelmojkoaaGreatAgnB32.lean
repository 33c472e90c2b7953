/- Parts of the proof, one behind the other. -/
import Derived.Test.YtannckelmojkoaaGreatAgnB31
set_option maxHeartbeats 32000000
set_option maxRecDepth 100000
set_option linter.unusedVariables false
set_option linter.unusedSimpArgs false
namespace Go.Proofs.YtannckelmojkoaaGreat
open Go.RowKit Go.Heap
def zh8 (k:Nat) (p:NSt) (j:Nat):NSt:=(List.range j).foldl (zdi k) p
theorem ziv (k:Nat) (p:NSt) (j:Nat):zh8 k p (j+1)=zdi k (zh8 k p j) j:=zhq _ _ _
theorem zmy (k:Nat) (p:NSt) (j:Nat) (hf:p.1.c.f≤4):Outs 39 p (zdi k p j):=by
 unfold zdi;simp only;split
 ·exact (Outs.refl p).mono (by omega)
 ·have g1:Outs 13 p (if (decide (zam p.1.c.f p.1.view k=p.1.id)&&decide (rowAt p.1.pre k (j+1)=p.1.view+1))=true then sendS p (balM' 3 p.1.view k (↑j+1) (zau (insAt p.1 k) (↑j+1)).1) else p):=by
   split
   ·exact zbv _ _ hf
   ·exact (Outs.refl p).mono (by omega)
  have g2:=g1.trans (zbv _ (balM' 4 p.1.view k (↑j+1) (zau (insAt p.1 k) (↑j+1)).1) (by rw [g1.c];exact hf));split
  ·exact (g2.trans (zbv _ _ (by rw [g2.c];exact hf))).mono (by omega)
  ·exact g2.mono (by omega)
theorem zfs (k:Nat) (p:NSt) (hf:p.1.c.f≤4): ∀j,Outs (39*j) p (zh8 k p j)
 | 0=>Outs.refl p
 | j+1=>by
  rw [ziv];have ih:=zfs k p hf j;exact (ih.trans (zmy k _ j (by rw [ih.c];exact hf))).mono (by omega)
theorem zoy (p:NSt) (k:Nat):zd6 p k=if (insAt p.1 k).on then zh8 k p 16 else p:=rfl
def so1 (k:Nat) (p:NSt) (q:Nat) (b:List Rq):NSt:=if decide (zam p.1.c.f p.1.view k=p.1.id)&&decide (rowAt p.1.pre k q=p.1.view+1) then sendS p (balM' 3 p.1.view k q b) else p
def so2 (k:Nat) (p r:NSt) (q:Nat) (b:List Rq):NSt:=if rowAt p.1.com k q=p.1.view+1 then sendS r (balM' 5 p.1.view k q b) else r
theorem zt1 {k:Nat} {p:NSt} {j q:Nat} (hq:q=j+1) (h:((zau (insAt p.1 k) q).2=false)∨(zai (insAt p.1 k) q).isSome=true):zdi k p j=p:=by
 have e:((q:Nat):Int)=(j:Int)+1:=by omega
 rw [e] at h;have hc:(!(zau (insAt p.1 k) ((j:Int)+1)).2 || (zai (insAt p.1 k) ((j:Int)+1)).isSome)=true:=by rcases h with h | h<;>rw [h]<;>simp
 unfold zdi;exact if_pos hc
theorem zqi {k:Nat} {p:NSt} {j q:Nat} (hq:q=j+1) (h:(zau (insAt p.1 k) q).2=true) (h2:(zai (insAt p.1 k) q).isSome=false):zdi k p j=so2 k p (sendS (so1 k p q (zau (insAt p.1 k) q).1) (balM' 4 p.1.view k q (zau (insAt p.1 k) q).1)) q (zau (insAt p.1 k) q).1:=by
 have e:((q:Nat):Int)=(j:Int)+1:=by omega
 have hc: ¬(!(zau (insAt p.1 k) ((j:Int)+1)).2 || (zai (insAt p.1 k) ((j:Int)+1)).isSome)=true:=by rw [←e,h,h2];decide
 unfold so2 so1;rw [e,hq];unfold zdi;exact if_neg hc
theorem so1_is (s:Ns) (l:Nt) (k q:Nat) (b:List Rq):so1 k (s,l) q b=if decide (zam s.c.f s.view k=s.id)&&decide (rowAt s.pre k q=s.view+1) then sendS (s,l) (balM' 3 s.view k q b) else (s,l):=by unfold so1;dsimp only
theorem so2_is (s:Ns) (l:Nt) (r:NSt) (k q:Nat) (b:List Rq):so2 k (s,l) r q b=if rowAt s.com k q=s.view+1 then sendS r (balM' 5 s.view k q b) else r:=by unfold so2;dsimp only
theorem slot_yes {s:Ns} {l:Nt} {k j q:Nat} (hq:q=j+1) (h:(zau (insAt s k) q).2=true) (h2:(zai (insAt s k) q).isSome=false):zdi k (s,l) j=so2 k (s,l) (sendS (so1 k (s,l) q (zau (insAt s k) q).1) (balM' 4 s.view k q (zau (insAt s k) q).1)) q (zau (insAt s k) q).1:=zqi (p:=(s,l)) hq h h2
theorem slot_no {s:Ns} {l:Nt} {k j q:Nat} (hq:q=j+1) (h:((zau (insAt s k) q).2=false)∨(zai (insAt s k) q).isSome=true):zdi k (s,l) j=(s,l):=zt1 (p:=(s,l)) hq h
section
variable {B:Nat} {w0 w W W':World} {ss rs:List Res} {x:Np} {s s':Ns} {l l':Nt} {k:Nat}
theorem outs_so1 (k:Nat) (p:NSt) (q:Nat) (b:List Rq) (hf:p.1.c.f≤4):Outs 13 p (so1 k p q b):=by
 unfold so1;split
 ·exact zbv _ _ hf
 ·exact (Outs.refl p).mono (by omega)
theorem Outs.same {n:Nat} {p q:NSt} (h:Outs n p q):q.1.view=p.1.view∧q.1.pre=p.1.pre∧q.1.com=p.1.com∧q.1.ins=p.1.ins∧q.1.id=p.1.id∧q.1.tab=p.1.tab∧q.1.now=p.1.now∧q.1.pts=p.1.pts∧q.1.bg=p.1.bg∧q.1.voted=p.1.voted:=by
 obtain ⟨o,e,-⟩:=h.e;rw [e];exact ⟨rfl,rfl,rfl,rfl,rfl,rfl,rfl,rfl,rfl,rfl⟩
abbrev mmO10 (kind view inst seq:Int) (v:Value):Obj:= .cells #[.int .i64 kind,.int .i64 0,.int .i64 view,.int .i64 inst,.int .i64 seq,.int .i64 0,v,.slice none 0 0,.slice none 0 0,.slice none 0 0] 47 (0,0)
theorem zsu (h:NdIs B w0 W x s l ss) (hk:k<s.c.f+1) (hn:l.length≤500000000) (ho:s.out.length≤500000000):
  Calls Tryz.prog 162 #[ptrV x.p,.int .i64 k] W fun e w'=>e= .returned (.tuple #[])∧NdIs B w0 w' x (zd6 (s,l) k).1 (zd6 (s,l) k).2 ss:=by
 obtain ⟨i,hi,ci⟩:=h.iAt hk;rw [zoy];have hf2:=h.ok.c.f2;have hvw0:=h.ok.view0;have hvw1:=h.ok.view1;have hcap:=h.caps.1;have hcpr:=h.caps.2.2.2.1;have hcco:=h.caps.2.2.2.2.1;have hki:k<s.ins.length:=by rw [h.ok.ins];exact hk
 have HI:=zq hi;have HSM:Hid (InSm (insAt s k)):=zq (by rw [zay s k hki];exact (h.ok.insk k hki).2.2.2);have HIN:=zq (zcl h k hk hi);have H0:=zq h;have c18:=h.cell 18 rfl (by decide);have hk0:(0:Int)≤(k:Int):=by omega
 have hkI:(k:Int)<(s.c.f:Int)+1:=by omega
 have hcI:(s.c.f:Int)+1≤(x.ic:Int):=by omega
 have hcP:(s.c.f:Int)+1≤(x.prk:Int):=by omega
 have hcC:(s.c.f:Int)+1≤(x.cok:Int):=by omega
 clear h hi hki;simp only;cases hon:(insAt s k).on with
 | false=>
  rw [hon] at HIN;simp only [Bool.false_eq_true,if_false];clear hon;go_enter Tryz.func162,Tryz.ntmps162
  go_wp2_with fail
  with_reducible refine HIN.out.mono ?_
  rintro e w' ⟨rfl,rfl⟩
  go_wp2_with fail
  refine bodyPost_ret (v:= .tuple #[]) (results_none rfl _ _ _) rfl ?_;exact ⟨rfl,H0.out⟩
 | true=>
 rw [hon] at HIN;simp only [if_true];clear hon;obtain ⟨fin,hfin⟩: ∃fin,fin=zh8 k (s,l) 16:=⟨_,rfl⟩;rw [←hfin];have HFIN:=zq hfin;have HOG:=zq (zfs k (s,l) hf2);clear hfin;go_enter Tryz.func162,Tryz.ntmps162
 go_wp2_with fail
 with_reducible refine HIN.out.mono ?_
 rintro e w' ⟨rfl,rfl⟩;clear HIN c18 ci
 go_wp2_with fail
 go_loopw [5] (fun n wr=> ∃j q:Nat,j≤16∧n= .int .i64 q∧Hid (q=j+1)∧Hid (NdIs B w0 wr x (zh8 k (s,l) j).1 (zh8 k (s,l) j).2 ss)) (fun n _=>17-(intOf n).toNat)
 case atStart=>exact ⟨0,1,by omega,rfl,zq rfl,H0⟩
 case round=>
  clear H0;obtain ⟨j,q,hj,rfl,HQ,H⟩:=hrel;have hq0:(1:Int)≤(q:Int):=by have:=HQ.out;omega
  have hq17:(q:Int)≤17:=by have:=HQ.out;omega
  have hOG:=HOG.out j;have hsame:=hOG.same;have hoc:=hOG.c;by_cases hlt:j<16
  ·have hqI:(q:Int)≤16:=by have:=HQ.out;omega
   have HST:=zq (ziv k (s,l) j);obtain ⟨p,hp⟩: ∃p,p=zh8 k (s,l) j:=⟨_,rfl⟩;rw [←hp] at H hOG hsame hoc HST;have hnl:=hOG.nt;have hol:=hOG.outl;clear hOG hp;obtain ⟨s1,l1⟩:=p;simp only at H hsame hoc hnl hol;obtain ⟨e1,e2,e3,e4,e5,-,-,-,-,-⟩:=hsame;have hk1:k<s1.c.f+1:=by rw [hoc];exact hk
   have HIS:Hid (insAt s1 k=insAt s k):=zq (by unfold insAt;rw [e4]);have HSM1:Hid (InSm (insAt s1 k)):=zq (by rw [HIS.out];exact HSM.out);have hvw0:0≤s1.view:=by rw [e1];exact hvw0
   have hvw1:s1.view≤12:=by rw [e1];exact hvw1
   have hkI1:(k:Int)<(s1.c.f:Int)+1:=by omega
   have hcP:(s1.c.f:Int)+1≤(x.prk:Int):=by rw [hoc];exact hcP
   have hcC:(s1.c.f:Int)+1≤(x.cok:Int):=by rw [hoc];exact hcC
   have hf4:s1.c.f≤4:=by rw [hoc];exact hf2
   have hnl1:l1.length≤600000000:=by omega
   have hol1:s1.out.length≤600000000:=by omega
   clear e1 e2 e3 e4 e5 hoc hnl hol HIS HSM;have HCH:=zq (zn5 H.out hk1 HI.out q);have hb4:=zi4 HSM1.out q;have HNO:=zq (slot_no (s:=s1) (l:=l1) (k:=k) (j:=j) (q:=q) HQ.out);have HYE:=zq (slot_yes (s:=s1) (l:=l1) (k:=k) (j:=j) (q:=q) HQ.out);obtain ⟨bs,hbs⟩: ∃bs,bs=(zau (insAt s1 k) q).1:=⟨_,rfl⟩;obtain ⟨is,his⟩: ∃is,is=(zau (insAt s1 k) q).2:=⟨_,rfl⟩;obtain ⟨dn,hdn⟩: ∃dn,dn=(zai (insAt s1 k) q).isSome:=⟨_,rfl⟩;rw [←hbs] at HCH hb4 HYE;rw [←his] at HCH HNO HYE;rw [←hdn] at HNO HYE;have HDN:=zq hdn;clear hbs his hdn H
   go_wp2_with fail
   with_reducible refine HCH.out.mono ?_
   rintro e w2 ⟨a1,c1,rfl,h2⟩;have HCM:=zq (zmr h2 k hk1 HI.out q);rw [←HDN.out] at HCM;clear h2 HCH
   go_wp2_with fail
   with_reducible refine HCM.out.mono ?_
   rintro e w3 ⟨⟨cview,cinst,csq,cvb,cvv,crs,cvs⟩,rfl,-,⟨a2,k2,a3,k3,e1,e2⟩,h3⟩;simp only at e1 e2;subst e1 e2;have H3:=zq (h3.drop.drop.box (ctO cview cinst csq (.slice a2 crs.length k2) (.slice a3 cvs.length k3)));clear h3 HCM HDN;have HSK:Hid (is=false∨dn=true∨(is=true∧dn=false)):=zq (by cases is<;>cases dn<;>simp)
   go_upto_region 7 with fail
   generalize w3.heap.size=e8 at*;generalize World.alloc w3 _=w4 at*;rcases HSK.out with rfl | hd | ⟨rfl,rfl⟩
   ·have HE:Hid (zh8 k (s,l) (j+1)=(s1,l1)):=zq (HST.out.trans (HNO.out (.inl rfl)))
    have H5:=zq H3.out.drop.drop;clear HNO HYE HST H3 HSK
    go_wp2_with fail
    go_roundw
    case rel=>exact ⟨j+1,q+1,by omega,by go_num,zq (by rw [HQ.out]),zq (by rw [HE.out];exact H5.out)⟩
    case measure=>simp [intOf];omega
   ·subst hd
    have HE:Hid (zh8 k (s,l) (j+1)=(s1,l1)):=zq (HST.out.trans (HNO.out (.inr rfl)));have H5:=zq H3.out.drop.drop;clear HNO HYE HST H3 HSK;cases is with
    | true=>
     go_wp2_with fail
     go_roundw
     case rel=>exact ⟨j+1,q+1,by omega,by go_num,zq (by rw [HQ.out]),zq (by rw [HE.out];exact H5.out)⟩
     case measure=>simp [intOf];omega
    | false=>
     go_wp2_with fail
     go_roundw
     case rel=>exact ⟨j+1,q+1,by omega,by go_num,zq (by rw [HQ.out]),zq (by rw [HE.out];exact H5.out)⟩
     case measure=>simp [intOf];omega
   have HE:=zq (HST.out.trans (HYE.out rfl rfl));clear HNO HYE HST HSK;have c29:w4.cell? ⟨x.p,29,none⟩=some (.int .i64 s1.view):=H3.out.cell 29 rfl (by decide);have H4:=zq (H3.out.drop.box (mmO10 3 s1.view k q (.slice a1 bs.length c1)));clear H3
   go_upto_region 9 with fail
   generalize w4.heap.size=e10 at*;generalize World.alloc w4 _=w5 at*;clear c29;obtain ⟨qr,y1,-,y2,-⟩:=H4.out.preRow (k:=k) hk1;have y3:w5.cell? ⟨qr,q,none⟩=some (.int .i64 (rowAt s1.pre k q)):=y2 q (by omega);have y1':w5.cell? ⟨x.pr,k,none⟩=some (nrV qr):=y1;have c26:w5.cell? ⟨x.p,26,none⟩=some (slI x.pr (s1.c.f+1) x.prk):=H4.out.cell 26 rfl (by decide);have c29:w5.cell? ⟨x.p,29,none⟩=some (.int .i64 s1.view):=H4.out.cell 29 rfl (by decide);have hvw:IntKind.i64.wrap (s1.view+1)=s1.view+1:=IntWalk.i64_in _ (by omega);have HPM:=zq (fun n=>zn6 (k:Int) (H4.out.drewN n));obtain ⟨p1,hp1⟩: ∃p1,p1=so1 k (s1,l1) q bs:=⟨_,rfl⟩;rw [←hp1] at HE;have HP1:=zq (hp1.trans (so1_is s1 l1 k q bs));have HO1:=zq (outs_so1 k (s1,l1) q bs hf4);rw [←hp1] at HO1;clear hp1 y1 y2;obtain ⟨pr,hpr⟩: ∃b,b=decide (zam s1.c.f s1.view k=s1.id):=⟨_,rfl⟩;obtain ⟨rw1,hrw⟩: ∃b,b=rowAt s1.pre k q:=⟨_,rfl⟩;obtain ⟨rc,hrc⟩: ∃b,b=rowAt s1.com k q:=⟨_,rfl⟩;have HRC:=zq hrc;have HE:=zq (HE.out.trans (so2_is s1 l1 (sendS p1 (balM' 4 s1.view k q bs)) k q bs));rw [←hrc] at HE;rw [←hpr] at HPM HP1;rw [←hrw] at HP1 y3;clear hpr hrw hrc;cases pr with
   | false=>
    have hp1:p1=(s1,l1):=HP1.out;clear HP1
    go_quiet ((go_at_call 155;exact zbs (HPM.out _)))
    generalize hw6:World.drewN w5 _=w6;have H6:Hid (NdIs B w0 w6 x s1 l1 (blk e10 (mmO10 3 s1.view k q (.slice a1 bs.length c1))::batR (.slice a1 bs.length c1) bs::ss)):=zq (by rw [←hw6];exact H4.out.drewN _);clear hw6 H4 HPM y3 y1' c26 c29;have H6:Hid (NdIs B w0 w6 x p1.1 p1.2 (blk e10 (mmO10 3 s1.view k q (.slice a1 bs.length c1))::batR (.slice a1 bs.length c1) bs::ss)):=zq (by rw [hp1];exact H6.out);clear hp1;have hg1:=HO1.out.nt;have hg2:=HO1.out.outl;have hg3:=HO1.out.c;have hg4:=HO1.out.same;obtain ⟨p2,hp2⟩: ∃p2,p2=sendS p1 (balM' 4 s1.view k q bs):=⟨_,rfl⟩;rw [←hp2] at HE;have HO2:Hid (Outs 13 p1 p2):=zq (by rw [hp2];exact zbv _ _ (by rw [hg3];exact hf4));have HP2:=zq hp2;clear hp2;obtain ⟨s2,l2⟩:=p1;simp only at hg1 hg2 hg3 hg4 H6;obtain ⟨v1,-,v3,-,-,-,-,-,-,-⟩:=hg4;have HV:=zq (And.intro v1 (And.intro v3 hg3));clear v1 v3 hg3 HO1;have H7:Hid (NdIs B w0 (w6.setCell ⟨e10,0,none⟩ (.int .i64 4)) x s2 l2 (blk e10 (mmO10 4 s1.view k q (.slice a1 bs.length c1))::batR (.slice a1 bs.length c1) bs::ss)):=zq (by
     obtain ⟨rr,hr,hk⟩:=H6.out.side;exact hk _ (blk e10 (mmO10 4 s1.view k q (.slice a1 bs.length c1))::batR (.slice a1 bs.length c1) bs::ss) (hr.store 0 (.int .i64 4)))
    obtain ⟨rr,hr,-⟩:=H6.out.side;have t0:=zaa (hr.blkAt 0 rfl) 0 rfl;have z0:=zac (hr.blkAt 0 rfl) 0;clear hr H6
    go_upto_region 12 with fail
    clear t0 z0;generalize World.setCell w6 _ _=w7 at*;have HS4:=zq (zdm (kind:=4) (view:=s1.view) (inst:=k) (seq:=q) (H7.out.perm (.swap _ _ _)) hb4 (by omega) (by omega));obtain ⟨rr,hr,-⟩:=H7.out.side;have b0:=zaa (hr.blkAt 0 rfl) 0 rfl;have b1:=zaa (hr.blkAt 0 rfl) 1 rfl;have b2:=zaa (hr.blkAt 0 rfl) 2 rfl;have b3:=zaa (hr.blkAt 0 rfl) 3 rfl;have b4:=zaa (hr.blkAt 0 rfl) 4 rfl;have b5:=zaa (hr.blkAt 0 rfl) 5 rfl;have b6:=zaa (hr.blkAt 0 rfl) 6 rfl;have b7:=zaa (hr.blkAt 0 rfl) 7 rfl;have b8:=zaa (hr.blkAt 0 rfl) 8 rfl;have b9:=zaa (hr.blkAt 0 rfl) 9 rfl;clear hr;rw [←HP2.out] at HS4;clear H7 HP2
    go_wp2_with fail
    with_reducible refine HS4.out.mono ?_
    rintro e w8 ⟨⟨sv,sb,rfl⟩,h8⟩;have H8:=zq (h8.perm (.swap _ _ _));clear h8 HS4 b0 b1 b2 b3 b4 b5 b6 b7 b8 b9;obtain ⟨v1,v3,v0⟩:=HV.out;have hh1:=HO2.out.nt;have hh2:=HO2.out.outl;have hh3:=HO2.out.c;have hh4:=HO2.out.same;obtain ⟨s3,l3⟩:=p2;simp only at hh1 hh2 hh3 hh4 H8 HE;obtain ⟨x1,-,x3,-,-,-,-,-,-,-⟩:=hh4;have hk3:k<s3.c.f+1:=by rw [hh3,v0];exact hk1
    obtain ⟨qc,y1,-,y2,-⟩:=H8.out.comRow (k:=k) hk3;have y3:w8.cell? ⟨qc,q,none⟩=some (.int .i64 rc):=by have:=y2 q (by omega);rw [x3,v3,←HRC.out] at this;exact this
    have y1':w8.cell? ⟨x.co,k,none⟩=some (nrV qc):=y1;have c27:w8.cell? ⟨x.p,27,none⟩=some (slI x.co (s3.c.f+1) x.cok):=H8.out.cell 27 rfl (by decide);have c29:w8.cell? ⟨x.p,29,none⟩=some (.int .i64 s1.view):=by have:=H8.out.cell 29 rfl (by decide);rw [x1,v1] at this;exact this
    have hkI3:(k:Int)<(s3.c.f:Int)+1:=by omega
    have hcC3:(s3.c.f:Int)+1≤(x.cok:Int):=by rw [hh3,v0];exact hcC
    clear y1 y2 x1 x3 v1 v3 v0 hh3 HRC HV HO2;by_cases hrv:rc=s1.view+1
    ·have hrb:(rc==s1.view+1)=true:=by simp [hrv]
     have HE2:=zq (HE.out.trans (if_pos hrv));clear hrv HE
     go_upto_region 13 with fail
     go_quiet (fail)
     generalize hw9:World.drewN w8 _=w9;have H9:Hid (NdIs B w0 w9 x s3 l3 (blk e10 (mmO10 4 s1.view k q (.slice a1 bs.length c1))::batR (.slice a1 bs.length c1) bs::ss)):=zq (by rw [←hw9];exact H8.out.drewN _);clear hw9 H8 y3 y1' c27 c29;have H10:Hid (NdIs B w0 (w9.setCell ⟨e10,0,none⟩ (.int .i64 5)) x s3 l3 (blk e10 (mmO10 5 s1.view k q (.slice a1 bs.length c1))::batR (.slice a1 bs.length c1) bs::ss)):=zq (by
      obtain ⟨rr,hr,hk⟩:=H9.out.side;exact hk _ (blk e10 (mmO10 5 s1.view k q (.slice a1 bs.length c1))::batR (.slice a1 bs.length c1) bs::ss) (hr.store 0 (.int .i64 5)))
     obtain ⟨rr,hr,-⟩:=H9.out.side;have t0:=zaa (hr.blkAt 0 rfl) 0 rfl;have z0:=zac (hr.blkAt 0 rfl) 0;clear hr H9
     go_upto_region 15 with fail
     clear t0 z0;generalize World.setCell w9 _ _=w10 at*;have HS5:=zq (zdm (kind:=5) (view:=s1.view) (inst:=k) (seq:=q) (H10.out.perm (.swap _ _ _)) hb4 (by omega) (by omega));obtain ⟨rr,hr,-⟩:=H10.out.side;have b0:=zaa (hr.blkAt 0 rfl) 0 rfl;have b1:=zaa (hr.blkAt 0 rfl) 1 rfl;have b2:=zaa (hr.blkAt 0 rfl) 2 rfl;have b3:=zaa (hr.blkAt 0 rfl) 3 rfl;have b4:=zaa (hr.blkAt 0 rfl) 4 rfl;have b5:=zaa (hr.blkAt 0 rfl) 5 rfl;have b6:=zaa (hr.blkAt 0 rfl) 6 rfl;have b7:=zaa (hr.blkAt 0 rfl) 7 rfl;have b8:=zaa (hr.blkAt 0 rfl) 8 rfl;have b9:=zaa (hr.blkAt 0 rfl) 9 rfl;clear hr;rw [←HE2.out] at HS5;clear H10 HE2
     go_wp2_with fail
     with_reducible refine HS5.out.mono ?_
     rintro e w11 ⟨⟨sv,sb,rfl⟩,h11⟩;have H11:=zq h11.drop.drop;clear h11 HS5 b0 b1 b2 b3 b4 b5 b6 b7 b8 b9
     go_wp2_with fail
     go_roundw
     case rel=>exact ⟨j+1,q+1,by omega,by go_num,zq (by rw [HQ.out]),H11⟩
     case measure=>simp [intOf];omega
    ·have hrb:(rc==s1.view+1)=false:=by simp [hrv]
     have HE2:=zq (HE.out.trans (if_neg hrv));have H9:=zq H8.out.drop.drop;clear hrv HE H8
     go_upto_region 13 with fail
     go_quiet (fail)
     go_wp2_with fail
     go_roundw
     case rel=>exact ⟨j+1,q+1,by omega,by go_num,zq (by rw [HQ.out]),zq (by rw [HE2.out];exact H9.out.drewN _)⟩
     case measure=>simp [intOf];omega
   | true=>
    by_cases hrv:rw1=s1.view+1
    ·have hrb:(rw1==s1.view+1)=true:=by simp [hrv]
     have hp1:p1=sendS (s1,l1) (balM' 3 s1.view k q bs):=by rw [HP1.out,decide_eq_true hrv];rfl
     clear hrv;clear HP1
     go_quiet ((go_at_call 155;exact zbs (HPM.out _)))
     generalize hw6:World.drewN w5 _=w6;have H6:Hid (NdIs B w0 w6 x s1 l1 (blk e10 (mmO10 3 s1.view k q (.slice a1 bs.length c1))::batR (.slice a1 bs.length c1) bs::ss)):=zq (by rw [←hw6];exact H4.out.drewN _);clear hw6 H4 HPM y3 y1' c26 c29;have HS3:=zq (zdm (kind:=3) (view:=s1.view) (inst:=k) (seq:=q) (H6.out.perm (.swap _ _ _)) hb4 (by omega) (by omega));obtain ⟨rr,hr,-⟩:=H6.out.side;have b0:=zaa (hr.blkAt 0 rfl) 0 rfl;have b1:=zaa (hr.blkAt 0 rfl) 1 rfl;have b2:=zaa (hr.blkAt 0 rfl) 2 rfl;have b3:=zaa (hr.blkAt 0 rfl) 3 rfl;have b4:=zaa (hr.blkAt 0 rfl) 4 rfl;have b5:=zaa (hr.blkAt 0 rfl) 5 rfl;have b6:=zaa (hr.blkAt 0 rfl) 6 rfl;have b7:=zaa (hr.blkAt 0 rfl) 7 rfl;have b8:=zaa (hr.blkAt 0 rfl) 8 rfl;have b9:=zaa (hr.blkAt 0 rfl) 9 rfl;clear hr;rw [←hp1] at HS3;clear H6 hp1
     go_wp2_with fail
     with_reducible refine HS3.out.mono ?_
     rintro e w6 ⟨⟨sv,sb,rfl⟩,h6⟩;have H6:=zq (h6.perm (.swap _ _ _));clear h6 HS3 b0 b1 b2 b3 b4 b5 b6 b7 b8 b9;have hg1:=HO1.out.nt;have hg2:=HO1.out.outl;have hg3:=HO1.out.c;have hg4:=HO1.out.same;obtain ⟨p2,hp2⟩: ∃p2,p2=sendS p1 (balM' 4 s1.view k q bs):=⟨_,rfl⟩;rw [←hp2] at HE;have HO2:Hid (Outs 13 p1 p2):=zq (by rw [hp2];exact zbv _ _ (by rw [hg3];exact hf4));have HP2:=zq hp2;clear hp2;obtain ⟨s2,l2⟩:=p1;simp only at hg1 hg2 hg3 hg4 H6;obtain ⟨v1,-,v3,-,-,-,-,-,-,-⟩:=hg4;have HV:=zq (And.intro v1 (And.intro v3 hg3));clear v1 v3 hg3 HO1;have H7:Hid (NdIs B w0 (w6.setCell ⟨e10,0,none⟩ (.int .i64 4)) x s2 l2 (blk e10 (mmO10 4 s1.view k q (.slice a1 bs.length c1))::batR (.slice a1 bs.length c1) bs::ss)):=zq (by
      obtain ⟨rr,hr,hk⟩:=H6.out.side;exact hk _ (blk e10 (mmO10 4 s1.view k q (.slice a1 bs.length c1))::batR (.slice a1 bs.length c1) bs::ss) (hr.store 0 (.int .i64 4)))
     obtain ⟨rr,hr,-⟩:=H6.out.side;have t0:=zaa (hr.blkAt 0 rfl) 0 rfl;have z0:=zac (hr.blkAt 0 rfl) 0;clear hr H6
     go_upto_region 12 with fail
     clear t0 z0;generalize World.setCell w6 _ _=w7 at*;have HS4:=zq (zdm (kind:=4) (view:=s1.view) (inst:=k) (seq:=q) (H7.out.perm (.swap _ _ _)) hb4 (by omega) (by omega));obtain ⟨rr,hr,-⟩:=H7.out.side;have b0:=zaa (hr.blkAt 0 rfl) 0 rfl;have b1:=zaa (hr.blkAt 0 rfl) 1 rfl;have b2:=zaa (hr.blkAt 0 rfl) 2 rfl;have b3:=zaa (hr.blkAt 0 rfl) 3 rfl;have b4:=zaa (hr.blkAt 0 rfl) 4 rfl;have b5:=zaa (hr.blkAt 0 rfl) 5 rfl;have b6:=zaa (hr.blkAt 0 rfl) 6 rfl;have b7:=zaa (hr.blkAt 0 rfl) 7 rfl;have b8:=zaa (hr.blkAt 0 rfl) 8 rfl;have b9:=zaa (hr.blkAt 0 rfl) 9 rfl;clear hr;rw [←HP2.out] at HS4;clear H7 HP2
     go_wp2_with fail
     with_reducible refine HS4.out.mono ?_
     rintro e w8 ⟨⟨sv,sb,rfl⟩,h8⟩;have H8:=zq (h8.perm (.swap _ _ _));clear h8 HS4 b0 b1 b2 b3 b4 b5 b6 b7 b8 b9;obtain ⟨v1,v3,v0⟩:=HV.out;have hh1:=HO2.out.nt;have hh2:=HO2.out.outl;have hh3:=HO2.out.c;have hh4:=HO2.out.same;obtain ⟨s3,l3⟩:=p2;simp only at hh1 hh2 hh3 hh4 H8 HE;obtain ⟨x1,-,x3,-,-,-,-,-,-,-⟩:=hh4;have hk3:k<s3.c.f+1:=by rw [hh3,v0];exact hk1
     obtain ⟨qc,y1,-,y2,-⟩:=H8.out.comRow (k:=k) hk3;have y3:w8.cell? ⟨qc,q,none⟩=some (.int .i64 rc):=by have:=y2 q (by omega);rw [x3,v3,←HRC.out] at this;exact this
     have y1':w8.cell? ⟨x.co,k,none⟩=some (nrV qc):=y1;have c27:w8.cell? ⟨x.p,27,none⟩=some (slI x.co (s3.c.f+1) x.cok):=H8.out.cell 27 rfl (by decide);have c29:w8.cell? ⟨x.p,29,none⟩=some (.int .i64 s1.view):=by have:=H8.out.cell 29 rfl (by decide);rw [x1,v1] at this;exact this
     have hkI3:(k:Int)<(s3.c.f:Int)+1:=by omega
     have hcC3:(s3.c.f:Int)+1≤(x.cok:Int):=by rw [hh3,v0];exact hcC
     clear y1 y2 x1 x3 v1 v3 v0 hh3 HRC HV HO2;by_cases hrv:rc=s1.view+1
     ·have hrb:(rc==s1.view+1)=true:=by simp [hrv]
      have HE2:=zq (HE.out.trans (if_pos hrv));clear hrv HE
      go_upto_region 13 with fail
      go_quiet (fail)
      generalize hw9:World.drewN w8 _=w9;have H9:Hid (NdIs B w0 w9 x s3 l3 (blk e10 (mmO10 4 s1.view k q (.slice a1 bs.length c1))::batR (.slice a1 bs.length c1) bs::ss)):=zq (by rw [←hw9];exact H8.out.drewN _);clear hw9 H8 y3 y1' c27 c29;have H10:Hid (NdIs B w0 (w9.setCell ⟨e10,0,none⟩ (.int .i64 5)) x s3 l3 (blk e10 (mmO10 5 s1.view k q (.slice a1 bs.length c1))::batR (.slice a1 bs.length c1) bs::ss)):=zq (by
       obtain ⟨rr,hr,hk⟩:=H9.out.side;exact hk _ (blk e10 (mmO10 5 s1.view k q (.slice a1 bs.length c1))::batR (.slice a1 bs.length c1) bs::ss) (hr.store 0 (.int .i64 5)))
      obtain ⟨rr,hr,-⟩:=H9.out.side;have t0:=zaa (hr.blkAt 0 rfl) 0 rfl;have z0:=zac (hr.blkAt 0 rfl) 0;clear hr H9
      go_upto_region 15 with fail
      clear t0 z0;generalize World.setCell w9 _ _=w10 at*;have HS5:=zq (zdm (kind:=5) (view:=s1.view) (inst:=k) (seq:=q) (H10.out.perm (.swap _ _ _)) hb4 (by omega) (by omega));obtain ⟨rr,hr,-⟩:=H10.out.side;have b0:=zaa (hr.blkAt 0 rfl) 0 rfl;have b1:=zaa (hr.blkAt 0 rfl) 1 rfl;have b2:=zaa (hr.blkAt 0 rfl) 2 rfl;have b3:=zaa (hr.blkAt 0 rfl) 3 rfl;have b4:=zaa (hr.blkAt 0 rfl) 4 rfl;have b5:=zaa (hr.blkAt 0 rfl) 5 rfl;have b6:=zaa (hr.blkAt 0 rfl) 6 rfl;have b7:=zaa (hr.blkAt 0 rfl) 7 rfl;have b8:=zaa (hr.blkAt 0 rfl) 8 rfl;have b9:=zaa (hr.blkAt 0 rfl) 9 rfl;clear hr;rw [←HE2.out] at HS5;clear H10 HE2
      go_wp2_with fail
      with_reducible refine HS5.out.mono ?_
      rintro e w11 ⟨⟨sv,sb,rfl⟩,h11⟩;have H11:=zq h11.drop.drop;clear h11 HS5 b0 b1 b2 b3 b4 b5 b6 b7 b8 b9
      go_wp2_with fail
      go_roundw
      case rel=>exact ⟨j+1,q+1,by omega,by go_num,zq (by rw [HQ.out]),H11⟩
      case measure=>simp [intOf];omega
     ·have hrb:(rc==s1.view+1)=false:=by simp [hrv]
      have HE2:=zq (HE.out.trans (if_neg hrv));have H9:=zq H8.out.drop.drop;clear hrv HE H8
      go_upto_region 13 with fail
      go_quiet (fail)
      go_wp2_with fail
      go_roundw
      case rel=>exact ⟨j+1,q+1,by omega,by go_num,zq (by rw [HQ.out]),zq (by rw [HE2.out];exact H9.out.drewN _)⟩
      case measure=>simp [intOf];omega
    ·have hrb:(rw1==s1.view+1)=false:=by simp [hrv]
     have hp1:p1=(s1,l1):=by rw [HP1.out,decide_eq_false hrv];rfl
     clear hrv;clear HP1
     go_quiet ((go_at_call 155;exact zbs (HPM.out _)))
     generalize hw6:World.drewN w5 _=w6;have H6:Hid (NdIs B w0 w6 x s1 l1 (blk e10 (mmO10 3 s1.view k q (.slice a1 bs.length c1))::batR (.slice a1 bs.length c1) bs::ss)):=zq (by rw [←hw6];exact H4.out.drewN _);clear hw6 H4 HPM y3 y1' c26 c29;have H6:Hid (NdIs B w0 w6 x p1.1 p1.2 (blk e10 (mmO10 3 s1.view k q (.slice a1 bs.length c1))::batR (.slice a1 bs.length c1) bs::ss)):=zq (by rw [hp1];exact H6.out);clear hp1;have hg1:=HO1.out.nt;have hg2:=HO1.out.outl;have hg3:=HO1.out.c;have hg4:=HO1.out.same;obtain ⟨p2,hp2⟩: ∃p2,p2=sendS p1 (balM' 4 s1.view k q bs):=⟨_,rfl⟩;rw [←hp2] at HE;have HO2:Hid (Outs 13 p1 p2):=zq (by rw [hp2];exact zbv _ _ (by rw [hg3];exact hf4));have HP2:=zq hp2;clear hp2;obtain ⟨s2,l2⟩:=p1;simp only at hg1 hg2 hg3 hg4 H6;obtain ⟨v1,-,v3,-,-,-,-,-,-,-⟩:=hg4;have HV:=zq (And.intro v1 (And.intro v3 hg3));clear v1 v3 hg3 HO1;have H7:Hid (NdIs B w0 (w6.setCell ⟨e10,0,none⟩ (.int .i64 4)) x s2 l2 (blk e10 (mmO10 4 s1.view k q (.slice a1 bs.length c1))::batR (.slice a1 bs.length c1) bs::ss)):=zq (by
      obtain ⟨rr,hr,hk⟩:=H6.out.side;exact hk _ (blk e10 (mmO10 4 s1.view k q (.slice a1 bs.length c1))::batR (.slice a1 bs.length c1) bs::ss) (hr.store 0 (.int .i64 4)))
     obtain ⟨rr,hr,-⟩:=H6.out.side;have t0:=zaa (hr.blkAt 0 rfl) 0 rfl;have z0:=zac (hr.blkAt 0 rfl) 0;clear hr H6
     go_upto_region 12 with fail
     clear t0 z0;generalize World.setCell w6 _ _=w7 at*;have HS4:=zq (zdm (kind:=4) (view:=s1.view) (inst:=k) (seq:=q) (H7.out.perm (.swap _ _ _)) hb4 (by omega) (by omega));obtain ⟨rr,hr,-⟩:=H7.out.side;have b0:=zaa (hr.blkAt 0 rfl) 0 rfl;have b1:=zaa (hr.blkAt 0 rfl) 1 rfl;have b2:=zaa (hr.blkAt 0 rfl) 2 rfl;have b3:=zaa (hr.blkAt 0 rfl) 3 rfl;have b4:=zaa (hr.blkAt 0 rfl) 4 rfl;have b5:=zaa (hr.blkAt 0 rfl) 5 rfl;have b6:=zaa (hr.blkAt 0 rfl) 6 rfl;have b7:=zaa (hr.blkAt 0 rfl) 7 rfl;have b8:=zaa (hr.blkAt 0 rfl) 8 rfl;have b9:=zaa (hr.blkAt 0 rfl) 9 rfl;clear hr;rw [←HP2.out] at HS4;clear H7 HP2
     go_wp2_with fail
     with_reducible refine HS4.out.mono ?_
     rintro e w8 ⟨⟨sv,sb,rfl⟩,h8⟩;have H8:=zq (h8.perm (.swap _ _ _));clear h8 HS4 b0 b1 b2 b3 b4 b5 b6 b7 b8 b9;obtain ⟨v1,v3,v0⟩:=HV.out;have hh1:=HO2.out.nt;have hh2:=HO2.out.outl;have hh3:=HO2.out.c;have hh4:=HO2.out.same;obtain ⟨s3,l3⟩:=p2;simp only at hh1 hh2 hh3 hh4 H8 HE;obtain ⟨x1,-,x3,-,-,-,-,-,-,-⟩:=hh4;have hk3:k<s3.c.f+1:=by rw [hh3,v0];exact hk1
     obtain ⟨qc,y1,-,y2,-⟩:=H8.out.comRow (k:=k) hk3;have y3:w8.cell? ⟨qc,q,none⟩=some (.int .i64 rc):=by have:=y2 q (by omega);rw [x3,v3,←HRC.out] at this;exact this
     have y1':w8.cell? ⟨x.co,k,none⟩=some (nrV qc):=y1;have c27:w8.cell? ⟨x.p,27,none⟩=some (slI x.co (s3.c.f+1) x.cok):=H8.out.cell 27 rfl (by decide);have c29:w8.cell? ⟨x.p,29,none⟩=some (.int .i64 s1.view):=by have:=H8.out.cell 29 rfl (by decide);rw [x1,v1] at this;exact this
     have hkI3:(k:Int)<(s3.c.f:Int)+1:=by omega
     have hcC3:(s3.c.f:Int)+1≤(x.cok:Int):=by rw [hh3,v0];exact hcC
     clear y1 y2 x1 x3 v1 v3 v0 hh3 HRC HV HO2;by_cases hrv:rc=s1.view+1
     ·have hrb:(rc==s1.view+1)=true:=by simp [hrv]
      have HE2:=zq (HE.out.trans (if_pos hrv));clear hrv HE
      go_upto_region 13 with fail
      go_quiet (fail)
      generalize hw9:World.drewN w8 _=w9;have H9:Hid (NdIs B w0 w9 x s3 l3 (blk e10 (mmO10 4 s1.view k q (.slice a1 bs.length c1))::batR (.slice a1 bs.length c1) bs::ss)):=zq (by rw [←hw9];exact H8.out.drewN _);clear hw9 H8 y3 y1' c27 c29;have H10:Hid (NdIs B w0 (w9.setCell ⟨e10,0,none⟩ (.int .i64 5)) x s3 l3 (blk e10 (mmO10 5 s1.view k q (.slice a1 bs.length c1))::batR (.slice a1 bs.length c1) bs::ss)):=zq (by
       obtain ⟨rr,hr,hk⟩:=H9.out.side;exact hk _ (blk e10 (mmO10 5 s1.view k q (.slice a1 bs.length c1))::batR (.slice a1 bs.length c1) bs::ss) (hr.store 0 (.int .i64 5)))
      obtain ⟨rr,hr,-⟩:=H9.out.side;have t0:=zaa (hr.blkAt 0 rfl) 0 rfl;have z0:=zac (hr.blkAt 0 rfl) 0;clear hr H9
      go_upto_region 15 with fail
      clear t0 z0;generalize World.setCell w9 _ _=w10 at*;have HS5:=zq (zdm (kind:=5) (view:=s1.view) (inst:=k) (seq:=q) (H10.out.perm (.swap _ _ _)) hb4 (by omega) (by omega));obtain ⟨rr,hr,-⟩:=H10.out.side;have b0:=zaa (hr.blkAt 0 rfl) 0 rfl;have b1:=zaa (hr.blkAt 0 rfl) 1 rfl;have b2:=zaa (hr.blkAt 0 rfl) 2 rfl;have b3:=zaa (hr.blkAt 0 rfl) 3 rfl;have b4:=zaa (hr.blkAt 0 rfl) 4 rfl;have b5:=zaa (hr.blkAt 0 rfl) 5 rfl;have b6:=zaa (hr.blkAt 0 rfl) 6 rfl;have b7:=zaa (hr.blkAt 0 rfl) 7 rfl;have b8:=zaa (hr.blkAt 0 rfl) 8 rfl;have b9:=zaa (hr.blkAt 0 rfl) 9 rfl;clear hr;rw [←HE2.out] at HS5;clear H10 HE2
      go_wp2_with fail
      with_reducible refine HS5.out.mono ?_
      rintro e w11 ⟨⟨sv,sb,rfl⟩,h11⟩;have H11:=zq h11.drop.drop;clear h11 HS5 b0 b1 b2 b3 b4 b5 b6 b7 b8 b9
      go_wp2_with fail
      go_roundw
      case rel=>exact ⟨j+1,q+1,by omega,by go_num,zq (by rw [HQ.out]),H11⟩
      case measure=>simp [intOf];omega
     ·have hrb:(rc==s1.view+1)=false:=by simp [hrv]
      have HE2:=zq (HE.out.trans (if_neg hrv));have H9:=zq H8.out.drop.drop;clear hrv HE H8
      go_upto_region 13 with fail
      go_quiet (fail)
      go_wp2_with fail
      go_roundw
      case rel=>exact ⟨j+1,q+1,by omega,by go_num,zq (by rw [HQ.out]),zq (by rw [HE2.out];exact H9.out.drewN _)⟩
      case measure=>simp [intOf];omega
  ·obtain rfl:j=16:=by omega
   have hqB:decide ((q:Int)≤16)=false:=by have:=HQ.out;simp;omega
   have HF:Hid (NdIs B w0 wr x fin.1 fin.2 ss):=zq (by rw [HFIN.out];exact H.out);clear H HFIN
   go_wp2_with fail
   refine bodyPost_end (results_none rfl _ _ _) rfl ?_;exact ⟨rfl,HF.out⟩
end
end Go.Proofs.YtannckelmojkoaaGreat
