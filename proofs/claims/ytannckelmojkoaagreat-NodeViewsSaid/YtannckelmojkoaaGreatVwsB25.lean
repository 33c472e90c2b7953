/- Parts of the proof, one behind the other. -/
import Derived.Test.YtannckelmojkoaaGreatVwsB24
set_option maxHeartbeats 32000000
set_option maxRecDepth 100000
set_option linter.unusedVariables false
set_option linter.unusedSimpArgs false
namespace Go.Proofs.YtannckelmojkoaaGreat
open Go.RowKit Go.Heap
def mapTo {α:Type} (g:α→α) (l:List α) (k:Nat):List α:=(l.take k).map g++l.drop k
theorem zri {α:Type} (g:α→α) (l:List α):mapTo g l 0=l:=by simp [mapTo]
theorem zfe {α:Type} (g:α→α) (l:List α) (k:Nat):(mapTo g l k).length=l.length:=by simp [mapTo];omega
theorem zi9 {α:Type} (g:α→α) (l:List α) (k j:Nat) (h:j<l.length):(mapTo g l k)[j]'(by rw [zfe];exact h)=if j<k then g l[j] else l[j]:=by
 unfold mapTo;by_cases hjk:j<k
 ·rw [if_pos hjk,List.getElem_append_left (by simp;omega)];simp
 ·rw [if_neg hjk,List.getElem_append_right (by simp;omega)]
  simp only [List.length_map,List.length_take,List.getElem_drop];congr 1;omega
theorem zrh {α:Type} (g:α→α) (l:List α) (k:Nat) (hk:k<l.length):mapTo g l (k+1)=(mapTo g l k).set k (g ((mapTo g l k)[k]'(by rw [zfe];exact hk))):=by
 refine List.ext_getElem (by simp [zfe]) (fun j h1 h2=> ?_);rw [zfe] at h1;rw [zi9 g l (k+1) j h1,List.getElem_set];by_cases hkj:k=j
 ·subst hkj;rw [if_pos (by omega),if_pos rfl,zi9 g l k k h1,if_neg (by omega)]
 ·rw [if_neg hkj,zi9 g l k j h1]
  by_cases hjk:j<k
  ·rw [if_pos hjk,if_pos (by omega)]
  ·rw [if_neg hjk,if_neg (by omega)]
theorem zu6 {α:Type} (g:α→α) (l:List α) {k:Nat} (h:l.length≤k):mapTo g l k=l.map g:=by
 unfold mapTo;rw [List.take_of_length_le h,List.drop_eq_nil_of_le h,List.append_nil]
def zff (w:Int) (vs:Vs) (p:NSt):NSt:=
 let s:=gone w p.1
 let q:=sendS (s,p.2) (vcM s.id w vs (za9 s))
 ({q.1 with pts:=q.1.pts.set s.id.toNat (w,⟨s.id,vs,za9 s,sendN (s,p.2) (vcM s.id w vs (za9 s))⟩)},q.2)
theorem zrl (w:Int) (vs:Vs) (p:NSt):moveS w vs p=zlq (zff w vs p):=rfl
section
variable {B:Nat} {w0 w W W':World} {ss rs:List Res} {x:Np} {s s':Ns} {l l':Nt}
theorem NdIs.putView (h:NdIs B w0 W x s l ss) (v:Int) (h0:0≤v) (h1:v≤12):NdIs B w0 (W.setCell ⟨x.p,29,none⟩ (.int .i64 v)) x {s with view:=v} l ss:=h.put 29 _ (fun _=>rfl) {h.ok with view0:=h0,view1:=h1} (fun _ c=> {c with}) (fun _=>rfl)
theorem NdIs.putSince (h:NdIs B w0 W x s l ss) (v:Int) (h0:0≤v) (h1:v≤1048576):NdIs B w0 (W.setCell ⟨x.p,31,none⟩ (.int .i64 v)) x {s with since:=v} l ss:=h.put 31 _ (fun _=>rfl) {h.ok with since0:=h0,since1:=h1} (fun _ c=> {c with}) (fun _=>rfl)
theorem NdIs.putStart (h:NdIs B w0 W x s l ss) (v:Int) (h0:0≤v) (h1:v≤1048576):NdIs B w0 (W.setCell ⟨x.p,32,none⟩ (.int .i64 v)) x {s with start:=v} l ss:=h.put 32 _ (fun _=>rfl) {h.ok with start0:=h0,start1:=h1} (fun _ c=> {c with}) (fun _=>rfl)
theorem zvb {w:Int} {vv:Value} {vs:Vs} (h:NdIs B w0 W x s l (redR vv 2 vs.length (zaf vs)::ss)) (hvn:vs.length≤100000) (hw0:0≤w) (hw1:w≤12) (hn:l.length≤900000000) (ho:s.out.length≤900000000)
  (HBG: ∀W' ss',NdIs B w0 W' x (zff w vs (s,l)).1 (zff w vs (s,l)).2 ss'→Calls Tryz.prog 228 #[ptrV x.p] W' fun e w'=>e= .returned (.tuple #[])∧NdIs B w0 w' x (zlq (zff w vs (s,l))).1 (zlq (zff w vs (s,l))).2 ss'):
  Calls Tryz.prog 169 #[ptrV x.p,.int .i64 w,vv] W fun e w'=>e= .returned (.tuple #[])∧NdIs B w0 w' x (moveS w vs (s,l)).1 (moveS w vs (s,l)).2 ss:=by
 obtain ⟨r,hs,-⟩:=h.side;obtain ⟨a1,c1,rfl⟩: ∃a c,vv= .slice a vs.length c:=let ⟨a,c,e,_⟩:=zad (k:=0) hs rfl;⟨a,c,e⟩;have hf1:=h.ok.c.f1;have hf2:=h.ok.c.f2;have hcap:=h.caps.1;have hpcap:=h.caps.2.1;have hins:=h.ok.ins;obtain ⟨n0,n1⟩:=And.intro h.ok.now0 h.ok.now1;obtain ⟨i,hid⟩: ∃i:Nat,s.id=i:=⟨s.id.toNat,by have:=h.ok.id0;omega⟩;have hid3:i≤3*s.c.f:=by have:=h.ok.id1;omega
 have HID:=zq hid;have z29:=h.fz 29;have c29:=h.cell 29 rfl (by decide);have H1:=zq (h.putView w hw0 hw1);have c18:=H1.out.cell 18 rfl (by decide);obtain ⟨fin,hfin⟩: ∃fin,fin=moveS w vs (s,l):=⟨_,rfl⟩;have HFIN:Hid (fin=zlq (zff w vs (s,l))):=zq (by rw [hfin,zrl]);have HBG:=zq HBG;rw [←hfin];clear hs h hid hfin;go_enter Tryz.func169,Tryz.ntmps169
 go_wp2_with fail
 go_loopw [20] (fun n wr=> ∃k:Nat,k≤s.c.f+1∧n= .int .i64 k∧Hid (NdIs B w0 wr x {s with view:=w,ins:=mapTo (zev · w) s.ins k} l (redR (.slice a1 vs.length c1) 2 vs.length (zaf vs)::ss))) (fun n _=>s.c.f+1-(intOf n).toNat)
 case atStart=>exact ⟨0,by omega,rfl,zq (by rw [zri];exact H1.out)⟩
 case round=>
  clear H1 c18 c29 z29;obtain ⟨k,hk,rfl,H1⟩:=hrel;by_cases hlt:k<s.c.f+1
  ·have hkI:(k:Int)<(s.c.f:Int)+1:=by omega
   have hk0:(0:Int)≤(k:Int):=by omega
   have hcI:(s.c.f:Int)+1≤(x.ic:Int):=by omega
   have hki:k<s.ins.length:=by omega
   obtain ⟨j,rr,hj,ha,hb⟩:=H1.out.inst k (by simp only [zfe];exact hki);have cj:=H1.out.instAt k hj;have HC:=zq (zyc ha w);have HB:=zq hb;have HST:=zq (zrh (zev · w) s.ins k hki);clear ha hb H1
   go_wp2_with fail
   refine HC.out.mono ?_;rintro e w2 ⟨rfl,h2⟩;have HF:Hid (NdIs B w0 w2 x {s with view:=w,ins:=mapTo (zev · w) s.ins (k+1)} l (redR (.slice a1 vs.length c1) 2 vs.length (zaf vs)::ss)):=zq (by rw [HST.out];exact HB.out w2 _ _ (zra _ _) h2);clear h2 HC HB HST
   go_wp2_with fail
   go_roundw
   case rel=>exact ⟨k+1,by omega,by go_num,HF⟩
   case measure=>simp [intOf];omega
  ·have hkI:decide ((k:Int)<(s.c.f:Int)+1)=false:=by simp;omega
   have H2:Hid (NdIs B w0 wr x {s with view:=w,ins:=s.ins.map (zev · w)} l (redR (.slice a1 vs.length c1) 2 vs.length (zaf vs)::ss)):=zq (by rw [←zu6 (zev · w) s.ins (by omega:s.ins.length≤k)];exact H1.out);have c17:=H2.out.drew.cell 17 rfl (by decide);have c31:=H2.out.cell 31 rfl (by decide);have c32:=H2.out.cell 32 rfl (by decide);have z31:=H2.out.fz 31;have z32:=H2.out.fz 32;have HN:=zq (zme H2.out.drew);have H3:=zq ((H2.out.putSince s.now n0 n1).putStart s.now n0 n1).drew;clear H1 H2
   go_wp2_with fail
   refine Held.wp_held [(x.p,17,[ptrV x.t])] [(5,0),(10,0)] [14,17] [(7,true),(5,true),(3,false)] (by kernel_rfl) (by kernel_rfl) ⟨⟨c17,trivial⟩,trivial⟩ ?_;simp only [Held.cutAt,Held.walk,List.take_succ_cons,List.take_zero,List.drop_succ_cons,List.drop_zero]
   go_wp2_with fail
   refine HN.out.mono ?_;rintro e w' ⟨rfl,rfl⟩
   go_wp2_with fail
   refine ⟨⟨⟨c17,trivial⟩,trivial⟩,?_⟩
   go_wp2_with fail
   refine HN.out.mono ?_;rintro e w' ⟨rfl,rfl⟩
   go_wp2_with fail
   refine ⟨⟨⟨c17,trivial⟩,trivial⟩,?_⟩
   go_wp2_with fail
   refine ⟨trivial,?_⟩
   go_wp2_with fail
   refine ⟨trivial,by rfl,⟨⟨rfl,.inl ⟨by kernel_rfl,rfl⟩⟩,⟨rfl,.inl ⟨by kernel_rfl,rfl⟩⟩,trivial⟩,?_⟩;generalize World.drew (World.setCell (World.setCell _ _ _) _ _)=w4 at*;clear c17 c31 c32 z31 z32 HN;have c23:=H3.out.cell 23 rfl (by decide);have HR:=zq (zzy H3.out)
   go_wp2_with fail
   refine HR.out.mono ?_;rintro e w5 ⟨rfl,h5⟩;have c20:=h5.cell 20 rfl (by decide);have HD:=zq (nd_drop h5 w);clear H3 h5 HR c23
   go_wp2_with fail
   refine HD.out.mono ?_;rintro e w6 ⟨dn,rfl,h6⟩;have h6':NdIs B w0 w6 x (gone w s) l (redR (.slice a1 vs.length c1) 2 vs.length (zaf vs)::ss):=h6;have HV:=zq (zpi h6');clear h6 h6' HD c20
   go_wp2_with fail
   refine HV.out.mono ?_;rintro e w7 ⟨u,cts,rfl,hcp,hcl,h7⟩;obtain ⟨r7,hs7,-⟩:=h7.side;obtain ⟨a2,c2,rfl⟩: ∃a c,u= .slice a cts.length c:=let ⟨a,c,e,_⟩:=zad (k:=2) hs7 rfl;⟨a,c,e⟩;have hms:(vcMm s.id w (.slice a1 vs.length c1) vs (.slice a2 cts.length c2) cts).ms=vcM (gone w s).id w vs (za9 (gone w s)):=by rw [←hcp];rfl
   have hmo:MmOk (vcMm s.id w (.slice a1 vs.length c1) vs (.slice a2 cts.length c2) cts):=⟨by simp,hvn,by simp only;omega,by simp⟩;have h8:NdIs B w0 (w7.alloc (mmO (vcMm s.id w (.slice a1 vs.length c1) vs (.slice a2 cts.length c2) cts))) x (gone w s) l (mmR (vcMm s.id w (.slice a1 vs.length c1) vs (.slice a2 cts.length c2) cts) (blk w7.heap.size (mmO (vcMm s.id w (.slice a1 vs.length c1) vs (.slice a2 cts.length c2) cts))::ss)):=(h7.box (mmO (vcMm s.id w (.slice a1 vs.length c1) vs (.slice a2 cts.length c2) cts))).perm ((List.perm_append_comm (l₁:=[_]) (l₂:=[_,_,_,_,_,_])).append_right ss);have HS:=zq (znv h8 hmo hn ho);rw [hms] at HS;obtain ⟨q,hq⟩: ∃q:NSt,q=sendS (gone w s,l) (vcM (gone w s).id w vs (za9 (gone w s))):=⟨_,rfl⟩;obtain ⟨sl,hsl⟩: ∃sl:Int,sl=sendN (gone w s,l) (vcM (gone w s).id w vs (za9 (gone w s))):=⟨_,rfl⟩;have HMV:Hid (zff w vs (s,l)=({q.1 with pts:=q.1.pts.set i (w,⟨s.id,vs,za9 (gone w s),sl⟩)},q.2)):=zq (by
    have hi:(gone w s).id.toNat=i:=by show s.id.toNat=i;rw [HID.out];rfl
    rw [hq,hsl,←hi];rfl)
   have HQE:Hid (q.1.c=s.c):=zq (by
    rw [hq];unfold sendS;split<;>rfl)
   have HQF:Hid (q.1.id=s.id∧q.1.pts.length=3*s.c.f+1):=zq (by
    rw [hq];unfold sendS;split
    ·exact ⟨rfl,h8.ok.pts⟩
    ·exact ⟨rfl,h8.ok.pts⟩)
   have HCP:=zq hcp;rw [←hq,←hsl] at HS;clear h7 hs7 HV hms hq hsl hcp;have hbk:=heap_alloc_new w7 (mmO (vcMm s.id w (.slice a1 vs.length c1) vs (.slice a2 cts.length c2) cts))
   go_wp2_with fail
   refine HS.out.mono ?_;rintro e w8 ⟨rfl,h9⟩;have c24:=h9.cell 24 rfl (by decide);have c15:w8.cell? ⟨x.p,15,none⟩=some (.int .i64 (i:Int)):=by rw [←HID.out,←HQF.out.1];exact h9.cell 15 rfl (by decide)
   obtain ⟨r9,hs9,-⟩:=h9.side;have hb9:=hs9.blkAt 6 rfl;have y7:=zaa hb9 7 rfl;have y8:=zaa hb9 8 rfl;have hip:i<q.1.pts.length:=by rw [HQF.out.2];omega
   obtain ⟨⟨qv,qfm,qvv,qvs,qcv,qcts,qsl⟩,-,hcell,hz,-,-,-⟩:=h9.part i hip;have k0:=hcell 0 (by omega);have k1:=hcell 1 (by omega);have k2:=hcell 2 (by omega);have k3:=hcell 3 (by omega);have k4:=hcell 4 (by omega);simp only [pqC,zaj,Nat.add_zero,List.getElem?_cons_zero,List.getElem?_cons_succ] at k0 k1 k2 k3 k4;have f0:=hz (i*5);have f1:=hz (i*5+1);have f2:=hz (i*5+2);have f3:=hz (i*5+3);have f4:=hz (i*5+4);have h10:NdIs B w0 w8 x q.1 q.2 (redR (.slice a1 vs.length c1) 2 vs.length (zaf vs)::redR (.slice a2 cts.length c2) 5 cts.length (cts.flatMap zag)::ctsR cts::blk w7.heap.size _::ss):=h9.onSide (fun r hr=>((hr.drop.drop).dropAt 3 (by simp)).rot);have hcf:q.1.c=s.c:=by rw [HQE.out]
   have h11:=(h10.putPart (p:=(⟨(i:Int),.slice a1 vs.length c1,vs,.slice a2 cts.length c2,cts,sl⟩:Pt)) i hip w hvn (by simp only;omega)).drop;have H11:Hid (NdIs B w0 _ x (zff w vs (s,l)).1 (zff w vs (s,l)).2 ss):=zq (by
    rw [HMV.out];have e:(⟨(i:Int),.slice a1 vs.length c1,vs,.slice a2 cts.length c2,cts,sl⟩:Pt).pa=⟨s.id,vs,za9 (gone w s),sl⟩:=by rw [show za9 (gone w s)=cts.map Ct.cp from HCP.out.symm,HID.out];rfl
    rw [e] at h11;exact h11.drew)
   have hiI:(i:Int)<3*(s.c.f:Int)+1:=by omega
   have hi0:(0:Int)≤(i:Int):=by omega
   have hpI:3*(s.c.f:Int)+1≤(x.pk:Int):=by omega
   rw [hcf] at c24;clear h9 hs9 hb9 hcell hz h10 h11 HS hcf hip
   go_upto_region 11 with fail
   refine Mix.wp_text2 (by kernel_rfl) (by kernel_rfl) ?_
   go_wp2_with fail
   refine ⟨by rfl,?_⟩;generalize World.drew (World.setCell (World.setCell (World.setCell (World.setCell (World.setCell _ _ _) _ _) _ _) _ _) _ _)=w9 at*;have HBE:=zq (HBG.out _ _ H11.out)
   go_wp2_with fail
   refine HBE.out.mono ?_;rintro e w10 ⟨rfl,h12⟩;have HF:=zq h12;clear h12 HBE
   go_wp2_with fail
   refine bodyPost_end (results_none rfl _ _ _) rfl ?_;rw [HFIN.out];exact ⟨rfl,HF.out⟩
end
section
variable {B:Nat} {w0 w W W':World} {ss rs:List Res} {x:Np} {s s':Ns} {l l':Nt}
theorem NdIs.putUsed (h:NdIs B w0 W x s l ss) (v:Int) (h0:0≤v):NdIs B w0 (W.setCell ⟨x.p,35,none⟩ (.int .i64 v)) x {s with used:=v} l ss:=h.put 35 _ (fun _=>rfl) {h.ok with used0:=h0} (fun _ c=> {c with}) (fun _=>rfl)
theorem NdIs.putBad (h:NdIs B w0 W x s l ss) (v:Int) (h0:0≤v):NdIs B w0 (W.setCell ⟨x.p,36,none⟩ (.int .i64 v)) x {s with bad:=v} l ss:=h.put 36 _ (fun _=>rfl) {h.ok with bad0:=h0} (fun _ c=> {c with}) (fun _=>rfl)
theorem NdIs.putStale (h:NdIs B w0 W x s l ss) (v:Int) (h0:0≤v):NdIs B w0 (W.setCell ⟨x.p,37,none⟩ (.int .i64 v)) x {s with stale:=v} l ss:=h.put 37 _ (fun _=>rfl) {h.ok with stale0:=h0} (fun _ c=> {c with}) (fun _=>rfl)
theorem NdIs.putFull (h:NdIs B w0 W x s l ss) (v:Int) (h0:0≤v):NdIs B w0 (W.setCell ⟨x.p,39,none⟩ (.int .i64 v)) x {s with full:=v} l ss:=h.put 39 _ (fun _=>rfl) {h.ok with full0:=h0} (fun _ c=> {c with}) (fun _=>rfl)
def TakeC (B:Nat) (w0:World) (x:Np) (s:Ns) (l:Nt) (fn:FuncId) (m:Mm) (sl:Int) (fin:Int×NSt):Prop:=
 ∀W ss,NdIs B w0 W x s l (mmR m ss)→Calls Tryz.prog fn #[ptrV x.p,.agg (mmA m),.int .i64 sl] W fun e w'=>e= .returned (.int .i64 fin.1)∧NdIs B w0 w' x fin.2.1 fin.2.2 (mmR m ss)
end
theorem zqb {m t c x:Int} (hm:1≤m): ∀ {ps:List Peer},(∀q∈ps,0≤q.bad∧q.bad≤m)→ ∀q∈bumpP m t c x ps,0≤q.bad∧q.bad≤m
 | [],_,q,hq=>by
  simp only [bumpP,List.mem_singleton] at hq;subst hq;simp only;omega
 | p::ps,h,q,hq=>by
  unfold bumpP at hq;have hp:=h p (by simp);split at hq
  ·simp only [List.mem_cons] at hq
   rcases hq with hq | hq
   ·split at hq<;>(subst hq;simp only;omega)
   ·exact h q (by simp [hq])
  ·simp only [List.mem_cons] at hq
   rcases hq with rfl | hq
   ·exact hp
   ·exact zqb hm (fun q hq=>h q (by simp [hq])) q hq
section
variable {B:Nat} {w0 w W W':World} {ss rs:List Res} {x:Np} {s s':Ns} {l l':Nt}
abbrev NoAt (p nt f:Nat) (cl:Int) (w:World):Prop:=w.cell? ⟨p,0,none⟩=some (.int .i64 f)∧w.cell? ⟨p,1,none⟩=some (.int .i64 cl)∧w.cell? ⟨p,16,none⟩=some (ptrV nt)
theorem NdIs.noAt (h:NdIs B w0 W x s l ss):NoAt x.p x.nt s.c.f s.c.cl W:=⟨h.cell 0 rfl (by decide),h.cell 1 rfl (by decide),h.cell 16 rfl (by decide)⟩
theorem zg9 {p nt f:Nat} {cl:Int} {o:Obj} (h:NoAt p nt f cl w):NoAt p nt f cl (w.alloc o):=⟨zay h.1,zay h.2.1,zay h.2.2⟩
theorem zxh {p nt f:Nat} {cl:Int} {o:Obj} (h:NoAt p nt f cl w.drew):NoAt p nt f cl (w.alloc o).drew:=zg9 (w:=w) h
theorem zmb {m:Mm} (h:NdIs B w0 W x s l (mmR m ss)): ∃(kind fm view inst seq res:Int) (a1:Option Addr) (rs:List Rq) (c1:Nat) (a2:Option Addr) (vs:Vs) (c2:Nat) (a3:Option Addr) (cts:List Ct) (c3:Nat) (a4:Option Addr) (pts:List Pt) (c4:Nat),
  m=⟨kind,fm,view,inst,seq,res,.slice a1 rs.length c1,rs,.slice a2 vs.length c2,vs,.slice a3 cts.length c3,cts,.slice a4 pts.length c4,pts⟩:=by
 obtain ⟨kind,fm,view,inst,seq,res,vb,rs,vv,vs,vc,cts,vp,pts⟩:=m;obtain ⟨r0,hs0,-⟩:=h.side;obtain ⟨a1,c1,rfl⟩: ∃a c,vb= .slice a rs.length c:=let ⟨a,c,e,_⟩:=zad (k:=5) hs0 rfl;⟨a,c,e⟩;obtain ⟨a2,c2,rfl⟩: ∃a c,vv= .slice a vs.length c:=let ⟨a,c,e,_⟩:=zad (k:=4) hs0 rfl;⟨a,c,e⟩;obtain ⟨a3,c3,rfl⟩: ∃a c,vc= .slice a cts.length c:=let ⟨a,c,e,_⟩:=zad (k:=2) hs0 rfl;⟨a,c,e⟩;obtain ⟨a4,c4,rfl⟩: ∃a c,vp= .slice a pts.length c:=let ⟨a,c,e,_⟩:=zad (k:=0) hs0 rfl;⟨a,c,e⟩;exact ⟨kind,fm,view,inst,seq,res,a1,rs,c1,a2,vs,c2,a3,cts,c3,a4,pts,c4,rfl⟩
theorem nd_ten {m:Mm} {q:Nat} {T:TypeId} {c0 c1 c2 c3 c4 c5 c6 c7 c8 c9 v0 v1 v2 v3 v4 v5 v6 v7 v8 v9:Value} (h:NdIs B w0 W x s l (mmR m (blk q (.cells #[c0,c1,c2,c3,c4,c5,c6,c7,c8,c9] T (0,0))::ss))):NdIs B w0 ((((((((((W.setCell ⟨q,0,none⟩ v0).setCell ⟨q,1,none⟩ v1).setCell ⟨q,2,none⟩ v2).setCell ⟨q,3,none⟩ v3).setCell ⟨q,4,none⟩ v4).setCell ⟨q,5,none⟩ v5).setCell ⟨q,6,none⟩ v6).setCell ⟨q,7,none⟩ v7).setCell ⟨q,8,none⟩ v8).setCell ⟨q,9,none⟩ v9) x s l (mmR m (blk q (.cells #[v0,v1,v2,v3,v4,v5,v6,v7,v8,v9] T (0,0))::ss)):=by
 have h1:NdIs B w0 W x s l (blk q (.cells #[c0,c1,c2,c3,c4,c5,c6,c7,c8,c9] T (0,0))::mmR m ss):=h.perm ((List.perm_append_comm (l₁:=[_,_,_,_,_,_]) (l₂:=[_])).append_right ss);obtain ⟨r,hs,hk⟩:=h1.side;have h2:=hk _ (blk q (.cells #[v0,v1,v2,v3,v4,v5,v6,v7,v8,v9] T (0,0))::mmR m ss) (zcz hs);exact h2.perm ((List.perm_append_comm (l₁:=[_]) (l₂:=[_,_,_,_,_,_])).append_right ss)
theorem zkk {m:Mm} (h:NdIs B w0 W x s l (mmR m ss)):NdIs B w0 W x s l ss:=h.drop.drop.drop.drop.drop.drop
theorem zha {bv:Value} {bs:Bys} {m:Ms} {sl:Int} (h:NdIs B w0 W x s l ss) (hb:RdOk w0 B bv bs ss) (ho:openP l s.c.f s.c.cl bs=some (m,sl)):
  Calls Tryz.prog 27 #[bv,.int .i64 s.c.f,.int .i64 s.c.cl,ptrV x.nt] W fun e w'=> ∃mm:Mm,e= .returned (.tuple #[.agg (mmA mm),.int .i64 sl,.int .i64 0])∧mm.ms=m∧MsOk m∧NdIs B w0 w' x s l (mmR mm ss):=by
 have hok:=h.ok.c;obtain ⟨r,hs,hk⟩:=h.sideN;have hnt:NtIn (blk x.nt (noB x.nm)::ntR x.nm l::(ss++[r])) x.nt x.nm l:=⟨by simp,by simp⟩;have:=zz2 (f:=s.c.f) (cl:=s.c.cl) hok.f1 hok.f2 hok.cl1 hok.cl2 hs (hb.sub (fun q hq=>by simp [hq])) hnt h.nok;rw [ho] at this;refine this.mono ?_;rintro e w' ⟨mm,he,h1,h2,h3⟩;refine ⟨mm,he,h1,h2,hk w' l (mmR mm ss) h.nok ?_⟩;exact h3.perm ((List.perm_append_comm (l₁:=[_,_,_,_,_,_]) (l₂:=[_,_])).append_right _)
theorem zrn {src sl:Int} {bv:Value} {bs:Bys} {m:Ms} {v:Int} {p:NSt} (h:NdIs B w0 W x s l ss) (hb:RdOk w0 B bv bs ss) (hst:s.stop=false) (hg:s.gd.length≤1000) (hsh:shutP s.gd src s.now=false) (ho:openP l s.c.f s.c.cl bs=some (m,sl))
  (HT: ∀mm:Mm,mm.ms=m→TakeC B w0 x s l 98 mm sl (v,p)) (hv:v=0∨v=1∨v=2∨v=3) (hfg:p.1.gd.length≤1000)
  (hu:p.1.used≤1000000000000) (hbd:p.1.bad≤1000000000000) (hsl:p.1.stale≤1000000000000) (hfu:p.1.full≤1000000000000):
  Calls Tryz.prog 34 #[ptrV x.p,.int .i64 src,bv] W fun e w'=>e= .returned (.tuple #[])∧NdIs B w0 w' x (zlu src (v,p)).1 (zlu src (v,p)).2 ss:=by
 have HN:=zq (zme h.drew);have HS:=zq (nd_shut h.drew src s.now hg);rw [hsh] at HS;have H:=zq h;have HB:=zq hb;have HO:=zq ho;have HTT:=zq HT;obtain ⟨ao,cap,rfl,-,-⟩:=hb.f;have c17:=h.drew.cell 17 rfl (by decide);have c21:=h.drew.cell 21 rfl (by decide);have c33:W.drew.cell? ⟨x.p,33,none⟩=some (.bool false):=by have:=h.drew.cell 33 rfl (by decide);rw [hst] at this;exact this
 clear h hst hsh hb ho HT;go_enter Tryz.func34,Tryz.ntmps34
 go_upto_region 0 with fail
 refine Held.wp_held [(x.p,33,[.bool false]),(x.p,21,[ptrV x.gd]),(x.p,17,[ptrV x.t])] [(3,0),(8,1),(13,2)] [15] [(15,true),(1,false)] (by kernel_rfl) (by kernel_rfl) ⟨⟨c33,trivial⟩,⟨c21,trivial⟩,⟨c17,trivial⟩,trivial⟩ ?_;simp only [Held.cutAt,Held.walk,List.take_succ_cons,List.take_zero,List.drop_succ_cons,List.drop_zero]
 go_wp2_with fail
 refine HN.out.mono ?_;rintro e w' ⟨rfl,rfl⟩
 go_wp2_with fail
 refine ⟨⟨⟨c33,trivial⟩,⟨c21,trivial⟩,⟨c17,trivial⟩,trivial⟩,?_⟩
 go_wp2_with fail
 refine HS.out.mono ?_;rintro e w1 ⟨rfl,hu1⟩;have H1:=zq (H.out.drew.upd0 hu1);clear hu1 HS HN H
 go_wp2_with fail
 refine ⟨trivial,?_⟩
 go_wp2_with fail
 refine ⟨trivial,by rfl,⟨⟨rfl,.inl ⟨by kernel_rfl,rfl⟩⟩,⟨rfl,.inl ⟨by kernel_rfl,rfl⟩⟩,⟨rfl,.inl ⟨by kernel_rfl,rfl⟩⟩,trivial⟩,?_⟩;clear c17 c21 c33;have d0:NoAt x.p x.nt s.c.f s.c.cl w1.drew:=H1.out.drew.noAt;have HP1:=zq (zha H1.out.drew HB.out HO.out);have HP2:=zq (zha (H1.out.box (.cells #[.int .i64 0,.int .i64 0,.int .i64 0,.int .i64 0,.int .i64 0,.int .i64 0,.slice none 0 0,.slice none 0 0,.slice none 0 0,.slice none 0 0] 47 (0,0))).drew (HB.out.sub (fun q hq=>by simp [hq])) HO.out)
 go_upto_region 3 with fail
 go_region_held3 (fun w'=>NoAt x.p x.nt s.c.f s.c.cl w')
  (first | (with_reducible exact d0) | (with_reducible exact e0) | (with_reducible exact zg9 d0) | (with_reducible exact zg9 e0) | (with_reducible exact e1) | (with_reducible exact zxh d0) | (with_reducible exact zxh e0))
  (first | (go_at_call 27;refine HP1.out.mono ?_;rintro e w3 ⟨mm,rfl,hmm,-,h3⟩;have e0:=h3.noAt;obtain ⟨kind,fm,view,inst,seq,res,a1,rs,c1,a2,vs,c2,a3,cts,c3,a4,pts,c4,rfl⟩:=zmb h3;have H3:=zq h3;clear h3) | (go_at_call 27;refine HP2.out.mono ?_;rintro e w3 ⟨mm,rfl,hmm,-,h3⟩;have e0:=h3.noAt;obtain ⟨kind,fm,view,inst,seq,res,a1,rs,c1,a2,vs,c2,a3,cts,c3,a4,pts,c4,rfl⟩:=zmb h3;have H3:=zq h3;clear h3;obtain ⟨r3,hs3,-⟩:=H3.out.side;have b0:=hs3.blkAt 6 rfl;have x0:=zaa b0 0 rfl;have z0:=zab b0 0;have x1:=zaa b0 1 rfl;have z1:=zab b0 1;have x2:=zaa b0 2 rfl;have z2:=zab b0 2;have x3:=zaa b0 3 rfl;have z3:=zab b0 3;have x4:=zaa b0 4 rfl;have z4:=zab b0 4;have x5:=zaa b0 5 rfl;have z5:=zab b0 5;have x6:=zaa b0 6 rfl;have z6:=zab b0 6;have x7:=zaa b0 7 rfl;have z7:=zab b0 7;have x8:=zaa b0 8 rfl;have z8:=zab b0 8;have x9:=zaa b0 9 rfl;have z9:=zab b0 9;have H4:=zq (nd_ten (v0:= .int .i64 kind) (v1:= .int .i64 fm) (v2:= .int .i64 view) (v3:= .int .i64 inst) (v4:= .int .i64 seq) (v5:= .int .i64 res) (v6:= .slice a1 rs.length c1) (v7:= .slice a2 vs.length c2) (v8:= .slice a3 cts.length c3) (v9:= .slice a4 pts.length c4) H3.out);have e1:=H4.out.noAt;clear b0 hs3))
 ·have HZ:Hid (NdIs B w0 (w3.alloc (mmO ⟨kind,fm,view,inst,seq,res,.slice a1 rs.length c1,rs,.slice a2 vs.length c2,vs,.slice a3 cts.length c3,cts,.slice a4 pts.length c4,pts⟩)) x s l (mmR ⟨kind,fm,view,inst,seq,res,.slice a1 rs.length c1,rs,.slice a2 vs.length c2,vs,.slice a3 cts.length c3,cts,.slice a4 pts.length c4,pts⟩ (blk w3.heap.size (mmO ⟨kind,fm,view,inst,seq,res,.slice a1 rs.length c1,rs,.slice a2 vs.length c2,vs,.slice a3 cts.length c3,cts,.slice a4 pts.length c4,pts⟩)::ss))):=zq ((H3.out.box (mmO ⟨kind,fm,view,inst,seq,res,.slice a1 rs.length c1,rs,.slice a2 vs.length c2,vs,.slice a3 cts.length c3,cts,.slice a4 pts.length c4,pts⟩)).perm ((List.perm_append_comm (l₁:=[_]) (l₂:=[_,_,_,_,_,_])).append_right ss))
  clear H3 H1 d0 e0 HP1 HP2;generalize World.alloc w3 _=y at*;generalize w3.heap.size=q at*;obtain ⟨rq,hsq,-⟩:=HZ.out.side;have hbq:=hsq.blkAt 6 rfl;have y0:=zaa hbq 0 rfl;have y1:=zaa hbq 1 rfl;have y2:=zaa hbq 2 rfl;have y3:=zaa hbq 3 rfl;have y4:=zaa hbq 4 rfl;have y5:=zaa hbq 5 rfl;have y6:=zaa hbq 6 rfl;have y7:=zaa hbq 7 rfl;have y8:=zaa hbq 8 rfl;have y9:=zaa hbq 9 rfl;have HTK:=zq (HTT.out ⟨kind,fm,view,inst,seq,res,.slice a1 rs.length c1,rs,.slice a2 vs.length c2,vs,.slice a3 cts.length c3,cts,.slice a4 pts.length c4,pts⟩ hmm y (blk q (mmO ⟨kind,fm,view,inst,seq,res,.slice a1 rs.length c1,rs,.slice a2 vs.length c2,vs,.slice a3 cts.length c3,cts,.slice a4 pts.length c4,pts⟩)::ss) HZ.out);clear HZ hsq hbq HTT hmm
  go_wp2_with fail
  refine HTK.out.mono ?_;rintro e w4 ⟨rfl,h4⟩;have H5:Hid (NdIs B w0 w4 x p.1 p.2 ss):=zq (zkk h4).drop;clear h4 HTK;have u0:=H5.out.ok.used0;have b0:=H5.out.ok.bad0;have s0:=H5.out.ok.stale0;have f0:=H5.out.ok.full0;clear y0 y1 y2 y3 y4 y5 y6 y7 y8 y9;rcases hv with rfl | rfl | rfl | rfl
  ·have c35:=H5.out.cell 35 rfl (by decide)
   have z35:=H5.out.fz 35;have HF:=zq (H5.out.putUsed (p.1.used+1) (by omega));clear H5 s0 f0 b0
   go_wp2_with fail
   refine bodyPost_end (results_none rfl _ _ _) rfl ?_;exact ⟨rfl,HF.out⟩
  ·have c37:=H5.out.cell 37 rfl (by decide)
   have z37:=H5.out.fz 37;have HF:=zq (H5.out.putStale (p.1.stale+1) (by omega));clear H5 u0 f0 b0
   go_wp2_with fail
   refine bodyPost_end (results_none rfl _ _ _) rfl ?_;exact ⟨rfl,HF.out⟩
  ·have c39:=H5.out.cell 39 rfl (by decide)
   have z39:=H5.out.fz 39;have HF:=zq (H5.out.putFull (p.1.full+1) (by omega));clear H5 s0 u0 b0
   go_wp2_with fail
   refine bodyPost_end (results_none rfl _ _ _) rfl ?_;exact ⟨rfl,HF.out⟩
  ·have HN:=zq (zme H5.out.drew)
   have HG:=zq (nd_bad H5.out.drew src p.1.now hfg (zqb H5.out.ok.c.fl1 H5.out.ok.gd));have c17:=H5.out.drew.cell 17 rfl (by decide);have c21:=H5.out.drew.cell 21 rfl (by decide);clear H5 u0 s0 f0
   go_wp2_with fail
   go_upto_region 7 with fail
   refine Held.wp_held [(x.p,21,[ptrV x.gd]),(x.p,17,[ptrV x.t])] [(3,0),(8,1)] [10] [(10,true),(1,false)] (by kernel_rfl) (by kernel_rfl) ⟨⟨c21,trivial⟩,⟨c17,trivial⟩,trivial⟩ ?_;simp only [Held.cutAt,Held.walk,List.take_succ_cons,List.take_zero,List.drop_succ_cons,List.drop_zero]
   go_wp2_with fail
   refine HN.out.mono ?_;rintro e w' ⟨rfl,rfl⟩
   go_wp2_with fail
   refine ⟨⟨⟨c21,trivial⟩,⟨c17,trivial⟩,trivial⟩,?_⟩
   go_wp2_with fail
   refine HG.out.mono ?_;rintro e w5 ⟨⟨rb,rfl⟩,h5⟩;have H6:=zq h5;clear h5 HN HG c17 c21
   go_wp2_with fail
   refine ⟨trivial,?_⟩
   go_wp2_with fail
   refine ⟨trivial,by rfl,⟨⟨rfl,.inl ⟨by kernel_rfl,rfl⟩⟩,⟨rfl,.inl ⟨by kernel_rfl,rfl⟩⟩,trivial⟩,?_⟩;have c36:=H6.out.cell 36 rfl (by decide);have z36:=H6.out.fz 36;have HF:=zq (H6.out.putBad (p.1.bad+1) (by omega));clear H6
   go_wp2_with fail
   refine bodyPost_end (results_none rfl _ _ _) rfl ?_;exact ⟨rfl,HF.out⟩
 ·have HZ:=H4
  clear H3 H4 H1 d0 e0 e1 HP1 HP2 x0 x1 x2 x3 x4 x5 x6 x7 x8 x9 z0 z1 z2 z3 z4 z5 z6 z7 z8 z9;generalize World.setCell _ _ _=y at*;generalize w1.heap.size=q at*;obtain ⟨rq,hsq,-⟩:=HZ.out.side;have hbq:=hsq.blkAt 6 rfl;have y0:=zaa hbq 0 rfl;have y1:=zaa hbq 1 rfl;have y2:=zaa hbq 2 rfl;have y3:=zaa hbq 3 rfl;have y4:=zaa hbq 4 rfl;have y5:=zaa hbq 5 rfl;have y6:=zaa hbq 6 rfl;have y7:=zaa hbq 7 rfl;have y8:=zaa hbq 8 rfl;have y9:=zaa hbq 9 rfl;have HTK:=zq (HTT.out ⟨kind,fm,view,inst,seq,res,.slice a1 rs.length c1,rs,.slice a2 vs.length c2,vs,.slice a3 cts.length c3,cts,.slice a4 pts.length c4,pts⟩ hmm y (blk q (mmO ⟨kind,fm,view,inst,seq,res,.slice a1 rs.length c1,rs,.slice a2 vs.length c2,vs,.slice a3 cts.length c3,cts,.slice a4 pts.length c4,pts⟩)::ss) HZ.out);clear HZ hsq hbq HTT hmm
  go_wp2_with fail
  refine HTK.out.mono ?_;rintro e w4 ⟨rfl,h4⟩;have H5:Hid (NdIs B w0 w4 x p.1 p.2 ss):=zq (zkk h4).drop;clear h4 HTK;have u0:=H5.out.ok.used0;have b0:=H5.out.ok.bad0;have s0:=H5.out.ok.stale0;have f0:=H5.out.ok.full0;clear y0 y1 y2 y3 y4 y5 y6 y7 y8 y9;rcases hv with rfl | rfl | rfl | rfl
  ·have c35:=H5.out.cell 35 rfl (by decide)
   have z35:=H5.out.fz 35;have HF:=zq (H5.out.putUsed (p.1.used+1) (by omega));clear H5 s0 f0 b0
   go_wp2_with fail
   refine bodyPost_end (results_none rfl _ _ _) rfl ?_;exact ⟨rfl,HF.out⟩
  ·have c37:=H5.out.cell 37 rfl (by decide)
   have z37:=H5.out.fz 37;have HF:=zq (H5.out.putStale (p.1.stale+1) (by omega));clear H5 u0 f0 b0
   go_wp2_with fail
   refine bodyPost_end (results_none rfl _ _ _) rfl ?_;exact ⟨rfl,HF.out⟩
  ·have c39:=H5.out.cell 39 rfl (by decide)
   have z39:=H5.out.fz 39;have HF:=zq (H5.out.putFull (p.1.full+1) (by omega));clear H5 s0 u0 b0
   go_wp2_with fail
   refine bodyPost_end (results_none rfl _ _ _) rfl ?_;exact ⟨rfl,HF.out⟩
  ·have HN:=zq (zme H5.out.drew)
   have HG:=zq (nd_bad H5.out.drew src p.1.now hfg (zqb H5.out.ok.c.fl1 H5.out.ok.gd));have c17:=H5.out.drew.cell 17 rfl (by decide);have c21:=H5.out.drew.cell 21 rfl (by decide);clear H5 u0 s0 f0
   go_wp2_with fail
   go_upto_region 7 with fail
   refine Held.wp_held [(x.p,21,[ptrV x.gd]),(x.p,17,[ptrV x.t])] [(3,0),(8,1)] [10] [(10,true),(1,false)] (by kernel_rfl) (by kernel_rfl) ⟨⟨c21,trivial⟩,⟨c17,trivial⟩,trivial⟩ ?_;simp only [Held.cutAt,Held.walk,List.take_succ_cons,List.take_zero,List.drop_succ_cons,List.drop_zero]
   go_wp2_with fail
   refine HN.out.mono ?_;rintro e w' ⟨rfl,rfl⟩
   go_wp2_with fail
   refine ⟨⟨⟨c21,trivial⟩,⟨c17,trivial⟩,trivial⟩,?_⟩
   go_wp2_with fail
   refine HG.out.mono ?_;rintro e w5 ⟨⟨rb,rfl⟩,h5⟩;have H6:=zq h5;clear h5 HN HG c17 c21
   go_wp2_with fail
   refine ⟨trivial,?_⟩
   go_wp2_with fail
   refine ⟨trivial,by rfl,⟨⟨rfl,.inl ⟨by kernel_rfl,rfl⟩⟩,⟨rfl,.inl ⟨by kernel_rfl,rfl⟩⟩,trivial⟩,?_⟩;have c36:=H6.out.cell 36 rfl (by decide);have z36:=H6.out.fz 36;have HF:=zq (H6.out.putBad (p.1.bad+1) (by omega));clear H6
   go_wp2_with fail
   refine bodyPost_end (results_none rfl _ _ _) rfl ?_;exact ⟨rfl,HF.out⟩
end
end Go.Proofs.YtannckelmojkoaaGreat
