/- Parts of the proof, one behind the other. -/
import Derived.Test.YtannckelmojkoaaGreatVwsB5
import Derived.Deep.AppendLies
set_option maxHeartbeats 32000000
set_option maxRecDepth 100000
set_option linter.unusedVariables false
set_option linter.unusedSimpArgs false
namespace Go.Proofs.YtannckelmojkoaaGreat
open Go.RowKit Go.Heap
section
variable {B:Nat} {w0 W W':World} {ss rs:List Res} {x:Ins}
abbrev zct:Obj:=ctO 0 0 0 (.slice none 0 0) (.slice none 0 0)
theorem zhe {v u:Value} {l:List Rq} {vs:Vs} (h:Own B w0 W rs) (hu:Upd [] W W') (hb:Bat W' v l) (hv:Vts W' u vs) (n1: ∀k∈blkOf v,W.heap.size≤k) (n2: ∀k∈blkOf u,W.heap.size≤k):
  Own B w0 W' (redR u 2 vs.length (zaf vs)::redR v 6 l.length (zak l)::rs):=by
 have h1:=(h.upd0 hu).red hb (fun k hk=>h.fresh (n1 k (zc8 hk)));refine h1.red hv (fun k hk hn=> ?_);rcases (zc6 _ _ _).1 hn with hn | hn
 ·simp [redR,imm] at hn
 ·exact h.fresh (n2 k (zc8 hk)) hn
theorem zny (h:OwnI B w0 W x ss) (k:Nat) (hk:k<x.l.length):(Bat W x.l[k].ct.vb x.l[k].ct.rs∧Vts W x.l[k].ct.vv x.l[k].ct.vs∧x.l[k].ct.rs.length≤100000∧x.l[k].ct.vs.length≤100000)∧
  Bat W x.l[k].dw.vb x.l[k].dw.rs∧Vts W x.l[k].dw.vv x.l[k].dw.vs∧x.l[k].dw.rs.length≤100000∧x.l[k].dw.vs.length≤100000:=by
 obtain ⟨D,⟨⟨_,h2⟩,_⟩,_,_⟩:=(h.all (zdj x) (by simp [insHd])).1;obtain ⟨q1,q2⟩:=h2 x.l[k] (by simp);exact ⟨⟨q1.b.1,q1.v.1,q1.bn,q1.vn⟩,q2.b.1,q2.v.1,q2.bn,q2.vn⟩
theorem zqh {all:List Vt} {q n:Nat}: ∀l:List Vt,(∀t∈l,t.batch.length≤n)→(zd8 (zax all q l)).length≤n
 | [],_=>by simp [zax,zd8]
 | t::r,h=>by
  have ih:=zqh (all:=all) (q:=q) r (fun t ht=>h t (List.mem_cons_of_mem _ ht));unfold zax;cases t.has
  ·exact ih
  ·cases zb2 all t.batch q with
   | none=>exact ih
   | some vs=>exact h t (by simp)
theorem zqt {all:List Vt} {b:List Rq} {q:Nat} {vs:Vs} (h:zb2 all b q=some vs):vs.length≤q:=by
 unfold zb2 at h;split at h
 ·cases h
 ·simp only [Option.some.injEq] at h
  subst h;rw [List.length_take];omega
theorem zqi {all:List Vt} {q:Nat}: ∀l:List Vt,(zeo (zax all q l)).length≤q
 | []=>by simp [zax,zeo]
 | t::r=>by
  have ih:=zqi (all:=all) (q:=q) r;unfold zax;cases t.has
  ·exact ih
  ·cases he:zb2 all t.batch q with
   | none=>exact ih
   | some vs=>exact zqt he
theorem zyl {st:Sl} {f:Nat} (h: ∀t∈st.cs,t.batch.length≤100000) (hf:f≤4):(zd8 (zaq f st)).length≤100000∧(zeo (zaq f st)).length≤100000:=
 ⟨zqh _ h,by have:=zqi (all:=st.cs) (q:=2*f+1) st.cs;unfold zaq;omega⟩
theorem zn4 {b:Nat} {a1 a2 a3:Int} {a4 a5:Value} (h:Own B w0 W (blk b (ctO a1 a2 a3 a4 a5)::rs)) (view inst seq:Int) (vb vv:Value):
  Own B w0 (((((W.setCell ⟨b,0,none⟩ (.int .i64 view)).setCell ⟨b,1,none⟩ (.int .i64 inst)).setCell ⟨b,2,none⟩ (.int .i64 seq)).setCell ⟨b,3,none⟩ vb).setCell ⟨b,4,none⟩ vv) (blk b (ctO view inst seq vb vv)::rs):=
 ((((h.store 0 (.int .i64 view)).store 1 (.int .i64 inst)).store 2 (.int .i64 seq)).store 3 vb).store 4 vv
theorem zx9 (w:World) (b:Nat) (view inst seq:Int) (vb vv:Value):Upd [b] w (((((w.setCell ⟨b,0,none⟩ (.int .i64 view)).setCell ⟨b,1,none⟩ (.int .i64 inst)).setCell ⟨b,2,none⟩ (.int .i64 seq)).setCell ⟨b,3,none⟩ vb).setCell ⟨b,4,none⟩ vv):=
 (((((Upd.refl _ _).setCell (.inl (by simp)) _).setCell (.inl (by simp)) _).setCell (.inl (by simp)) _).setCell (.inl (by simp)) _).setCell (.inl (by simp)) _
theorem zls {seq:Int} {st:In} (h:commI st seq=none):zbk st seq=st:=by
 unfold zbk;rw [h];cases idx seq<;>rfl
theorem zo9 (h:Own B w0 W (instR x::ss)) {i:Nat} (hi:x.i=i) (seq:Int):Calls Tryz.prog 256 #[.pointer (some ⟨i,0,none⟩),.int .i64 seq] W (CertP B w0 W i (commI x.st seq) (zbk x.st seq) ss):=by
 subst hi;have hz:=zcg (h.box zct).swap;obtain ⟨-,-,-,-,-,c5,l1,l2⟩:=zcd hz;cases hk:idx seq with
 | none=>
  have hs:=zi7 hk;have HE:=zq (show commI x.st seq=none by simp [commI,zgn hk]);have HA:=zq (at_no x.i x.b x.cap seq _ hs c5);have H:=zq h;clear hz h hk hs c5;go_enter Tryz.func256,Tryz.ntmps256
  go_wp2_with fail
  refine HA.out.mono ?_;rintro e w' ⟨rfl,rfl⟩
  go_wp2_with fail
  exact bodyPost_ret (v:= .tuple #[ctAgg noCt,.bool false]) (by simp [results,Tryz.results256,go_sem,noCt]) rfl (zdb (H.out.upd0 ((Upd.refl _ _).alloc _)) HE.out (zls HE.out))
 | some k=>
  obtain ⟨hl,hp⟩:=zgo (oi_ok hz) hk;obtain ⟨i1,i2⟩:=zo8 hk;have HA:=zq (ztv x.i x.b x.cap seq _ (by omega) (by omega) c5);have hks:seq.toNat-1=k:=by omega
  rw [hks] at HA;have cp:=zkm hz k hl;have cd:=zxl hz k hl;have HLF:=zq ((oi_ok hz).lf _ (List.getElem_mem hl));cases hd:x.l[k].done
  ·rw [hd] at cd
   have HC:=zq (zko (zex hz k hl));have HSM:=zq (zyl (zn3 (zex hz k hl)).2.2.1 (oi_ok hz).f2);have HCI:=zq (show commI x.st seq=(zaq x.f x.l[k].sl).map fun r=>⟨x.view,x.num,seq,r.1,r.2⟩ by simp only [commI,hp];simp [Pm.pl,Ins.st,hd]);have HZ:=zq hz;have H:=zq h;have HK:=zq hk;clear hz h hk hp i2 hks hd;go_enter Tryz.func256,Tryz.ntmps256
   go_wp2_with fail
   refine HA.out.mono ?_;rintro e w' ⟨rfl,rfl⟩
   go_wp2_with fail
   refine HC.out.mono ?_;rintro e w2 ⟨v,u,rfl,hu,hb,hv,n1,n2⟩;rw [HLF.out] at hb hv⊢;obtain ⟨ao,cap,rfl⟩:=zca hb;obtain ⟨co,cav,rfl⟩:=zd2 hv;have H2:=zq (zhe HZ.out hu hb hv n1 n2);clear hu hb hv n1 n2 cp cd c5 HC HA;obtain ⟨hnb,hnv⟩:=HSM.out;cases hcm:zaq x.f x.l[k].sl with
   | none=>
    rw [hcm] at HCI;have H3:=zq (zcp H2.out.drop.drop);have fz:=fun o=>zab H3.out.drop.blk_out o;have hbx:=H3.out.drop.blk_out;have HBX:=zq hbx;obtain ⟨f0,f1,f2,f3,f4,fl,-⟩:=zbd hbx;have fz0:=fz 0;have fz1:=fz 1;have fz2:=fz 2;have fz3:=fz 3;have fz4:=fz 4;clear hbx fz hcm
    go_wp2_with fail
    have H4:=zq (zn4 H3.out.swap 0 0 0 (.slice none 0 0) (.slice none 0 0));generalize ((((w2.setCell ⟨W.heap.size,0,none⟩ (.int .i64 0)).setCell ⟨W.heap.size,1,none⟩ (.int .i64 0)).setCell ⟨W.heap.size,2,none⟩ (.int .i64 0)).setCell ⟨W.heap.size,3,none⟩ (.slice none 0 0)).setCell ⟨W.heap.size,4,none⟩ (.slice none 0 0)=w4 at*;clear f0 f1 f2 f3 f4 fl fz0 fz1 fz2 fz3 fz4 HBX;obtain ⟨f0,f1,f2,f3,f4,fl,-⟩:=zbd H4.out.blk_out;exact bodyPost_ret (v:= .tuple #[ctAgg noCt,.bool false]) (by simp [results,Tryz.results256,go_sem,noCt,f0,f1,f2,f3,f4]) rfl (zdb H4.out.drop HCI.out (zls HCI.out))
   | some r=>
    rw [hcm] at HCI H2 hnb hnv;have hb2:=zvd H2.out.drop.drop;have HB2:=zq hb2;clear hb2 hcm
    go_wp2_with fail
    refine (zqd x.i x.f x.num x.ahead x.view x.on _ seq ao _ cap co _ cav _ HB2.out).mono ?_;rintro e w3 ⟨rfl,hu3⟩;have H3:=zq (H2.out.upd0 hu3);clear hu3 H2 HB2;have ho3:=H3.out.drop.drop;have c8:=oi_at ho3 k hl 8 (by omega);have c9:=oi_at ho3 k hl 9 (by omega);have c10:=oi_at ho3 k hl 10 (by omega);have c11:=oi_at ho3 k hl 11 (by omega);have c12:=oi_at ho3 k hl 12 (by omega);have c13:=oi_at ho3 k hl 13 (by omega);obtain ⟨fzb,-⟩:=oi_fz ho3;have z8:=fzb (k*14+8);have z9:=fzb (k*14+9);have z10:=fzb (k*14+10);have z11:=fzb (k*14+11);have z12:=fzb (k*14+12);have z13:=fzb (k*14+13);clear ho3 fzb;simp only [zal,List.getElem?_cons_succ,List.getElem?_cons_zero] at c8 c9 c10 c11 c12 c13
    go_wp2_with fail
    have H4:=zq (oi_dw H3.out k hl x.view x.num seq hnb hnv);have r1:=(zf0 (H3.out.drop.head));have r2:=(zf0 H3.out.head);have H4S:=zq (show W.heap.size<w3.heap.size from block_lt (zcp H3.out.drop.drop).drop.blk_out);generalize (((((w3.setCell ⟨x.b,k*14+8,none⟩ (.bool true)).setCell ⟨x.b,k*14+9,none⟩ (.int .i64 x.view)).setCell ⟨x.b,k*14+9+1,none⟩ (.int .i64 x.num)).setCell ⟨x.b,k*14+9+2,none⟩ (.int .i64 seq)).setCell ⟨x.b,k*14+9+3,none⟩ (.slice ao (zd8 (some r)).length cap)).setCell ⟨x.b,k*14+9+4,none⟩ (.slice co (zeo (some r)).length cav)=w4 at*;clear c8 c9 c10 c11 c12 c13 z8 z9 z10 z11 z12 z13 H3 r1 r2;have hq:=(zny H4.out k (by simpa using hl)).2;simp only [List.getElem_set_self] at hq;obtain ⟨q1,q2,q3,q4⟩:=hq;have HF:=zq (zl0 ⟨x.view,x.num,seq,.slice ao (zd8 (some r)).length cap,.slice co (zeo (some r)).length cav,zd8 (some r),zeo (some r)⟩ w4 q1 q3 q2 q4);clear q1 q2 q3 q4;have H4L:=zq (show W.heap.size<w4.heap.size from block_lt (zcp H4.out).drop.blk_out);refine HF.out.mono ?_;rintro e w5 ⟨⟨view',inst',seq',vb',vv',rs',vs'⟩,rfl,hcp,hu5,hb5,hv5,nb,nv⟩;simp only at hb5 hv5 nb nv;obtain ⟨ao6,cap6,rfl⟩:=zca hb5;obtain ⟨co6,cav6,rfl⟩:=zd2 hv5;have H5:=zq ((zhe (zcp H4.out).swap hu5 hb5 hv5 nb nv).rot);have HCP:=zq hcp;have HB5:=zq hb5;have HV5:=zq hv5;have NB:=zq nb;have NV:=zq nv;clear hcp hu5 hb5 hv5 nb nv H4 HF;obtain ⟨f0,f1,f2,f3,f4,fl,fz⟩:=zbd H5.out.blk_out;have fz0:=fz 0;have fz1:=fz 1;have fz2:=fz 2;have fz3:=fz 3;have fz4:=fz 4;clear fz
    go_wp2_with fail
    have H6:=zq (zn4 H5.out view' inst' seq' (.slice ao6 rs'.length cap6) (.slice co6 vs'.length cav6));have HU6:=zq (zx9 w5 W.heap.size view' inst' seq' (.slice ao6 rs'.length cap6) (.slice co6 vs'.length cav6));generalize ((((w5.setCell ⟨W.heap.size,0,none⟩ (.int .i64 view')).setCell ⟨W.heap.size,1,none⟩ (.int .i64 inst')).setCell ⟨W.heap.size,2,none⟩ (.int .i64 seq')).setCell ⟨W.heap.size,3,none⟩ (.slice ao6 rs'.length cap6)).setCell ⟨W.heap.size,4,none⟩ (.slice co6 vs'.length cav6)=w6 at*;clear f0 f1 f2 f3 f4 fl fz0 fz1 fz2 fz3 fz4 H5;obtain ⟨f0,f1,f2,f3,f4,fl,-⟩:=zbd H6.out.blk_out;refine bodyPost_ret (v:= .tuple #[ctAgg ⟨view',inst',seq',.slice ao6 rs'.length cap6,.slice co6 vs'.length cav6,rs',vs'⟩,.bool true]) (by simp [results,Tryz.results256,go_sem,f0,f1,f2,f3,f4]) rfl ?_;have hcp:=HCP.out;simp only [Ct.cp,Cp.mk.injEq] at hcp;obtain ⟨e1,e2,e3,e4,e5⟩:=hcp;have hnew: ∀(v:Value),(∀k∈blkOf v,w4.heap.size≤k)→(∀k∈blkOf v,W.heap.size≤k)∧ ∀k∈blkOf v,k∉[W.heap.size]:=fun v hv=>⟨fun k hk=>by have:=hv k hk;have:=H4L.out;omega,fun k hk hn=>by have:=hv k hk;have:=H4L.out;simp at hn;omega⟩;refine ⟨⟨view',inst',seq',.slice ao6 rs'.length cap6,.slice co6 vs'.length cav6,rs',vs'⟩,?_,?_,⟨by simp only [e4];exact hnb,by simp only [e5];exact hnv⟩,HB5.out.upd HU6.out (hnew _ NB.out).2,Reads.upd HV5.out HU6.out (hnew _ NV.out).2,(hnew _ NB.out).1,(hnew _ NV.out).1,
     x.sl k {x.l[k] with done:=true,dw:=⟨x.view,x.num,seq,.slice ao (zd8 (some r)).length cap,.slice co (zeo (some r)).length cav,zd8 (some r),zeo (some r)⟩},rfl,?_,H6.out.drop⟩
    ·rw [HCI.out];rfl
    ·rw [HCI.out]
     simp only [Ct.cp,Option.map_some,Option.getD_some,Cp.mk.injEq];exact ⟨e1,e2,e3,e4,e5⟩
    ·rw [show zbk x.st seq=x.st.upd k fun p=> {p with done:=true,dw:=⟨x.view,x.num,seq,r.1,r.2⟩} by simp [zbk,HK.out,HCI.out]]
     exact zpv x k hl _ _ rfl
  ·rw [hd] at cd
   have HE:=zq (show commI x.st seq=none by simp only [commI,hp];simp [Pm.pl,hd]);have H:=zq h;clear hz h hk hp i2 hks hd c5 cp;go_enter Tryz.func256,Tryz.ntmps256
   go_wp2_with fail
   refine HA.out.mono ?_;rintro e w' ⟨rfl,rfl⟩
   go_wp2_with fail
   exact bodyPost_ret (v:= .tuple #[ctAgg noCt,.bool false]) (by simp [results,Tryz.results256,go_sem,noCt]) rfl (zdb (H.out.upd0 ((Upd.refl _ _).alloc _)) HE.out (zls HE.out))
end
theorem Tryz.infoPl:(Tryz.prog.info? 241).map (fun i=>(i.zero,i.size,i.bytes))=some (some (.agg #[.pointer none,.bool false,.bool false,.int .i64 0,.int .i64 0,.int .i64 0,.slice none 0 0,.slice none 0 0,.bool false,.int .i64 0,.int .i64 0,.int .i64 0,.slice none 0 0,.slice none 0 0]),14,168):=by kernel_rfl
section
variable {B:Nat} {w0 W W':World} {ss rs:List Res} {x:Ins}
def newPm (L:Loc) (f:Nat):Pm:=⟨L,zbc f,false,false,noCt,false,noCt⟩
theorem zva (L:Loc) (f:Nat): ∀u∈zal (newPm L f),u.oneCell'=true:=by
 intro u hu;simp only [zal,newPm,noCt,List.mem_cons,List.not_mem_nil,or_false] at hu;rcases hu with rfl | rfl | rfl | rfl | rfl | rfl | rfl | rfl | rfl | rfl | rfl | rfl | rfl | rfl<;>rfl
def NewP (B:Nat) (w0:World) (st:In) (ss:List Res) (e:Ending) (w':World):Prop:= ∃x:Ins,e= .returned (.tuple #[x.ptr,.int .i64 0])∧x.st=st∧Own B w0 w' (instR x::ss)
def MkI (B:Nat) (w0 w:World) (i f:Nat) (num ahead:Int) (k:Nat) (ss:List Res):Prop:=
 ∃(ls:List Loc) (ao:Option Addr) (cp:Nat),ls.length=k∧(∀L∈ls,L.f=f)∧
  Own B w0 w (ownR 241 14 (.slice ao k cp) k ((ls.map fun L=>newPm L f).flatMap zal)::blk i (insO f num ahead 0 true (.slice ao k cp))::((ls.map fun L=>newPm L f).map pmR++ss))
theorem mk_more {i f:Nat} {num ahead:Int} {k g cap2:Nat} {ls:List Loc} {L:Loc} {ao:Option Addr} {cp:Nat} (hl:ls.length=k) (hlf: ∀L∈ls,L.f=f) (hf:L.f=f)
  (h:Own B w0 W (blk i (setIn 5 (.slice (some ⟨g,0,none⟩) (k+1) cap2) (insO f num ahead 0 true (.slice ao k cp)))::ownR 241 14 (.slice (some ⟨g,0,none⟩) (k+1) cap2) (k+1) ((ls.map fun L=>newPm L f).flatMap zal++zal (newPm L f))::slotR L (zbc f)::((ls.map fun L=>newPm L f).map pmR++ss))):MkI B w0 W i f num ahead (k+1) ss:=by
 refine ⟨ls++[L],some ⟨g,0,none⟩,cap2,by simp [hl],fun L' hL'=> ?_,?_⟩
 ·rcases List.mem_append.1 hL' with h | h
  ·exact hlf L' h
  ·simp at h;subst h;exact hf
 ·have h2:=h.rot
  have h3:Own B w0 W (slotR L (zbc f)::([ownR 241 14 (.slice (some ⟨g,0,none⟩) (k+1) cap2) (k+1) ((ls.map fun L=>newPm L f).flatMap zal++zal (newPm L f)),blk i (insO f num ahead 0 true (.slice (some ⟨g,0,none⟩) (k+1) cap2))]++((ls.map fun L=>newPm L f).map pmR++ss))):=h2.perm (List.Perm.cons _ (List.Perm.swap _ _ _));have h4:=Own.perm (ss:=([ownR 241 14 (.slice (some ⟨g,0,none⟩) (k+1) cap2) (k+1) ((ls.map fun L=>newPm L f).flatMap zal++zal (newPm L f)),blk i (insO f num ahead 0 true (.slice (some ⟨g,0,none⟩) (k+1) cap2))]++(ls.map fun L=>newPm L f).map pmR)++slotR L (zbc f)::ss) h3 (by
   rw [←List.append_assoc];exact List.perm_middle.symm)
  simp only [List.map_append,List.flatMap_append,List.map_cons,List.map_nil,List.flatMap_cons,List.flatMap_nil,List.append_nil,List.append_assoc,List.cons_append,List.nil_append] at h4⊢;exact h4
theorem mk_done {i f:Nat} {num ahead:Int} {ls:List Loc} {ao:Option Addr} {cp:Nat} (hf1:1≤f) (hf2:f≤4) (ha1:1≤ahead) (ha2:ahead≤16) (hl:ls.length=16) (hlf: ∀L∈ls,L.f=f)
  (h:Own B w0 W (ownR 241 14 (.slice ao 16 cp) 16 ((ls.map fun L=>newPm L f).flatMap zal)::blk i (insO f num ahead 0 true (.slice ao 16 cp))::((ls.map fun L=>newPm L f).map pmR++ss))): ∃x:Ins,x.i=i∧x.st=newI f num ahead∧Own B w0 W (instR x::ss):=by
 have hown:=zam h.head;rcases hown.2 with ⟨h1,h2⟩ | ⟨g,cap,cur,h1,hb,hg,q1,q2,q3,q4⟩
 ·omega
 ·simp only [Value.slice.injEq] at h1
  obtain ⟨rfl,-,rfl⟩:=h1;have h2:=h.alter (r':=segR g 241 ((ls.map fun L=>newPm L f).flatMap zal)) (zmg h.head) (fun k hk=>by simp [ownR,blkOf,segR] at hk⊢;exact hk);refine ⟨⟨i,g,cp,f,num,ahead,0,true,ls.map fun L=>newPm L f⟩,rfl,?_,zcp ?_⟩
  ·simp only [Ins.st,newI,In.mk.injEq,true_and,List.map_map]
   apply List.ext_getElem?;intro j;rw [List.getElem?_map,List.getElem?_replicate];by_cases hj:j<16
   ·rw [if_pos hj,List.getElem?_eq_getElem (by omega)];rfl
   ·rw [if_neg hj,List.getElem?_eq_none (by omega)];rfl
  ·have h3:Own B w0 W (zdj ⟨i,g,cp,f,num,ahead,0,true,ls.map fun L=>newPm L f⟩::segR g 241 ((ls.map fun L=>newPm L f).flatMap zal)::blk i (insO f num ahead 0 true (.slice (some ⟨g,0,none⟩) 16 cp))::((ls.map fun L=>newPm L f).map pmR++ss)):=h2.new (Upd.refl [] _) ⟨[],⟨⟨⟨by simp [hl],hf1,hf2,fun p hp=> ?_,q1,ha1,ha2,by simp⟩,fun p hp=> ?_⟩,by simp⟩,by simp,fun k hk=>h2.lt k hk⟩ (by simp [zdj,imm])
   ·exact h3.swap.rot
   ·simp only [List.mem_map] at hp
    obtain ⟨L,hL,rfl⟩:=hp;exact hlf L hL
   ·simp only [List.mem_map] at hp
    obtain ⟨L,hL,rfl⟩:=hp;exact ⟨⟨zat.nil _ _ _,by simp [newPm,noCt],zat.nil _ _ _,by simp [newPm,noCt]⟩,⟨zat.nil _ _ _,by simp [newPm,noCt],zat.nil _ _ _,by simp [newPm,noCt]⟩⟩
theorem ins_new (f:Nat) (num ahead:Int) (hf1:1≤f) (hf2:f≤4) (hn1:0≤num) (hn2:num≤f) (ha1:1≤ahead) (ha2:ahead≤16) (h:Own B w0 W ss):
  Calls Tryz.prog 82 #[.int .i64 f,.int .i64 num,.int .i64 ahead] W (NewP B w0 (newI f num ahead) ss):=by
 obtain ⟨i0,hi,hz0,hz1,hz2⟩:=info_parts Tryz.infoPl;have hb1:decide ((f:Int)<1)=false:=by simp;omega
 have hb2:decide (4<(f:Int))=false:=by simp;omega
 have hb3:decide (num<0)=false:=by simp;omega
 have hb4:decide ((f:Int)<num)=false:=by simp;omega
 have hb5:decide (ahead<1)=false:=by simp;omega
 have hb6:decide (16<ahead)=false:=by simp;omega
 have h0:MkI B w0 (W.alloc (insO f num ahead 0 true (.slice none 0 0))) W.heap.size f num ahead 0 ss:=⟨[],none,0,rfl,by simp,(h.box (insO f num ahead 0 true (.slice none 0 0))).row0⟩;have H0:=zq h0;clear h0 h;go_enter Tryz.func82,Tryz.ntmps82
 go_wp2_with fail
 go_loopw [39] (fun i wr=> ∃k:Nat,k≤16∧i= .int .i64 k∧Hid (MkI B w0 wr W.heap.size f num ahead k ss)) (fun i _=>16-(intOf i).toNat)
 case atStart=>exact ⟨0,by omega,rfl,H0⟩
 case round=>
  clear H0;obtain ⟨k,hk,rfl,HM⟩:=hrel;by_cases hlt:k<16
  ·have hkI:(k:Int)<16:=by omega
   obtain ⟨ls,ao,cp,hl,hlf,hown⟩:=HM.out;have HL:=zq hl;have HLF:=zq hlf;have HC:=zq (own_new f hf1 hf2 hown);clear hl hlf hown
   go_wp2_with fail
   refine HC.out.mono ?_;rintro e w2 ⟨L,rfl,hLf,-,h2⟩;have H2:=zq h2;have HF:=zq hLf;clear h2 hLf HC;have hbl:=H2.out.drop.drop.blk_out;have c5:w2.cell? ⟨W.heap.size,5,none⟩=some (.slice ao k cp):=by rw [zac hbl];rfl
   clear hbl;have HO:=zq (zam (H2.out.alloc (.cells (zal (newPm L f)).toArray 241)).drop.head)
   go_wp2_with (at_builtin;refine wpList_append_lies _ rfl (.tmp 50) (.tmp 53) 212 rfl 0 241 i0 (.agg #[.pointer none,.bool false,.bool false,.int .i64 0,.int .i64 0,.int .i64 0,.slice none 0 0,.slice none 0 0,.bool false,.int .i64 0,.int .i64 0,.int .i64 0,.slice none 0 0,.slice none 0 0]) 14 168 Tryz.underlying212 hi hz0 hz1 hz2 rfl (by decide) _ k _ rfl HO.out ⟨w2.heap.size,0,none⟩ 1 1 (zal (newPm L f)) rfl rfl ?c1 ?c2 (by decide) ?c3 ?c4 (Nat.zero_le _) _ rfl ?c6)
   case c1=>exact World.news_of_block (heap_alloc_new w2 _)
   case c2=>exact zva L f
   case c3=>unfold maxLen;omega
   case c4=>omega
   case c6=>
    intro g cap2 w3 hown hgrow hat hlt;have h3:=((H2.out.alloc (.cells (zal (newPm L f)).toArray 241)).swap.grow hgrow (by rw [zav];exact hat) hown);have H3:=zq h3;clear hown hgrow hat hlt h3 HO c5;have hbl:=H3.out.drop.drop.blk_out;have c5:w3.cell? ⟨W.heap.size,5,none⟩=some (.slice ao k cp):=by rw [zac hbl];rfl
    have fz:=zab hbl 5;clear hbl
    go_wp2_with fail
    have H4:=zq ((H3.out.rot.store 5 (.slice (some ⟨g,0,none⟩) (k+1) cap2)))
    go_roundw
    case rel=>exact ⟨k+1,by omega,by go_num,zq (mk_more HL.out HLF.out HF.out H4.out)⟩
    case measure=>simp [intOf];omega
  ·have hk16:k=16:=by omega
   subst hk16;obtain ⟨ls,ao,cp,hl,hlf,hown⟩:=HM.out;have HX:=zq (mk_done hf1 hf2 ha1 ha2 hl hlf hown);clear hl hlf hown
   go_wp2_with fail
   go_ret2
   obtain ⟨x,h1,h2,h3⟩:=HX.out;exact ⟨x,by simp [Ins.ptr,h1],h2,h3⟩
end
def AtI (B:Nat) (w0 w:World) (i:Nat) (st:In) (ss:List Res):Prop:= ∃x:Ins,x.i=i∧x.st=st∧Own B w0 w (instR x::ss)
section
variable {B:Nat} {w0 W W':World} {ss rs:List Res} {x:Ins} {i:Nat} {st:In}
theorem AtI.upd0 (h:AtI B w0 W i st ss) (hu:Upd [] W W'):AtI B w0 W' i st ss:=let ⟨x,h1,h2,h3⟩:=h;⟨x,h1,h2,h3.upd0 hu⟩
theorem AtI.alloc (h:AtI B w0 W i st ss) (o:Obj):AtI B w0 (W.alloc o) i st ss:=h.upd0 ((Upd.refl _ _).alloc o)
theorem AtI.drew (h:AtI B w0 W i st ss):AtI B w0 W.drew i st ss:=h.upd0 (Upd.refl _ _).drew
theorem AtI.below (h:AtI B w0 W i st ss):Below B w0 W:=let ⟨_,_,_,h3⟩:=h;h3.below
theorem AtI.ss_own (h:AtI B w0 W i st ss):Own B w0 W ss:=let ⟨_,_,_,h3⟩:=h;h3.drop
theorem ai_vote (h:AtI B w0 W i st ss) (kind seq node sl:Int) (v:Value) (l:List Rq) (hb:Bat W v l) (hn:l.length≤100000):
  Calls Tryz.prog 236 #[.pointer (some ⟨i,0,none⟩),.int .i64 kind,.int .i64 seq,.int .i64 node,.int .i64 sl,v] W fun e w'=>e= .returned (.bool (voteB st kind seq node))∧AtI B w0 w' i (voteI st kind seq node sl l) ss:=by
 obtain ⟨x,h1,rfl,h3⟩:=h;exact zy6 h3 h1 kind seq node sl v l hb hn
theorem ai_done (h:AtI B w0 W i st ss):Calls Tryz.prog 156 #[.pointer (some ⟨i,0,none⟩)] W fun e w'=>e= .returned (.int .i64 (doneI st))∧W=w':=by
 obtain ⟨x,h1,rfl,h3⟩:=h;exact zy4 h3 h1
theorem ai_next (h:AtI B w0 W i st ss):Calls Tryz.prog 154 #[.pointer (some ⟨i,0,none⟩)] W fun e w'=>e= .returned (.int .i64 (nextI st))∧Upd [] W w':=by
 obtain ⟨x,h1,rfl,h3⟩:=h;exact zy5 h3 h1
theorem zll (h:AtI B w0 W i st ss):Calls Tryz.prog 73 #[.pointer (some ⟨i,0,none⟩)] W fun e w'=>e= .returned (.bool st.on)∧W=w':=by
 obtain ⟨x,h1,rfl,h3⟩:=h;exact zkh h3 h1
theorem ztt (h:AtI B w0 W i st ss) (seq:Int):Calls Tryz.prog 220 #[.pointer (some ⟨i,0,none⟩),.int .i64 seq] W (zwv W (zbj st seq)):=by
 obtain ⟨x,h1,rfl,h3⟩:=h;exact zq9 h3 h1 seq
def Told (W w':World) (r:Option Cp) (c:Ct):Prop:=
 c.cp=r.getD noCp∧(c.rs.length≤100000∧c.vs.length≤100000)∧Bat w' c.vb c.rs∧Vts w' c.vv c.vs∧(∀k∈blkOf c.vb,W.heap.size≤k)∧ ∀k∈blkOf c.vv,W.heap.size≤k
end
theorem upd_upd (st:In) (k:Nat) (f g:Pl→Pl):(st.upd k f).upd k g=st.upd k (fun p=>g (f p)):=by
 simp only [In.upd,In.mk.injEq,true_and];apply List.ext_getElem?;intro j;simp only [List.getElem?_modify];by_cases e:k=j
 ·subst e
  cases st.l[k]?<;>simp
 ·simp [e]
def cs3 (b:List Rq) (n:Nat):List Vt:=(List.range 4).map fun i=>if i<n then ⟨true,1,b⟩ else noVt
def vPl (k n:Nat):Pl:= {zbg 1 with sl:= {zbc 1 with cs:=cs3 [rq 0 k] n}}
def gCp (k:Nat):Cp:=⟨0,0,k,[rq 0 k],[(0,1),(1,1),(2,1)]⟩
def gPl (k:Nat):Pl:= {vPl k 3 with done:=true,dw:=gCp k}
def gp (h:Nat→Bool):In:=⟨1,0,1,0,true,(List.range 16).map fun j=>if h (j+1) then gPl (j+1) else zbg 1⟩
def vk (h:Nat→Bool) (k n:Nat):In:=(gp h).upd (k-1) fun p=>if h k then p else vPl k n
def Only (h:Nat→Bool):Prop:= ∀j,h j=true→1≤j∧j≤16
section
variable {B:Nat} {w0 W W':World} {ss rs:List Res} {x:Ins}
theorem oi_put {k r:Nat} {v:Value} {p:Pm} (h:OwnI B w0 W x ss) (hk:k<x.l.length) (hl:p.lc=x.l[k].lc) (hs:p.sl=x.l[k].sl) (hc:p.ct=x.l[k].ct∧p.dw=x.l[k].dw) (hr:r<14) (hcells:zal p=(zal x.l[k]).set r v):
  OwnI B w0 (W.setCell ⟨x.b,k*14+r,none⟩ v) (x.sl k p) ss:=by
 have h1:Own B w0 (W.setCell ⟨x.b,k*14+r,none⟩ v) (segR x.b 241 ((x.l.flatMap zal).set (k*14+r) v)::blk x.i x.o::zdj x::(x.l.map pmR++ss)):=Own.put (Own.swap h) (k*14+r) v;rw [zfv (cells:=zal) (sz:=14) (fun _=>rfl) x.l k r x.l[k] p v (by simp) hr hcells] at h1;have h2:Own B w0 (W.setCell ⟨x.b,k*14+r,none⟩ v) (zdj x::segR x.b 241 ((x.l.set k p).flatMap zal)::blk x.i x.o::(x.l.map pmR++ss)):=h1.rot;have h3:=h2.alter (r':=zdj (x.sl k p)) (by
  obtain ⟨D,⟨⟨q1,q2⟩,q3⟩,q4,q5⟩:=h2.head;refine ⟨D,⟨⟨⟨by simpa using q1.n,q1.f1,q1.f2,fun p' hp'=> ?_,q1.c1,q1.a1,q1.a2,q1.vw⟩,fun p' hp'=> ?_⟩,q3⟩,q4,q5⟩
  ·rcases List.mem_or_eq_of_mem_set hp' with hp' | rfl
   ·exact q1.lf p' hp'
   ·rw [hl];exact q1.lf _ (by simp)
  ·rcases List.mem_or_eq_of_mem_set hp' with hp' | rfl
   ·exact q2 p' hp'
   ·rw [hc.1,hc.2];exact q2 _ (by simp)) (by simp [zdj,imm])
 have hmap:(x.l.set k p).map pmR=x.l.map pmR:=by
  rw [List.map_set,show pmR p=pmR x.l[k] by simp [pmR,hl,hs]];conv=>lhs;arg 3;rw [←List.getElem_map (f:=pmR) (h:=by simpa using hk)]
  exact List.set_getElem_self _
 show Own B w0 _ (insHd (x.sl k p)++((x.l.set k p).map pmR++ss));rw [hmap];exact h3.swap.rot
theorem oi_hd {view:Int} {on:Bool} (h:Own B w0 W (blk x.i (insO x.f x.num x.ahead view on (.slice (some ⟨x.b,0,none⟩) 16 x.cap))::segR x.b 241 (x.l.flatMap zal)::zdj x::(x.l.map pmR++ss))) (hv:0≤view∧view≤12):
  OwnI B w0 W {x with view:=view,on:=on} ss:=by
 have h2:=h.rot;have h3:=h2.alter (r':=zdj {x with view:=view,on:=on}) (by
  obtain ⟨D,⟨⟨q1,q2⟩,q3⟩,q4,q5⟩:=h2.head;exact ⟨D,⟨⟨⟨q1.n,q1.f1,q1.f2,q1.lf,q1.c1,q1.a1,q1.a2,hv⟩,q2⟩,q3⟩,q4,q5⟩) (by simp [zdj,imm])
 exact h3.rot'
def clr (f:Nat) (p:Pl):Pl:= {p with sl:=zbc f,told:=false}
def lvI (st:In) (v:Int) (k:Nat):In:= {st with view:=v,on:=false,l:=(st.l.take k).map (clr st.f)++st.l.drop k}
theorem lv_step (st:In) (v:Int) (k:Nat) (hk:k<st.l.length):(lvI st v k).upd k (clr st.f)=lvI st v (k+1):=by
 simp only [In.upd,lvI,In.mk.injEq,true_and];apply List.ext_getElem?;intro j;have hlen:((st.l.take k).map (clr st.f)).length=k:=by simp;omega
 have hlen2:((st.l.take (k+1)).map (clr st.f)).length=k+1:=by simp;omega
 rw [List.getElem?_modify];by_cases h1:j<k
 ·rw [List.getElem?_append_left (by omega),List.getElem?_append_left (by omega)]
  simp only [if_neg (show¬k=j by omega),List.getElem?_map,List.getElem?_take_of_lt h1,List.getElem?_take_of_lt (show j<k+1 by omega)];cases st.l[j]?<;>rfl
 ·by_cases h2:j=k
  ·subst h2
   rw [List.getElem?_append_right (by omega),List.getElem?_append_left (by omega),hlen];simp [List.getElem?_eq_getElem hk]
  ·rw [List.getElem?_append_right (by omega),List.getElem?_append_right (by omega),hlen,hlen2]
   simp only [if_neg (show¬k=j by omega),List.getElem?_drop];rw [show k+(j-k)=j by omega,show k+1+(j-(k+1))=j by omega];cases st.l[j]?<;>rfl
theorem lv_zero (st:In) (v:Int):lvI st v 0= {st with view:=v,on:=false}:=by simp [lvI]
theorem lvI_all (st:In) (v:Int) (h:zh3 st v=true):lvI st v st.l.length=zev st v:=by
 unfold zev;rw [if_pos h];simp [lvI,clr]
theorem zyc {i:Nat} {st:In} (h:AtI B w0 W i st ss) (v:Int):Calls Tryz.prog 225 #[.pointer (some ⟨i,0,none⟩),.int .i64 v] W fun e w'=>e= .returned (.bool (zh3 st v))∧AtI B w0 w' i (zev st v) ss:=by
 obtain ⟨x,h1,hst,h3⟩:=h;have ho:=zcg h3;obtain ⟨-,-,-,c3,c4,c5,l1,l2⟩:=zcd ho;obtain ⟨-,fz⟩:=oi_fz ho;have hvw:x.view=st.view:=by rw [←hst];rfl
 have z3:=fz 3;have z4:=fz 4;have hn:=(oi_ok ho).n;have hvw2:=(oi_ok ho).vw;rw [h1] at c3 c4 c5 l1 z3 z4;by_cases hle:v≤x.view
 ·have HE:=zq (show zh3 st v=false by simp [zh3];omega)
  have H:=zq (show AtI B w0 W i st ss from ⟨x,h1,hst,h3⟩);clear h3 ho fz z3 z4 c4 c5 hvw hn hst;go_enter Tryz.func225,Tryz.ntmps225
  go_wp2_with fail
  go_ret
  rw [HE.out,zev,if_neg (by rw [HE.out];simp)];exact ⟨rfl,H.out⟩
 ·have hleb:decide (v≤x.view)=false:=by simp;omega
  by_cases h12:12<v
  ·have HE:=zq (show zh3 st v=false by simp [zh3];omega)
   have H:=zq (show AtI B w0 W i st ss from ⟨x,h1,hst,h3⟩);clear h3 ho fz z3 z4 c4 c5 hvw hn hst;go_enter Tryz.func225,Tryz.ntmps225
   go_wp2_with fail
   go_ret
   rw [HE.out,zev,if_neg (by rw [HE.out];simp)];exact ⟨rfl,H.out⟩
  ·have h12b:decide (12<v)=false:=by simp;omega
   have HE:=zq (show zh3 st v=true by simp [zh3];omega);have hstn:st.l.length=16:=by rw [←hst];simp [Ins.st,hn]
   have HLA:=zq (by have:=lvI_all st v HE.out;rwa [hstn] at this);have HLS:=zq (fun k hk=>lv_step st v k (by rw [hstn];exact hk));have hz:=oi_hd (x:=x) (view:=v) (on:=false) ((Own.store ho 3 (.int .i64 v)).store 4 (.bool false)) (by omega);have H1:Hid (AtI B w0 ((W.setCell ⟨i,3,none⟩ (.int .i64 v)).setCell ⟨i,4,none⟩ (.bool false)) i (lvI st v 0) ss):=zq (by
    rw [lv_zero];refine ⟨{x with view:=v,on:=false},h1,?_,?_⟩
    ·rw [←hst];rfl
    ·rw [←h1];exact zcp hz)
   clear hz h3 ho fz hvw hst hvw2 hn hstn h1;go_enter Tryz.func225,Tryz.ntmps225
   go_wp2_with fail
   generalize (W.setCell ⟨i,3,none⟩ (.int .i64 v)).setCell ⟨i,4,none⟩ (.bool false)=w1 at*;clear c3 c4 c5 z3 z4 hleb h12b l1 l2 hle h12
   go_loopw [28] (fun n wr=> ∃k:Nat,k≤16∧n= .int .i64 k∧Hid (AtI B w0 wr i (lvI st v k) ss)) (fun n _=>16-(intOf n).toNat)
   case atStart=>exact ⟨0,by omega,rfl,H1⟩
   case round=>
    clear H1;obtain ⟨k,hk,rfl,HK⟩:=hrel;by_cases hlt:k<16
    ·have hkI:(k:Int)<16:=by omega
     obtain ⟨y,hy1,hy2,hy3⟩:=HK.out;have hoy:=zcg hy3;obtain ⟨-,-,-,-,-,c5,-,-⟩:=zcd hoy;rw [hy1] at c5;have hl:k<y.l.length:=by rw [(oi_ok hoy).n];exact hlt
     have cp:=zkm hoy k hl;have hlf:y.l[k].lc.f=st.f:=by rw [(oi_ok hoy).lf _ (by simp)];exact congrArg In.f hy2
     have HLF:=zq hlf;have HC:=zq (zvo (zex hoy k hl));have HY1:=zq hy1;have HY2:=zq hy2;clear hoy hy3 hy1 hy2 hlf
     go_wp2_with fail
     refine HC.out.mono ?_;rintro e w2 ⟨L',rfl,hf,hs,-,h2⟩;have h4:=zjd k hl {y.l[k] with lc:=L',sl:=zbc y.l[k].lc.f} h2 (by simp [zal,hs]) ⟨rfl,rfl⟩ hf;have H4:=zq h4;have hl4:k<(y.sl k {y.l[k] with lc:=L',sl:=zbc y.l[k].lc.f}).l.length:=by simpa using hl
     have ht:=zxm h4 k hl4;obtain ⟨-,-,-,-,-,c5',-,-⟩:=zcd h4;have fz:=(oi_fz h4).1 (k*14+1);have c5':w2.cell? ⟨i,5,none⟩=some (.slice (some ⟨y.b,0,none⟩) 16 y.cap):=by rw [←HY1.out];exact c5'
     clear h2 h4 hf hs HC cp c5
     go_wp2_with fail
     have h5:=oi_put (r:=1) (v:= .bool false) (p:= {(y.sl k {y.l[k] with lc:=L',sl:=zbc y.l[k].lc.f}).l[k] with told:=false}) H4.out hl4 rfl rfl ⟨rfl,rfl⟩ (by omega) rfl;have H5:Hid (AtI B w0 (w2.setCell ⟨y.b,k*14+1,none⟩ (.bool false)) i (lvI st v (k+1)) ss):=zq ⟨(y.sl k {y.l[k] with lc:=L',sl:=zbc y.l[k].lc.f}).sl k {(y.sl k {y.l[k] with lc:=L',sl:=zbc y.l[k].lc.f}).l[k] with told:=false},HY1.out,by
      rw [zpv _ k hl4 _ (fun p=> {p with told:=false}) rfl,zpv y k hl _ (fun p=> {p with sl:=zbc y.l[k].lc.f}) rfl,upd_upd,HY2.out,HLF.out];exact HLS.out k hlt,zcp h5⟩
     clear h5 ht fz c5'
     go_roundw
     case rel=>exact ⟨k+1,by omega,by go_num,H5⟩
     case measure=>simp [intOf];omega
    ·have hk16:k=16:=by omega
     subst hk16
     go_wp2_with fail
     go_ret
     rw [HE.out,←HLA.out];exact ⟨rfl,HK.out⟩
end
abbrev rqBox (r:Rq):Obj:= .cells #[.int .i64 r.client,.int .i64 r.time,.int .i64 r.kind,.int .i64 r.key,.int .i64 r.val,.int .i64 r.sl] 38 (0,0)
section
variable {B:Nat} {w0 W W':World} {ss rs:List Res}
theorem oi_row {x:Ins} (h:OwnI B w0 W x ss) (k:Nat) (hk:k<x.l.length):W.cell? ⟨x.b,k*14,none⟩=some x.l[k].lc.ptr∧W.cell? ⟨x.b,k*14+1,none⟩=some (.bool x.l[k].told)∧W.cell? ⟨x.b,k*14+2,none⟩=some (.bool x.l[k].has)∧
  W.cell? ⟨x.b,k*14+3,none⟩=some (.int .i64 x.l[k].ct.view)∧W.cell? ⟨x.b,k*14+4,none⟩=some (.int .i64 x.l[k].ct.inst)∧W.cell? ⟨x.b,k*14+5,none⟩=some (.int .i64 x.l[k].ct.seq)∧W.cell? ⟨x.b,k*14+6,none⟩=some x.l[k].ct.vb∧W.cell? ⟨x.b,k*14+7,none⟩=some x.l[k].ct.vv∧
  W.cell? ⟨x.b,k*14+8,none⟩=some (.bool x.l[k].done)∧W.cell? ⟨x.b,k*14+9,none⟩=some (.int .i64 x.l[k].dw.view)∧W.cell? ⟨x.b,k*14+10,none⟩=some (.int .i64 x.l[k].dw.inst)∧W.cell? ⟨x.b,k*14+11,none⟩=some (.int .i64 x.l[k].dw.seq)∧W.cell? ⟨x.b,k*14+12,none⟩=some x.l[k].dw.vb∧W.cell? ⟨x.b,k*14+13,none⟩=some x.l[k].dw.vv:=
 ⟨oi_at h k hk 0 (by omega),oi_at h k hk 1 (by omega),oi_at h k hk 2 (by omega),oi_at h k hk 3 (by omega),oi_at h k hk 4 (by omega),oi_at h k hk 5 (by omega),oi_at h k hk 6 (by omega),oi_at h k hk 7 (by omega),oi_at h k hk 8 (by omega),oi_at h k hk 9 (by omega),oi_at h k hk 10 (by omega),oi_at h k hk 11 (by omega),oi_at h k hk 12 (by omega),oi_at h k hk 13 (by omega)⟩
theorem zyq {x:Ins} (h:OwnI B w0 W x ss) (k:Nat) (hk:k<x.l.length): ∃a1 c1 a2 c2 a3 c3 a4 c4,x.l[k].ct.vb= .slice a1 x.l[k].ct.rs.length c1∧x.l[k].ct.vv= .slice a2 x.l[k].ct.vs.length c2∧x.l[k].dw.vb= .slice a3 x.l[k].dw.rs.length c3∧x.l[k].dw.vv= .slice a4 x.l[k].dw.vs.length c4:=by
 obtain ⟨⟨h1,h2,_⟩,h3,h4,_⟩:=zny h k hk;obtain ⟨a1,c1,e1⟩:=zca h1;obtain ⟨a2,c2,e2⟩:=zd2 h2;obtain ⟨a3,c3,e3⟩:=zca h3;obtain ⟨a4,c4,e4⟩:=zd2 h4;exact ⟨a1,c1,a2,c2,a3,c3,a4,c4,e1,e2,e3,e4⟩
end
section
variable {B:Nat} {w0 W W':World} {ss rs:List Res} {x:Ins}
theorem zjm {seq:Int} {st:In} (h:prepI st seq=none):zbi st seq=st:=by
 unfold zbi;rw [h];cases idx seq<;>rfl
theorem zvw {f:Nat} {st:Sl} {vs:Vs} (h:zbo f st=some vs):st.has=true∧zfb st=st.batch∧vs.length≤2*f+1:=by
 unfold zbo at h;split at h
 ·rename_i hh
  exact ⟨hh,by unfold zfb;rw [if_pos hh],zqt h⟩
 ·cases h
theorem zl3 (h:Own B w0 W (instR x::ss)) {i:Nat} (hi:x.i=i) (seq:Int):Calls Tryz.prog 255 #[.pointer (some ⟨i,0,none⟩),.int .i64 seq] W (CertP B w0 W i (prepI x.st seq) (zbi x.st seq) ss):=by
 subst hi;have hz:=zcg (h.box zct).swap;obtain ⟨-,-,-,-,c4,c5,l1,l2⟩:=zcd hz;cases hk:idx seq with
 | none=>
  have hs:=zi7 hk;have HE:=zq (show prepI x.st seq=none by simp [prepI,zgn hk]);have HA:=zq (at_no x.i x.b x.cap seq _ hs c5);have H:=zq h;clear hz h hk hs c5 c4;go_enter Tryz.func255,Tryz.ntmps255
  go_wp2_with fail
  refine HA.out.mono ?_;rintro e w' ⟨rfl,rfl⟩
  go_wp2_with fail
  exact bodyPost_ret (v:= .tuple #[ctAgg noCt,.bool false]) (by simp [results,Tryz.results255,go_sem,noCt]) rfl (zdb (H.out.upd0 ((Upd.refl _ _).alloc _)) HE.out (zjm HE.out))
 | some k=>
  obtain ⟨hl,hp⟩:=zgo (oi_ok hz) hk;obtain ⟨i1,i2⟩:=zo8 hk;have HA:=zq (ztv x.i x.b x.cap seq _ (by omega) (by omega) c5);have hks:seq.toNat-1=k:=by omega
  rw [hks] at HA;have cp:=zkm hz k hl;have cd:=zxm hz k hl;have HLF:=zq ((oi_ok hz).lf _ (List.getElem_mem hl));have HF4:=zq (oi_ok hz).f2;cases hon:x.on
  ·rw [hon] at c4
   have HE:=zq (show prepI x.st seq=none by simp only [prepI,hp];simp [Ins.st,hon]);have H:=zq h;clear hz h hk hp i2 hks hon c5 cp cd;go_enter Tryz.func255,Tryz.ntmps255
   go_wp2_with fail
   refine HA.out.mono ?_;rintro e w' ⟨rfl,rfl⟩
   go_wp2_with fail
   exact bodyPost_ret (v:= .tuple #[ctAgg noCt,.bool false]) (by simp [results,Tryz.results255,go_sem,noCt]) rfl (zdb (H.out.upd0 ((Upd.refl _ _).alloc _)) HE.out (zjm HE.out))
  rw [hon] at c4;cases hd:x.l[k].told
  ·rw [hd] at cd
   have HC:=zq (zmi (zex hz k hl));have HSM:=zq (zn3 (zex hz k hl)).1;have HCI:=zq (show prepI x.st seq=(zbo x.f x.l[k].sl).map fun vs=>⟨x.view,x.num,seq,x.l[k].sl.batch,vs⟩ by simp only [prepI,hp];simp [Pm.pl,Ins.st,hd,hon]);have HZ:=zq hz;have H:=zq h;have HK:=zq hk;clear hz h hk hp i2 hks hd hon;go_enter Tryz.func255,Tryz.ntmps255
   go_wp2_with fail
   refine HA.out.mono ?_;rintro e w' ⟨rfl,rfl⟩
   go_wp2_with fail
   refine HC.out.mono ?_;rintro e w2 ⟨u,rfl,hu,hv,n2⟩;rw [HLF.out] at hv⊢;cases hcm:zbo x.f x.l[k].sl with
   | none=>
    rw [hcm] at HCI hv;obtain ⟨co,cav,rfl⟩:=zd2 hv;have H3:=zq ((zcp HZ.out).upd0 hu);have fz:=fun o=>zab H3.out.drop.blk_out o;have hbx:=H3.out.drop.blk_out;have HBX:=zq hbx;obtain ⟨f0,f1,f2,f3,f4,fl,-⟩:=zbd hbx;have fz0:=fz 0;have fz1:=fz 1;have fz2:=fz 2;have fz3:=fz 3;have fz4:=fz 4;clear hbx fz hcm hu hv n2 HA HC cp cd c4 c5
    go_wp2_with fail
    have H4:=zq (zn4 H3.out.swap 0 0 0 (.slice none 0 0) (.slice none 0 0));generalize ((((w2.setCell ⟨W.heap.size,0,none⟩ (.int .i64 0)).setCell ⟨W.heap.size,1,none⟩ (.int .i64 0)).setCell ⟨W.heap.size,2,none⟩ (.int .i64 0)).setCell ⟨W.heap.size,3,none⟩ (.slice none 0 0)).setCell ⟨W.heap.size,4,none⟩ (.slice none 0 0)=w4 at*;clear f0 f1 f2 f3 f4 fl fz0 fz1 fz2 fz3 fz4 HBX;obtain ⟨f0,f1,f2,f3,f4,fl,-⟩:=zbd H4.out.blk_out;exact bodyPost_ret (v:= .tuple #[ctAgg noCt,.bool false]) (by simp [results,Tryz.results255,go_sem,noCt,f0,f1,f2,f3,f4]) rfl (zdb H4.out.drop HCI.out (zjm HCI.out))
   | some vs=>
    rw [hcm] at HCI hv;obtain ⟨s1,s2,s3⟩:=zvw hcm;have HS2:=zq s2;have hnv:vs.length≤100000:=by have:=HF4.out;omega
    obtain ⟨co,cav,rfl⟩:=zd2 hv;have hz2:=Own.upd0 HZ.out hu;have cp2:=zkm hz2 k hl;have HC2:=zq (zhd (zex hz2 k hl));have HU:=zq hu;have HV:=zq (show Vts w2 (.slice co vs.length cav) vs from hv);have N2:=zq n2;clear hcm hu hv n2 HA HC cp cd c4 c5 s1 s2 s3 hz2
    go_wp2_with fail
    refine HC2.out.mono ?_;rintro e w2b ⟨ub,rfl,hub,hbb,n1⟩;rw [HS2.out] at hbb;obtain ⟨ao,cap,rfl⟩:=zca hbb;have hsz2:=HU.out.size;have H2:=zq (zhe HZ.out (HU.out.trans hub) hbb (Reads.upd HV.out hub (by simp)) (fun k hk=>Nat.le_trans hsz2 (n1 k hk)) N2.out);have hnb:=HSM.out;have HB2:=zq (zvd H2.out.drop.drop);clear hub hbb n1 HC2 cp2 hsz2 HU HV N2
    go_wp2_with fail
    refine (zqd x.i x.f x.num x.ahead x.view x.on _ seq ao _ cap co _ cav _ HB2.out).mono ?_;rintro e w3 ⟨rfl,hu3⟩;have H3:=zq (H2.out.upd0 hu3);clear hu3 H2 HB2;have ho3:=H3.out.drop.drop;have c1:=oi_at ho3 k hl 1 (by omega);have c2:=oi_at ho3 k hl 2 (by omega);have c3:=oi_at ho3 k hl 3 (by omega);have c4:=oi_at ho3 k hl 4 (by omega);have c5:=oi_at ho3 k hl 5 (by omega);have c6:=oi_at ho3 k hl 6 (by omega);have c7:=oi_at ho3 k hl 7 (by omega);obtain ⟨fzb,-⟩:=oi_fz ho3;have z1:=fzb (k*14+1);have z2:=fzb (k*14+2);have z3:=fzb (k*14+3);have z4:=fzb (k*14+4);have z5:=fzb (k*14+5);have z6:=fzb (k*14+6);have z7:=fzb (k*14+7);clear ho3 fzb;simp only [zal,List.getElem?_cons_succ,List.getElem?_cons_zero] at c1 c2 c3 c4 c5 c6 c7
    go_wp2_with fail
    have H4:=zq (oi_ct H3.out k hl x.view x.num seq hnb hnv);generalize ((((((w3.setCell ⟨x.b,k*14+1,none⟩ (.bool true)).setCell ⟨x.b,k*14+2,none⟩ (.bool true)).setCell ⟨x.b,k*14+3,none⟩ (.int .i64 x.view)).setCell ⟨x.b,k*14+3+1,none⟩ (.int .i64 x.num)).setCell ⟨x.b,k*14+3+2,none⟩ (.int .i64 seq)).setCell ⟨x.b,k*14+3+3,none⟩ (.slice ao x.l[k].sl.batch.length cap)).setCell ⟨x.b,k*14+3+4,none⟩ (.slice co vs.length cav)=w4 at*;clear c1 c2 c3 c4 c5 c6 c7 z1 z2 z3 z4 z5 z6 z7 H3;have hq:=(zny H4.out k (by simpa using hl)).1;simp only [List.getElem_set_self] at hq;obtain ⟨q1,q2,q3,q4⟩:=hq;have HF:=zq (zl0 ⟨x.view,x.num,seq,.slice ao x.l[k].sl.batch.length cap,.slice co vs.length cav,x.l[k].sl.batch,vs⟩ w4 q1 q3 q2 q4);clear q1 q2 q3 q4;have H4L:=zq (show W.heap.size<w4.heap.size from block_lt (zcp H4.out).drop.blk_out);refine HF.out.mono ?_;rintro e w5 ⟨⟨view',inst',seq',vb',vv',rs',vs'⟩,rfl,hcp,hu5,hb5,hv5,nb,nv⟩;simp only at hb5 hv5 nb nv;obtain ⟨ao6,cap6,rfl⟩:=zca hb5;obtain ⟨co6,cav6,rfl⟩:=zd2 hv5;have H5:=zq ((zhe (zcp H4.out).swap hu5 hb5 hv5 nb nv).rot);have HCP:=zq hcp;have HB5:=zq hb5;have HV5:=zq hv5;have NB:=zq nb;have NV:=zq nv;clear hcp hu5 hb5 hv5 nb nv H4 HF;obtain ⟨f0,f1,f2,f3,f4,fl,fz⟩:=zbd H5.out.blk_out;have fz0:=fz 0;have fz1:=fz 1;have fz2:=fz 2;have fz3:=fz 3;have fz4:=fz 4;clear fz
    go_wp2_with fail
    have H6:=zq (zn4 H5.out view' inst' seq' (.slice ao6 rs'.length cap6) (.slice co6 vs'.length cav6));have HU6:=zq (zx9 w5 W.heap.size view' inst' seq' (.slice ao6 rs'.length cap6) (.slice co6 vs'.length cav6));generalize ((((w5.setCell ⟨W.heap.size,0,none⟩ (.int .i64 view')).setCell ⟨W.heap.size,1,none⟩ (.int .i64 inst')).setCell ⟨W.heap.size,2,none⟩ (.int .i64 seq')).setCell ⟨W.heap.size,3,none⟩ (.slice ao6 rs'.length cap6)).setCell ⟨W.heap.size,4,none⟩ (.slice co6 vs'.length cav6)=w6 at*;clear f0 f1 f2 f3 f4 fl fz0 fz1 fz2 fz3 fz4 H5;obtain ⟨f0,f1,f2,f3,f4,fl,-⟩:=zbd H6.out.blk_out;refine bodyPost_ret (v:= .tuple #[ctAgg ⟨view',inst',seq',.slice ao6 rs'.length cap6,.slice co6 vs'.length cav6,rs',vs'⟩,.bool true]) (by simp [results,Tryz.results255,go_sem,f0,f1,f2,f3,f4]) rfl ?_;have hcp:=HCP.out;simp only [Ct.cp,Cp.mk.injEq] at hcp;obtain ⟨e1,e2,e3,e4,e5⟩:=hcp;have hnew: ∀(v:Value),(∀k∈blkOf v,w4.heap.size≤k)→(∀k∈blkOf v,W.heap.size≤k)∧ ∀k∈blkOf v,k∉[W.heap.size]:=fun v hv=>⟨fun k hk=>by have:=hv k hk;have:=H4L.out;omega,fun k hk hn=>by have:=hv k hk;have:=H4L.out;simp at hn;omega⟩;refine ⟨⟨view',inst',seq',.slice ao6 rs'.length cap6,.slice co6 vs'.length cav6,rs',vs'⟩,?_,?_,⟨by simp only [e4];exact hnb,by simp only [e5];exact hnv⟩,HB5.out.upd HU6.out (hnew _ NB.out).2,Reads.upd HV5.out HU6.out (hnew _ NV.out).2,(hnew _ NB.out).1,(hnew _ NV.out).1,
     x.sl k {x.l[k] with told:=true,has:=true,ct:=⟨x.view,x.num,seq,.slice ao x.l[k].sl.batch.length cap,.slice co vs.length cav,x.l[k].sl.batch,vs⟩},rfl,?_,H6.out.drop⟩
    ·rw [HCI.out];rfl
    ·rw [HCI.out]
     simp only [Ct.cp,Option.map_some,Option.getD_some,Cp.mk.injEq];exact ⟨e1,e2,e3,e4,e5⟩
    ·rw [show zbi x.st seq=x.st.upd k fun p=> {p with told:=true,has:=true,ct:=⟨x.view,x.num,seq,x.l[k].sl.batch,vs⟩} by simp [zbi,HK.out,HCI.out]]
     exact zpv x k hl _ _ rfl
  ·rw [hd] at cd
   have HE:=zq (show prepI x.st seq=none by simp only [prepI,hp];simp [Pm.pl,hd]);have H:=zq h;clear hz h hk hp i2 hks hd hon c5 cp;go_enter Tryz.func255,Tryz.ntmps255
   go_wp2_with fail
   refine HA.out.mono ?_;rintro e w' ⟨rfl,rfl⟩
   go_wp2_with fail
   exact bodyPost_ret (v:= .tuple #[ctAgg noCt,.bool false]) (by simp [results,Tryz.results255,go_sem,noCt]) rfl (zdb (H.out.upd0 ((Upd.refl _ _).alloc _)) HE.out (zjm HE.out))
theorem zlm {i:Nat} {st:In} (h:AtI B w0 W i st ss) (seq:Int):Calls Tryz.prog 255 #[.pointer (some ⟨i,0,none⟩),.int .i64 seq] W fun e w'=> ∃c:Ct,e= .returned (.tuple #[ctAgg c,.bool (prepI st seq).isSome])∧Told W w' (prepI st seq) c∧
  AtI B w0 w' i (zbi st seq) (redR c.vv 2 c.vs.length (zaf c.vs)::redR c.vb 6 c.rs.length (zak c.rs)::ss):=by
 obtain ⟨x,h1,rfl,h3⟩:=h;refine (zl3 h3 h1 seq).mono ?_;rintro e w' ⟨c,he,hc,hn,hb,hv,n1,n2,x',e1,e2,e3⟩;exact ⟨c,he,⟨hc,hn,hb,hv,n1,n2⟩,x',e1,e2,e3.rot⟩
theorem zop {i:Nat} {st:In} (h:AtI B w0 W i st ss) (seq:Int):Calls Tryz.prog 256 #[.pointer (some ⟨i,0,none⟩),.int .i64 seq] W fun e w'=> ∃c:Ct,e= .returned (.tuple #[ctAgg c,.bool (commI st seq).isSome])∧Told W w' (commI st seq) c∧
  AtI B w0 w' i (zbk st seq) (redR c.vv 2 c.vs.length (zaf c.vs)::redR c.vb 6 c.rs.length (zak c.rs)::ss):=by
 obtain ⟨x,h1,rfl,h3⟩:=h;refine (zo9 h3 h1 seq).mono ?_;rintro e w' ⟨c,he,hc,hn,hb,hv,n1,n2,x',e1,e2,e3⟩;exact ⟨c,he,⟨hc,hn,hb,hv,n1,n2⟩,x',e1,e2,e3.rot⟩
end
end Go.Proofs.YtannckelmojkoaaGreat
