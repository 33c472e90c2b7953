/- Parts of the proof, one behind the other. -/
import Derived.Test.YtannckelmojkoaaGreatPrpB5
import Derived.Deep.AppendLies
set_option maxHeartbeats 32000000
set_option maxRecDepth 100000
set_option linter.unusedVariables false
set_option linter.unusedSimpArgs false
namespace Go.Proofs.YtannckelmojkoaaGreat
open Go.RowKit Go.Heap
section
variable {B:Nat} {w0 W W':World} {ss rs:List Res} {x:Ins}
abbrev zct:Obj:=ctO 0 0 0 (.slice none 0 0) (.slice none 0 0)
theorem zix {v u:Value} {l:List Rq} {vs:Vs} (h:Own B w0 W rs) (hu:Upd [] W W') (hb:Bat W' v l) (hv:Vts W' u vs) (n1: ∀k∈blkOf v,W.heap.size≤k) (n2: ∀k∈blkOf u,W.heap.size≤k):
  Own B w0 W' (redR u 2 vs.length (zan vs)::redR v 6 l.length (zal l)::rs):=by
 have h1:=(h.upd0 hu).red hb (fun k hk=>h.fresh (n1 k (zdr hk)));refine h1.red hv (fun k hk hn=> ?_);rcases (zcv _ _ _).1 hn with hn | hn
 ·simp [redR,imm] at hn
 ·exact h.fresh (n2 k (zdr hk)) hn
theorem zh1 (h:OwnI B w0 W x ss) (k:Nat) (hk:k<x.l.length):(Bat W x.l[k].ct.vb x.l[k].ct.rs∧Vts W x.l[k].ct.vv x.l[k].ct.vs∧x.l[k].ct.rs.length≤100000∧x.l[k].ct.vs.length≤100000)∧
  Bat W x.l[k].dw.vb x.l[k].dw.rs∧Vts W x.l[k].dw.vv x.l[k].dw.vs∧x.l[k].dw.rs.length≤100000∧x.l[k].dw.vs.length≤100000:=by
 obtain ⟨D,⟨⟨_,h2⟩,_⟩,_,_⟩:=(h.all (zez x) (by simp [insHd])).1;obtain ⟨q1,q2⟩:=h2 x.l[k] (by simp);exact ⟨⟨q1.b.1,q1.v.1,q1.bn,q1.vn⟩,q2.b.1,q2.v.1,q2.bn,q2.vn⟩
theorem zp6 {all:List Vt} {q n:Nat}: ∀l:List Vt,(∀t∈l,t.batch.length≤n)→(zdy (zay all q l)).length≤n
 | [],_=>by simp [zay,zdy]
 | t::r,h=>by
  have ih:=zp6 (all:=all) (q:=q) r (fun t ht=>h t (List.mem_cons_of_mem _ ht));unfold zay;cases t.has
  ·exact ih
  ·cases zby all t.batch q with
   | none=>exact ih
   | some vs=>exact h t (by simp)
theorem zqh {all:List Vt} {b:List Rq} {q:Nat} {vs:Vs} (h:zby all b q=some vs):vs.length≤q:=by
 unfold zby at h;split at h
 ·cases h
 ·simp only [Option.some.injEq] at h
  subst h;rw [List.length_take];omega
theorem zp7 {all:List Vt} {q:Nat}: ∀l:List Vt,(zei (zay all q l)).length≤q
 | []=>by simp [zay,zei]
 | t::r=>by
  have ih:=zp7 (all:=all) (q:=q) r;unfold zay;cases t.has
  ·exact ih
  ·cases he:zby all t.batch q with
   | none=>exact ih
   | some vs=>exact zqh he
theorem zys {st:Sl} {f:Nat} (h: ∀t∈st.cs,t.batch.length≤100000) (hf:f≤4):(zdy (zap f st)).length≤100000∧(zei (zap f st)).length≤100000:=
 ⟨zp6 _ h,by have:=zp7 (all:=st.cs) (q:=2*f+1) st.cs;unfold zap;omega⟩
theorem znm {b:Nat} {a1 a2 a3:Int} {a4 a5:Value} (h:Own B w0 W (blk b (ctO a1 a2 a3 a4 a5)::rs)) (view inst seq:Int) (vb vv:Value):
  Own B w0 (((((W.setCell ⟨b,0,none⟩ (.int .i64 view)).setCell ⟨b,1,none⟩ (.int .i64 inst)).setCell ⟨b,2,none⟩ (.int .i64 seq)).setCell ⟨b,3,none⟩ vb).setCell ⟨b,4,none⟩ vv) (blk b (ctO view inst seq vb vv)::rs):=
 ((((h.store 0 (.int .i64 view)).store 1 (.int .i64 inst)).store 2 (.int .i64 seq)).store 3 vb).store 4 vv
theorem zyj (w:World) (b:Nat) (view inst seq:Int) (vb vv:Value):Upd [b] w (((((w.setCell ⟨b,0,none⟩ (.int .i64 view)).setCell ⟨b,1,none⟩ (.int .i64 inst)).setCell ⟨b,2,none⟩ (.int .i64 seq)).setCell ⟨b,3,none⟩ vb).setCell ⟨b,4,none⟩ vv):=
 (((((Upd.refl _ _).setCell (.inl (by simp)) _).setCell (.inl (by simp)) _).setCell (.inl (by simp)) _).setCell (.inl (by simp)) _).setCell (.inl (by simp)) _
theorem zll {seq:Int} {st:In} (h:commI st seq=none):zbk st seq=st:=by
 unfold zbk;rw [h];cases idx seq<;>rfl
theorem zou (h:Own B w0 W (instR x::ss)) {i:Nat} (hi:x.i=i) (seq:Int):Calls Tryz.prog 256 #[.pointer (some ⟨i,0,none⟩),.int .i64 seq] W (CertP B w0 W i (commI x.st seq) (zbk x.st seq) ss):=by
 subst hi;have hz:=zdg (h.box zct).swap;obtain ⟨-,-,-,-,-,c5,l1,l2⟩:=zc6 hz;cases hk:idx seq with
 | none=>
  have hs:=zgq hk;have HE:=zq (show commI x.st seq=none by simp [commI,ze6 hk]);have HA:=zq (at_no x.i x.b x.cap seq _ hs c5);have H:=zq h;clear hz h hk hs c5;go_enter Tryz.func256,Tryz.ntmps256
  go_wp2_with fail
  refine HA.out.mono ?_;rintro e w' ⟨rfl,rfl⟩
  go_wp2_with fail
  exact bodyPost_ret (v:= .tuple #[ctAgg noCt,.bool false]) (by simp [results,Tryz.results256,go_sem,noCt]) rfl (zc1 (H.out.upd0 ((Upd.refl _ _).alloc _)) HE.out (zll HE.out))
 | some k=>
  obtain ⟨hl,hp⟩:=ze7 (oi_ok hz) hk;obtain ⟨i1,i2⟩:=zls hk;have HA:=zq (zpx x.i x.b x.cap seq _ (by omega) (by omega) c5);have hks:seq.toNat-1=k:=by omega
  rw [hks] at HA;have cp:=zl4 hz k hl;have cd:=zxx hz k hl;have HLF:=zq ((oi_ok hz).lf _ (List.getElem_mem hl));cases hd:x.l[k].done
  ·rw [hd] at cd
   have HC:=zq (zj8 (zd6 hz k hl));have HSM:=zq (zys (ziy (zd6 hz k hl)).2.2.1 (oi_ok hz).f2);have HCI:=zq (show commI x.st seq=(zap x.f x.l[k].sl).map fun r=>⟨x.view,x.num,seq,r.1,r.2⟩ by simp only [commI,hp];simp [Pm.pl,Ins.st,hd]);have HZ:=zq hz;have H:=zq h;have HK:=zq hk;clear hz h hk hp i2 hks hd;go_enter Tryz.func256,Tryz.ntmps256
   go_wp2_with fail
   refine HA.out.mono ?_;rintro e w' ⟨rfl,rfl⟩
   go_wp2_with fail
   refine HC.out.mono ?_;rintro e w2 ⟨v,u,rfl,hu,hb,hv,n1,n2⟩;rw [HLF.out] at hb hv⊢;obtain ⟨ao,cap,rfl⟩:=zco hb;obtain ⟨co,cav,rfl⟩:=zej hv;have H2:=zq (zix HZ.out hu hb hv n1 n2);clear hu hb hv n1 n2 cp cd c5 HC HA;obtain ⟨hnb,hnv⟩:=HSM.out;cases hcm:zap x.f x.l[k].sl with
   | none=>
    rw [hcm] at HCI;have H3:=zq (zcs H2.out.drop.drop);have fz:=fun o=>zab H3.out.drop.blk_out o;have hbx:=H3.out.drop.blk_out;have HBX:=zq hbx;obtain ⟨f0,f1,f2,f3,f4,fl,-⟩:=zb0 hbx;have fz0:=fz 0;have fz1:=fz 1;have fz2:=fz 2;have fz3:=fz 3;have fz4:=fz 4;clear hbx fz hcm
    go_wp2_with fail
    have H4:=zq (znm H3.out.swap 0 0 0 (.slice none 0 0) (.slice none 0 0));generalize ((((w2.setCell ⟨W.heap.size,0,none⟩ (.int .i64 0)).setCell ⟨W.heap.size,1,none⟩ (.int .i64 0)).setCell ⟨W.heap.size,2,none⟩ (.int .i64 0)).setCell ⟨W.heap.size,3,none⟩ (.slice none 0 0)).setCell ⟨W.heap.size,4,none⟩ (.slice none 0 0)=w4 at*;clear f0 f1 f2 f3 f4 fl fz0 fz1 fz2 fz3 fz4 HBX;obtain ⟨f0,f1,f2,f3,f4,fl,-⟩:=zb0 H4.out.blk_out;exact bodyPost_ret (v:= .tuple #[ctAgg noCt,.bool false]) (by simp [results,Tryz.results256,go_sem,noCt,f0,f1,f2,f3,f4]) rfl (zc1 H4.out.drop HCI.out (zll HCI.out))
   | some r=>
    rw [hcm] at HCI H2 hnb hnv;have hb2:=zvk H2.out.drop.drop;have HB2:=zq hb2;clear hb2 hcm
    go_wp2_with fail
    refine (zp3 x.i x.f x.num x.ahead x.view x.on _ seq ao _ cap co _ cav _ HB2.out).mono ?_;rintro e w3 ⟨rfl,hu3⟩;have H3:=zq (H2.out.upd0 hu3);clear hu3 H2 HB2;have ho3:=H3.out.drop.drop;have c8:=oi_at ho3 k hl 8 (by omega);have c9:=oi_at ho3 k hl 9 (by omega);have c10:=oi_at ho3 k hl 10 (by omega);have c11:=oi_at ho3 k hl 11 (by omega);have c12:=oi_at ho3 k hl 12 (by omega);have c13:=oi_at ho3 k hl 13 (by omega);obtain ⟨fzb,-⟩:=oi_fz ho3;have z8:=fzb (k*14+8);have z9:=fzb (k*14+9);have z10:=fzb (k*14+10);have z11:=fzb (k*14+11);have z12:=fzb (k*14+12);have z13:=fzb (k*14+13);clear ho3 fzb;simp only [zam,List.getElem?_cons_succ,List.getElem?_cons_zero] at c8 c9 c10 c11 c12 c13
    go_wp2_with fail
    have H4:=zq (oi_dw H3.out k hl x.view x.num seq hnb hnv);have r1:=(zfo (H3.out.drop.head));have r2:=(zfo H3.out.head);have H4S:=zq (show W.heap.size<w3.heap.size from block_lt (zcs H3.out.drop.drop).drop.blk_out);generalize (((((w3.setCell ⟨x.b,k*14+8,none⟩ (.bool true)).setCell ⟨x.b,k*14+9,none⟩ (.int .i64 x.view)).setCell ⟨x.b,k*14+9+1,none⟩ (.int .i64 x.num)).setCell ⟨x.b,k*14+9+2,none⟩ (.int .i64 seq)).setCell ⟨x.b,k*14+9+3,none⟩ (.slice ao (zdy (some r)).length cap)).setCell ⟨x.b,k*14+9+4,none⟩ (.slice co (zei (some r)).length cav)=w4 at*;clear c8 c9 c10 c11 c12 c13 z8 z9 z10 z11 z12 z13 H3 r1 r2;have hq:=(zh1 H4.out k (by simpa using hl)).2;simp only [List.getElem_set_self] at hq;obtain ⟨q1,q2,q3,q4⟩:=hq;have HF:=zq (zqs ⟨x.view,x.num,seq,.slice ao (zdy (some r)).length cap,.slice co (zei (some r)).length cav,zdy (some r),zei (some r)⟩ w4 q1 q3 q2 q4);clear q1 q2 q3 q4;have H4L:=zq (show W.heap.size<w4.heap.size from block_lt (zcs H4.out).drop.blk_out);refine HF.out.mono ?_;rintro e w5 ⟨⟨view',inst',seq',vb',vv',rs',vs'⟩,rfl,hcp,hu5,hb5,hv5,nb,nv⟩;simp only at hb5 hv5 nb nv;obtain ⟨ao6,cap6,rfl⟩:=zco hb5;obtain ⟨co6,cav6,rfl⟩:=zej hv5;have H5:=zq ((zix (zcs H4.out).swap hu5 hb5 hv5 nb nv).rot);have HCP:=zq hcp;have HB5:=zq hb5;have HV5:=zq hv5;have NB:=zq nb;have NV:=zq nv;clear hcp hu5 hb5 hv5 nb nv H4 HF;obtain ⟨f0,f1,f2,f3,f4,fl,fz⟩:=zb0 H5.out.blk_out;have fz0:=fz 0;have fz1:=fz 1;have fz2:=fz 2;have fz3:=fz 3;have fz4:=fz 4;clear fz
    go_wp2_with fail
    have H6:=zq (znm H5.out view' inst' seq' (.slice ao6 rs'.length cap6) (.slice co6 vs'.length cav6));have HU6:=zq (zyj w5 W.heap.size view' inst' seq' (.slice ao6 rs'.length cap6) (.slice co6 vs'.length cav6));generalize ((((w5.setCell ⟨W.heap.size,0,none⟩ (.int .i64 view')).setCell ⟨W.heap.size,1,none⟩ (.int .i64 inst')).setCell ⟨W.heap.size,2,none⟩ (.int .i64 seq')).setCell ⟨W.heap.size,3,none⟩ (.slice ao6 rs'.length cap6)).setCell ⟨W.heap.size,4,none⟩ (.slice co6 vs'.length cav6)=w6 at*;clear f0 f1 f2 f3 f4 fl fz0 fz1 fz2 fz3 fz4 H5;obtain ⟨f0,f1,f2,f3,f4,fl,-⟩:=zb0 H6.out.blk_out;refine bodyPost_ret (v:= .tuple #[ctAgg ⟨view',inst',seq',.slice ao6 rs'.length cap6,.slice co6 vs'.length cav6,rs',vs'⟩,.bool true]) (by simp [results,Tryz.results256,go_sem,f0,f1,f2,f3,f4]) rfl ?_;have hcp:=HCP.out;simp only [Ct.cp,Cp.mk.injEq] at hcp;obtain ⟨e1,e2,e3,e4,e5⟩:=hcp;have hnew: ∀(v:Value),(∀k∈blkOf v,w4.heap.size≤k)→(∀k∈blkOf v,W.heap.size≤k)∧ ∀k∈blkOf v,k∉[W.heap.size]:=fun v hv=>⟨fun k hk=>by have:=hv k hk;have:=H4L.out;omega,fun k hk hn=>by have:=hv k hk;have:=H4L.out;simp at hn;omega⟩;refine ⟨⟨view',inst',seq',.slice ao6 rs'.length cap6,.slice co6 vs'.length cav6,rs',vs'⟩,?_,?_,⟨by simp only [e4];exact hnb,by simp only [e5];exact hnv⟩,HB5.out.upd HU6.out (hnew _ NB.out).2,Reads.upd HV5.out HU6.out (hnew _ NV.out).2,(hnew _ NB.out).1,(hnew _ NV.out).1,
     x.sl k {x.l[k] with done:=true,dw:=⟨x.view,x.num,seq,.slice ao (zdy (some r)).length cap,.slice co (zei (some r)).length cav,zdy (some r),zei (some r)⟩},rfl,?_,H6.out.drop⟩
    ·rw [HCI.out];rfl
    ·rw [HCI.out]
     simp only [Ct.cp,Option.map_some,Option.getD_some,Cp.mk.injEq];exact ⟨e1,e2,e3,e4,e5⟩
    ·rw [show zbk x.st seq=x.st.upd k fun p=> {p with done:=true,dw:=⟨x.view,x.num,seq,r.1,r.2⟩} by simp [zbk,HK.out,HCI.out]]
     exact zs7 x k hl _ _ rfl
  ·rw [hd] at cd
   have HE:=zq (show commI x.st seq=none by simp only [commI,hp];simp [Pm.pl,hd]);have H:=zq h;clear hz h hk hp i2 hks hd c5 cp;go_enter Tryz.func256,Tryz.ntmps256
   go_wp2_with fail
   refine HA.out.mono ?_;rintro e w' ⟨rfl,rfl⟩
   go_wp2_with fail
   exact bodyPost_ret (v:= .tuple #[ctAgg noCt,.bool false]) (by simp [results,Tryz.results256,go_sem,noCt]) rfl (zc1 (H.out.upd0 ((Upd.refl _ _).alloc _)) HE.out (zll HE.out))
end
theorem Tryz.infoPl:(Tryz.prog.info? 241).map (fun i=>(i.zero,i.size,i.bytes))=some (some (.agg #[.pointer none,.bool false,.bool false,.int .i64 0,.int .i64 0,.int .i64 0,.slice none 0 0,.slice none 0 0,.bool false,.int .i64 0,.int .i64 0,.int .i64 0,.slice none 0 0,.slice none 0 0]),14,168):=by kernel_rfl
section
variable {B:Nat} {w0 W W':World} {ss rs:List Res} {x:Ins}
def newPm (L:Loc) (f:Nat):Pm:=⟨L,zb4 f,false,false,noCt,false,noCt⟩
theorem zve (L:Loc) (f:Nat): ∀u∈zam (newPm L f),u.oneCell'=true:=by
 intro u hu;simp only [zam,newPm,noCt,List.mem_cons,List.not_mem_nil,or_false] at hu;rcases hu with rfl | rfl | rfl | rfl | rfl | rfl | rfl | rfl | rfl | rfl | rfl | rfl | rfl | rfl<;>rfl
def NewP (B:Nat) (w0:World) (st:In) (ss:List Res) (e:Ending) (w':World):Prop:= ∃x:Ins,e= .returned (.tuple #[x.ptr,.int .i64 0])∧x.st=st∧Own B w0 w' (instR x::ss)
def MkI (B:Nat) (w0 w:World) (i f:Nat) (num ahead:Int) (k:Nat) (ss:List Res):Prop:=
 ∃(ls:List Loc) (ao:Option Addr) (cp:Nat),ls.length=k∧(∀L∈ls,L.f=f)∧
  Own B w0 w (ownR 241 14 (.slice ao k cp) k ((ls.map fun L=>newPm L f).flatMap zam)::blk i (insO f num ahead 0 true (.slice ao k cp))::((ls.map fun L=>newPm L f).map pmR++ss))
theorem mk_more {i f:Nat} {num ahead:Int} {k g cap2:Nat} {ls:List Loc} {L:Loc} {ao:Option Addr} {cp:Nat} (hl:ls.length=k) (hlf: ∀L∈ls,L.f=f) (hf:L.f=f)
  (h:Own B w0 W (blk i (setIn 5 (.slice (some ⟨g,0,none⟩) (k+1) cap2) (insO f num ahead 0 true (.slice ao k cp)))::ownR 241 14 (.slice (some ⟨g,0,none⟩) (k+1) cap2) (k+1) ((ls.map fun L=>newPm L f).flatMap zam++zam (newPm L f))::slotR L (zb4 f)::((ls.map fun L=>newPm L f).map pmR++ss))):MkI B w0 W i f num ahead (k+1) ss:=by
 refine ⟨ls++[L],some ⟨g,0,none⟩,cap2,by simp [hl],fun L' hL'=> ?_,?_⟩
 ·rcases List.mem_append.1 hL' with h | h
  ·exact hlf L' h
  ·simp at h;subst h;exact hf
 ·have h2:=h.rot
  have h3:Own B w0 W (slotR L (zb4 f)::([ownR 241 14 (.slice (some ⟨g,0,none⟩) (k+1) cap2) (k+1) ((ls.map fun L=>newPm L f).flatMap zam++zam (newPm L f)),blk i (insO f num ahead 0 true (.slice (some ⟨g,0,none⟩) (k+1) cap2))]++((ls.map fun L=>newPm L f).map pmR++ss))):=h2.perm (List.Perm.cons _ (List.Perm.swap _ _ _));have h4:=Own.perm (ss:=([ownR 241 14 (.slice (some ⟨g,0,none⟩) (k+1) cap2) (k+1) ((ls.map fun L=>newPm L f).flatMap zam++zam (newPm L f)),blk i (insO f num ahead 0 true (.slice (some ⟨g,0,none⟩) (k+1) cap2))]++(ls.map fun L=>newPm L f).map pmR)++slotR L (zb4 f)::ss) h3 (by
   rw [←List.append_assoc];exact List.perm_middle.symm)
  simp only [List.map_append,List.flatMap_append,List.map_cons,List.map_nil,List.flatMap_cons,List.flatMap_nil,List.append_nil,List.append_assoc,List.cons_append,List.nil_append] at h4⊢;exact h4
theorem mk_done {i f:Nat} {num ahead:Int} {ls:List Loc} {ao:Option Addr} {cp:Nat} (hf1:1≤f) (hf2:f≤4) (ha1:1≤ahead) (ha2:ahead≤16) (hl:ls.length=16) (hlf: ∀L∈ls,L.f=f)
  (h:Own B w0 W (ownR 241 14 (.slice ao 16 cp) 16 ((ls.map fun L=>newPm L f).flatMap zam)::blk i (insO f num ahead 0 true (.slice ao 16 cp))::((ls.map fun L=>newPm L f).map pmR++ss))): ∃x:Ins,x.i=i∧x.st=newI f num ahead∧Own B w0 W (instR x::ss):=by
 have hown:=zaj h.head;rcases hown.2 with ⟨h1,h2⟩ | ⟨g,cap,cur,h1,hb,hg,q1,q2,q3,q4⟩
 ·omega
 ·simp only [Value.slice.injEq] at h1
  obtain ⟨rfl,-,rfl⟩:=h1;have h2:=h.alter (r':=segR g 241 ((ls.map fun L=>newPm L f).flatMap zam)) (zl6 h.head) (fun k hk=>by simp [ownR,blkOf,segR] at hk⊢;exact hk);refine ⟨⟨i,g,cp,f,num,ahead,0,true,ls.map fun L=>newPm L f⟩,rfl,?_,zcs ?_⟩
  ·simp only [Ins.st,newI,In.mk.injEq,true_and,List.map_map]
   apply List.ext_getElem?;intro j;rw [List.getElem?_map,List.getElem?_replicate];by_cases hj:j<16
   ·rw [if_pos hj,List.getElem?_eq_getElem (by omega)];rfl
   ·rw [if_neg hj,List.getElem?_eq_none (by omega)];rfl
  ·have h3:Own B w0 W (zez ⟨i,g,cp,f,num,ahead,0,true,ls.map fun L=>newPm L f⟩::segR g 241 ((ls.map fun L=>newPm L f).flatMap zam)::blk i (insO f num ahead 0 true (.slice (some ⟨g,0,none⟩) 16 cp))::((ls.map fun L=>newPm L f).map pmR++ss)):=h2.new (Upd.refl [] _) ⟨[],⟨⟨⟨by simp [hl],hf1,hf2,fun p hp=> ?_,q1,ha1,ha2,by simp⟩,fun p hp=> ?_⟩,by simp⟩,by simp,fun k hk=>h2.lt k hk⟩ (by simp [zez,imm])
   ·exact h3.swap.rot
   ·simp only [List.mem_map] at hp
    obtain ⟨L,hL,rfl⟩:=hp;exact hlf L hL
   ·simp only [List.mem_map] at hp
    obtain ⟨L,hL,rfl⟩:=hp;exact ⟨⟨zav.nil _ _ _,by simp [newPm,noCt],zav.nil _ _ _,by simp [newPm,noCt]⟩,⟨zav.nil _ _ _,by simp [newPm,noCt],zav.nil _ _ _,by simp [newPm,noCt]⟩⟩
theorem ins_new (f:Nat) (num ahead:Int) (hf1:1≤f) (hf2:f≤4) (hn1:0≤num) (hn2:num≤f) (ha1:1≤ahead) (ha2:ahead≤16) (h:Own B w0 W ss):
  Calls Tryz.prog 82 #[.int .i64 f,.int .i64 num,.int .i64 ahead] W (NewP B w0 (newI f num ahead) ss):=by
 obtain ⟨i0,hi,hz0,hz1,hz2⟩:=info_parts Tryz.infoPl;have hb1:decide ((f:Int)<1)=false:=by simp;omega
 have hb2:decide (4<(f:Int))=false:=by simp;omega
 have hb3:decide (num<0)=false:=by simp;omega
 have hb4:decide ((f:Int)<num)=false:=by simp;omega
 have hb5:decide (ahead<1)=false:=by simp;omega
 have hb6:decide (16<ahead)=false:=by simp;omega
 have h0:MkI B w0 (W.alloc (insO f num ahead 0 true (.slice none 0 0))) W.heap.size f num ahead 0 ss:=⟨[],none,0,rfl,by simp,(h.box (insO f num ahead 0 true (.slice none 0 0))).row0⟩;have H0:=zq h0;clear h0 h;go_enter Tryz.func82,Tryz.ntmps82
 go_wp2_with fail
 go_loopw [39] (fun i wr=> ∃k:Nat,k≤16∧i= .int .i64 k∧Hid (MkI B w0 wr W.heap.size f num ahead k ss)) (fun i _=>16-(intOf i).toNat)
 case atStart=>exact ⟨0,by omega,rfl,H0⟩
 case round=>
  clear H0;obtain ⟨k,hk,rfl,HM⟩:=hrel;by_cases hlt:k<16
  ·have hkI:(k:Int)<16:=by omega
   obtain ⟨ls,ao,cp,hl,hlf,hown⟩:=HM.out;have HL:=zq hl;have HLF:=zq hlf;have HC:=zq (own_new f hf1 hf2 hown);clear hl hlf hown
   go_wp2_with fail
   refine HC.out.mono ?_;rintro e w2 ⟨L,rfl,hLf,-,h2⟩;have H2:=zq h2;have HF:=zq hLf;clear h2 hLf HC;have hbl:=H2.out.drop.drop.blk_out;have c5:w2.cell? ⟨W.heap.size,5,none⟩=some (.slice ao k cp):=by rw [zac hbl];rfl
   clear hbl;have HO:=zq (zaj (H2.out.alloc (.cells (zam (newPm L f)).toArray 241)).drop.head)
   go_wp2_with (at_builtin;refine wpList_append_lies _ rfl (.tmp 50) (.tmp 53) 212 rfl 0 241 i0 (.agg #[.pointer none,.bool false,.bool false,.int .i64 0,.int .i64 0,.int .i64 0,.slice none 0 0,.slice none 0 0,.bool false,.int .i64 0,.int .i64 0,.int .i64 0,.slice none 0 0,.slice none 0 0]) 14 168 Tryz.underlying212 hi hz0 hz1 hz2 rfl (by decide) _ k _ rfl HO.out ⟨w2.heap.size,0,none⟩ 1 1 (zam (newPm L f)) rfl rfl ?c1 ?c2 (by decide) ?c3 ?c4 (Nat.zero_le _) _ rfl ?c6)
   case c1=>exact World.news_of_block (heap_alloc_new w2 _)
   case c2=>exact zve L f
   case c3=>unfold maxLen;omega
   case c4=>omega
   case c6=>
    intro g cap2 w3 hown hgrow hat hlt;have h3:=((H2.out.alloc (.cells (zam (newPm L f)).toArray 241)).swap.grow hgrow (by rw [zbf];exact hat) hown);have H3:=zq h3;clear hown hgrow hat hlt h3 HO c5;have hbl:=H3.out.drop.drop.blk_out;have c5:w3.cell? ⟨W.heap.size,5,none⟩=some (.slice ao k cp):=by rw [zac hbl];rfl
    have fz:=zab hbl 5;clear hbl
    go_wp2_with fail
    have H4:=zq ((H3.out.rot.store 5 (.slice (some ⟨g,0,none⟩) (k+1) cap2)))
    go_roundw
    case rel=>exact ⟨k+1,by omega,by go_num,zq (mk_more HL.out HLF.out HF.out H4.out)⟩
    case measure=>simp [intOf];omega
  ·have hk16:k=16:=by omega
   subst hk16;obtain ⟨ls,ao,cp,hl,hlf,hown⟩:=HM.out;have HX:=zq (mk_done hf1 hf2 ha1 ha2 hl hlf hown);clear hl hlf hown
   go_wp2_with fail
   go_ret2
   obtain ⟨x,h1,h2,h3⟩:=HX.out;exact ⟨x,by simp [Ins.ptr,h1],h2,h3⟩
end
def AtI (B:Nat) (w0 w:World) (i:Nat) (st:In) (ss:List Res):Prop:= ∃x:Ins,x.i=i∧x.st=st∧Own B w0 w (instR x::ss)
section
variable {B:Nat} {w0 W W':World} {ss rs:List Res} {x:Ins} {i:Nat} {st:In}
theorem AtI.upd0 (h:AtI B w0 W i st ss) (hu:Upd [] W W'):AtI B w0 W' i st ss:=let ⟨x,h1,h2,h3⟩:=h;⟨x,h1,h2,h3.upd0 hu⟩
theorem AtI.alloc (h:AtI B w0 W i st ss) (o:Obj):AtI B w0 (W.alloc o) i st ss:=h.upd0 ((Upd.refl _ _).alloc o)
theorem AtI.drew (h:AtI B w0 W i st ss):AtI B w0 W.drew i st ss:=h.upd0 (Upd.refl _ _).drew
theorem AtI.below (h:AtI B w0 W i st ss):Below B w0 W:=let ⟨_,_,_,h3⟩:=h;h3.below
theorem ai_vote (h:AtI B w0 W i st ss) (kind seq node sl:Int) (v:Value) (l:List Rq) (hb:Bat W v l) (hn:l.length≤100000):
  Calls Tryz.prog 236 #[.pointer (some ⟨i,0,none⟩),.int .i64 kind,.int .i64 seq,.int .i64 node,.int .i64 sl,v] W fun e w'=>e= .returned (.bool (voteB st kind seq node))∧AtI B w0 w' i (voteI st kind seq node sl l) ss:=by
 obtain ⟨x,h1,rfl,h3⟩:=h;exact zzg h3 h1 kind seq node sl v l hb hn
theorem ai_pre (h:AtI B w0 W i st ss) (seq:Int) (v:Value) (l:List Rq) (hb:Bat W v l) (hn:l.length≤100000):
  Calls Tryz.prog 159 #[.pointer (some ⟨i,0,none⟩),.int .i64 seq,v] W fun e w'=>e= .returned (.bool (preB st seq))∧AtI B w0 w' i (preI st seq l) ss:=by
 obtain ⟨x,h1,rfl,h3⟩:=h;exact ins_pre h3 h1 seq v l hb hn
theorem ai_done (h:AtI B w0 W i st ss):Calls Tryz.prog 156 #[.pointer (some ⟨i,0,none⟩)] W fun e w'=>e= .returned (.int .i64 (doneI st))∧W=w':=by
 obtain ⟨x,h1,rfl,h3⟩:=h;exact zzd h3 h1
theorem ai_next (h:AtI B w0 W i st ss):Calls Tryz.prog 154 #[.pointer (some ⟨i,0,none⟩)] W fun e w'=>e= .returned (.int .i64 (nextI st))∧Upd [] W w':=by
 obtain ⟨x,h1,rfl,h3⟩:=h;exact zze h3 h1
theorem zlf (h:AtI B w0 W i st ss):Calls Tryz.prog 73 #[.pointer (some ⟨i,0,none⟩)] W fun e w'=>e= .returned (.bool st.on)∧W=w':=by
 obtain ⟨x,h1,rfl,h3⟩:=h;exact zj3 h3 h1
theorem zt2 (h:AtI B w0 W i st ss) (seq:Int):Calls Tryz.prog 220 #[.pointer (some ⟨i,0,none⟩),.int .i64 seq] W (zw6 W (zbl st seq)):=by
 obtain ⟨x,h1,rfl,h3⟩:=h;exact zq4 h3 h1 seq
def Told (W w':World) (r:Option Cp) (c:Ct):Prop:=
 c.cp=r.getD noCp∧(c.rs.length≤100000∧c.vs.length≤100000)∧Bat w' c.vb c.rs∧Vts w' c.vv c.vs∧(∀k∈blkOf c.vb,W.heap.size≤k)∧ ∀k∈blkOf c.vv,W.heap.size≤k
end
def cs3 (b:List Rq) (n:Nat):List Vt:=(List.range 4).map fun i=>if i<n then ⟨true,1,b⟩ else noVt
def vPl (k n:Nat):Pl:= {zbu 1 with sl:= {zb4 1 with cs:=cs3 [rq 0 k] n}}
def gCp (k:Nat):Cp:=⟨0,0,k,[rq 0 k],[(0,1),(1,1),(2,1)]⟩
def gPl (k:Nat):Pl:= {vPl k 3 with done:=true,dw:=gCp k}
def gp (h:Nat→Bool):In:=⟨1,0,1,0,true,(List.range 16).map fun j=>if h (j+1) then gPl (j+1) else zbu 1⟩
def vk (h:Nat→Bool) (k n:Nat):In:=(gp h).upd (k-1) fun p=>if h k then p else vPl k n
def Only (h:Nat→Bool):Prop:= ∀j,h j=true→1≤j∧j≤16
abbrev rqBox (r:Rq):Obj:= .cells #[.int .i64 r.client,.int .i64 r.time,.int .i64 r.kind,.int .i64 r.key,.int .i64 r.val,.int .i64 r.sl] 38 (0,0)
theorem zjb {w:World} {b:Nat} {r:Rq} (h:w.heap[b]?=some (rqBox r)):w.cell? ⟨b,0,none⟩=some (.int .i64 r.client)∧w.cell? ⟨b,1,none⟩=some (.int .i64 r.time)∧w.cell? ⟨b,2,none⟩=some (.int .i64 r.kind)∧
  w.cell? ⟨b,3,none⟩=some (.int .i64 r.key)∧w.cell? ⟨b,4,none⟩=some (.int .i64 r.val)∧w.cell? ⟨b,5,none⟩=some (.int .i64 r.sl):=
 ⟨by rw [zac h];rfl,by rw [zac h];rfl,by rw [zac h];rfl,by rw [zac h];rfl,by rw [zac h];rfl,by rw [zac h];rfl⟩
def NoneIn (r:Rq) (l:List Rq) (k:Nat):Prop:= ∀j (hj:j<l.length),j<k→l[j]≠r
theorem zq0 (v:Value) (l:List Rq) (r:Rq) (w:World) (hn:l.length≤100000) (h:Bat w v l):
  Calls Tryz.prog 216 #[v,.agg #[.int .i64 r.client,.int .i64 r.time,.int .i64 r.kind,.int .i64 r.key,.int .i64 r.val,.int .i64 r.sl]] w fun e w'=>e= .returned (.bool (decide (r∈l)))∧Upd [] w w':=by
 obtain ⟨ao,cap,rfl,h1,h2,h3,h4,h5⟩:=h;clear h1 h2 h3 h4;have H5:=zq h5;clear h5;have H0:=zq ((Own.start (Below.refl w.heap.size w) (Nat.le_refl _)).box (rqBox r));go_enter Tryz.func216,Tryz.ntmps216
 go_wp2_with fail
 go_loopw [9] (fun i wr=> ∃k:Nat,k≤l.length∧i= .int .i64 k∧Hid (NoneIn r l k)∧Hid (Own w.heap.size w wr [blk w.heap.size (rqBox r)])) (fun i _=>l.length-(intOf i).toNat)
 case atStart=>exact ⟨0,by omega,rfl,zq (by intro j _ hj;omega),H0⟩
 case round=>
  clear H0;obtain ⟨k,hk,rfl,HN,H1⟩:=hrel;by_cases hlt:k<l.length
  ·have hkI:(k:Int)<(l.length:Int):=by omega
   obtain ⟨b,o,rfl,hbs,hc⟩:=H5.out (by omega);obtain ⟨q0,q1,q2,q3,q4,q5⟩:=zba (zbt H1.out.below hbs hc) k l[k] (by simp);clear hc;have hbx:=H1.out.blk_out;obtain ⟨p0,p1,p2,p3,p4,p5⟩:=zjb hbx;have hlb:=block_lt hbx;have hz:=H1.out.below.size;clear hbx;have H2:=zq (H1.out.alloc (rqBox l[k]));by_cases he:l[k]=r
   ·have heq: ∀wx,(Op.equalIn 10000 38 (rqAgg l[k]) (rqAgg r)).run Tryz.prog wx= .ok true wx:=fun wx=>by rw [zbd];simp [he]
    have HE:=zq he;clear he;unfold rqAgg at heq;have hgd:=Tryz.guardReq
    go_wp2_with fail
    go_ret
    refine ⟨zad ?_,Upd.of_below H2.out.below⟩;symm;rw [decide_eq_true_iff,←HE.out];exact List.getElem_mem hlt
   ·have heq: ∀wx,(Op.equalIn 10000 38 (rqAgg l[k]) (rqAgg r)).run Tryz.prog wx= .ok false wx:=fun wx=>by rw [zbd];simp [he]
    have HE:=zq he;clear he;unfold rqAgg at heq;have hgd:=Tryz.guardReq
    go_wp2_with fail
    go_roundw
    case rel=>
     refine ⟨k+1,by omega,by go_num,zq (fun j hj hjk=> ?_),H2⟩;by_cases e:j=k
     ·subst e;exact HE.out
     ·exact HN.out j hj (by omega)
    case measure=>simp [intOf];omega
  ·have hkl:k=l.length:=by omega
   subst hkl;have hkI: ¬(l.length:Int)<(l.length:Int):=by omega
   go_wp2_with fail
   go_ret
   refine ⟨zad ?_,Upd.of_below H1.out.below⟩;symm;rw [decide_eq_false_iff_not];intro hm;obtain ⟨j,hj,e⟩:=List.getElem_of_mem hm;exact HN.out j hj hj e
def NoneP (r:Rq) (l:List Pm) (k:Nat):Prop:= ∀j (hj:j<l.length),j<k→usedP r l[j].pl=false
section
variable {B:Nat} {w0 W W':World} {ss rs:List Res}
theorem oi_row {x:Ins} (h:OwnI B w0 W x ss) (k:Nat) (hk:k<x.l.length):W.cell? ⟨x.b,k*14,none⟩=some x.l[k].lc.ptr∧W.cell? ⟨x.b,k*14+1,none⟩=some (.bool x.l[k].told)∧W.cell? ⟨x.b,k*14+2,none⟩=some (.bool x.l[k].has)∧
  W.cell? ⟨x.b,k*14+3,none⟩=some (.int .i64 x.l[k].ct.view)∧W.cell? ⟨x.b,k*14+4,none⟩=some (.int .i64 x.l[k].ct.inst)∧W.cell? ⟨x.b,k*14+5,none⟩=some (.int .i64 x.l[k].ct.seq)∧W.cell? ⟨x.b,k*14+6,none⟩=some x.l[k].ct.vb∧W.cell? ⟨x.b,k*14+7,none⟩=some x.l[k].ct.vv∧
  W.cell? ⟨x.b,k*14+8,none⟩=some (.bool x.l[k].done)∧W.cell? ⟨x.b,k*14+9,none⟩=some (.int .i64 x.l[k].dw.view)∧W.cell? ⟨x.b,k*14+10,none⟩=some (.int .i64 x.l[k].dw.inst)∧W.cell? ⟨x.b,k*14+11,none⟩=some (.int .i64 x.l[k].dw.seq)∧W.cell? ⟨x.b,k*14+12,none⟩=some x.l[k].dw.vb∧W.cell? ⟨x.b,k*14+13,none⟩=some x.l[k].dw.vv:=
 ⟨oi_at h k hk 0 (by omega),oi_at h k hk 1 (by omega),oi_at h k hk 2 (by omega),oi_at h k hk 3 (by omega),oi_at h k hk 4 (by omega),oi_at h k hk 5 (by omega),oi_at h k hk 6 (by omega),oi_at h k hk 7 (by omega),oi_at h k hk 8 (by omega),oi_at h k hk 9 (by omega),oi_at h k hk 10 (by omega),oi_at h k hk 11 (by omega),oi_at h k hk 12 (by omega),oi_at h k hk 13 (by omega)⟩
theorem zyv {x:Ins} (h:OwnI B w0 W x ss) (k:Nat) (hk:k<x.l.length): ∃a1 c1 a2 c2 a3 c3 a4 c4,x.l[k].ct.vb= .slice a1 x.l[k].ct.rs.length c1∧x.l[k].ct.vv= .slice a2 x.l[k].ct.vs.length c2∧x.l[k].dw.vb= .slice a3 x.l[k].dw.rs.length c3∧x.l[k].dw.vv= .slice a4 x.l[k].dw.vs.length c4:=by
 obtain ⟨⟨h1,h2,_⟩,h3,h4,_⟩:=zh1 h k hk;obtain ⟨a1,c1,e1⟩:=zco h1;obtain ⟨a2,c2,e2⟩:=zej h2;obtain ⟨a3,c3,e3⟩:=zco h3;obtain ⟨a4,c4,e4⟩:=zej h4;exact ⟨a1,c1,a2,c2,a3,c3,a4,c4,e1,e2,e3,e4⟩
theorem zt3 {x:Ins} {r:Rq} {k:Nat} (hk:k<x.l.length) (h:usedP r x.l[k].pl=true):usedI x.st r=true:=by
 simp only [usedI,Ins.st,List.any_map,List.any_eq_true];exact ⟨x.l[k],by simp,h⟩
theorem zyl {x:Ins} {r:Rq} (hn:x.l.length=16) (h:NoneP r x.l 16):usedI x.st r=false:=by
 simp only [usedI,Ins.st,List.any_map,List.any_eq_false];intro p hp;obtain ⟨j,hj,rfl⟩:=List.getElem_of_mem hp
 simpa using h j hj (by omega)
theorem ai_used {i:Nat} {st:In} (h:AtI B w0 W i st ss) (r:Rq):Calls Tryz.prog 158 #[.pointer (some ⟨i,0,none⟩),.agg #[.int .i64 r.client,.int .i64 r.time,.int .i64 r.kind,.int .i64 r.key,.int .i64 r.val,.int .i64 r.sl]] W fun e w'=>e= .returned (.bool (usedI st r))∧Upd [] W w':=by
 obtain ⟨x,rfl,rfl,h3⟩:=h;have h0:=zdg (h3.box (rqBox r)).swap;have hu0:Upd [] W (W.alloc (rqBox r)):=(Upd.refl _ _).alloc _;have H0:=zq h0;have HU0:=zq hu0;have HN:=zq (oi_ok h0).n;obtain ⟨-,-,-,-,-,c5,l1,l2⟩:=zc6 h0;clear h3 h0 hu0;go_enter Tryz.func158,Tryz.ntmps158
 go_wp2_with fail
 generalize W.alloc (rqBox r)=w1 at*
 go_loopw [14] (fun n wr=> ∃k:Nat,k≤16∧n= .int .i64 k∧Hid (NoneP r x.l k)∧Hid (Upd [] w1 wr)) (fun n _=>16-(intOf n).toNat)
 case atStart=>exact ⟨0,by omega,rfl,zq (by intro j _ hj;omega),zq (Upd.refl _ _)⟩
 case round=>
  clear c5;obtain ⟨k,hk,rfl,HA,HU⟩:=hrel;by_cases hlt:k<16
  ·have hkI:(k:Int)<16:=by omega
   have hl:k<x.l.length:=by rw [HN.out];exact hlt
   have h1:=Own.upd0 H0.out HU.out;obtain ⟨a1,e1,a2,e2,a3,e3,a4,e4,s1,s2,s3,s4⟩:=zyv h1 k hl;obtain ⟨g0,g1,g2,g3,g4,g5,g6,g7,g8,g9,g10,g11,g12,g13⟩:=oi_row h1 k hl;rw [s1] at g6;rw [s2] at g7;rw [s3] at g12;rw [s4] at g13;have hdl:=(zh1 h1 k hl).2.2.2.1;have S3:=zq s3;have HC:=zq (ze5 (zd6 (Own.alloc h1 (.cells #[x.l[k].lc.ptr,.bool x.l[k].told,.bool x.l[k].has,.int .i64 x.l[k].ct.view,.int .i64 x.l[k].ct.inst,.int .i64 x.l[k].ct.seq,.slice a1 x.l[k].ct.rs.length e1,.slice a2 x.l[k].ct.vs.length e2,.bool x.l[k].done,.int .i64 x.l[k].dw.view,.int .i64 x.l[k].dw.inst,.int .i64 x.l[k].dw.seq,.slice a3 x.l[k].dw.rs.length e3,.slice a4 x.l[k].dw.vs.length e4] 241 (0,0))) k hl));have HBX:=zq ((zcs (Own.alloc h1 (.cells #[x.l[k].lc.ptr,.bool x.l[k].told,.bool x.l[k].has,.int .i64 x.l[k].ct.view,.int .i64 x.l[k].ct.inst,.int .i64 x.l[k].ct.seq,.slice a1 x.l[k].ct.rs.length e1,.slice a2 x.l[k].ct.vs.length e2,.bool x.l[k].done,.int .i64 x.l[k].dw.view,.int .i64 x.l[k].dw.inst,.int .i64 x.l[k].dw.seq,.slice a3 x.l[k].dw.rs.length e3,.slice a4 x.l[k].dw.vs.length e4] 241 (0,0)))).drop.blk_out);have HPX:=zq (heap_alloc_new wr (.cells #[x.l[k].lc.ptr,.bool x.l[k].told,.bool x.l[k].has,.int .i64 x.l[k].ct.view,.int .i64 x.l[k].ct.inst,.int .i64 x.l[k].ct.seq,.slice a1 x.l[k].ct.rs.length e1,.slice a2 x.l[k].ct.vs.length e2,.bool x.l[k].done,.int .i64 x.l[k].dw.view,.int .i64 x.l[k].dw.inst,.int .i64 x.l[k].dw.seq,.slice a3 x.l[k].dw.rs.length e3,.slice a4 x.l[k].dw.vs.length e4] 241 (0,0)));have HUA:=zq (HU.out.alloc (.cells #[x.l[k].lc.ptr,.bool x.l[k].told,.bool x.l[k].has,.int .i64 x.l[k].ct.view,.int .i64 x.l[k].ct.inst,.int .i64 x.l[k].ct.seq,.slice a1 x.l[k].ct.rs.length e1,.slice a2 x.l[k].ct.vs.length e2,.bool x.l[k].done,.int .i64 x.l[k].dw.view,.int .i64 x.l[k].dw.inst,.int .i64 x.l[k].dw.seq,.slice a3 x.l[k].dw.rs.length e3,.slice a4 x.l[k].dw.vs.length e4] 241 (0,0)));have HSM:=zq (ziy (zd6 h1 k hl)).1;clear h1 s1 s2 s3 s4
   go_wp2_with fail
   generalize wr.alloc (.cells #[x.l[k].lc.ptr,.bool x.l[k].told,.bool x.l[k].has,.int .i64 x.l[k].ct.view,.int .i64 x.l[k].ct.inst,.int .i64 x.l[k].ct.seq,.slice a1 x.l[k].ct.rs.length e1,.slice a2 x.l[k].ct.vs.length e2,.bool x.l[k].done,.int .i64 x.l[k].dw.view,.int .i64 x.l[k].dw.inst,.int .i64 x.l[k].dw.seq,.slice a3 x.l[k].dw.rs.length e3,.slice a4 x.l[k].dw.vs.length e4] 241 (0,0))=w2 at*;clear g0 g1 g2 g3 g4 g5 g6 g7 g8 g9 g10 g11 g12 g13;refine HC.out.mono ?_;rintro e w3 ⟨u,rfl,hu3,hb3,-⟩;have HU3:=zq (HUA.out.trans hu3);have HB3:=zq hb3;have lb:=block_lt HBX.out;have lp:=block_lt HPX.out;have hbx:=(hu3.block _ lb (by simp)).trans HBX.out;have hpx:=(hu3.block _ lp (by simp)).trans HPX.out;obtain ⟨p0,p1,p2,p3,p4,p5⟩:=zjb hbx;have HBX3:=zq hbx;have HPX3:=zq hpx;have d8:w3.cell? ⟨wr.heap.size,8,none⟩=some (.bool x.l[k].done):=by rw [zac hpx];rfl
   have d12:w3.cell? ⟨wr.heap.size,12,none⟩=some (.slice a3 x.l[k].dw.rs.length e3):=by rw [zac hpx];rfl
   have hsm:(zda x.l[k].sl).length≤100000:=by unfold zda;split;exact HSM.out;simp
   clear hu3 hb3 HC HBX HPX HUA hbx hpx lb lp;generalize wr.heap.size=bx at*;cases hh:x.l[k].sl.has
   ·have HHS:=zq hh
    clear hh;cases hd:x.l[k].done
    ·rw [hd] at d8
     have HDN:=zq hd;clear hd
     go_wp2_with fail
     go_roundw
     case rel=>
      refine ⟨k+1,by omega,by go_num,zq (fun j hj hjk=> ?_),HU3⟩;by_cases e:j=k
      ·subst e;simp only [usedP,Pm.pl,Ct.cp];rw [HHS.out,HDN.out];simp_all
      ·exact HA.out j hj (by omega)
     case measure=>simp [intOf];omega
    ·rw [hd] at d8
     have HDN:=zq hd;clear hd;have HB3:=zq ((zh1 (Own.upd0 H0.out HU3.out) k hl).2.1)
     go_wp2_with fail
     refine (zq0 _ x.l[k].dw.rs r _ hdl (by rw [←S3.out];exact HB3.out)).mono ?_;rintro e w4 ⟨rfl,hu4⟩;have HU4:=zq (HU3.out.trans hu4);clear hu4;cases hq:decide (r∈x.l[k].dw.rs)
     ·have HQ2:=hq
      go_wp2_with fail
      go_roundw
      case rel=>
       refine ⟨k+1,by omega,by go_num,zq (fun j hj hjk=> ?_),HU4⟩;by_cases e:j=k
       ·subst e;simp only [usedP,Pm.pl,Ct.cp];rw [HHS.out,HDN.out];simp_all
       ·exact HA.out j hj (by omega)
      case measure=>simp [intOf];omega
     ·have HQ2:=hq
      go_wp2_with fail
      go_ret
      refine ⟨zad ?_,HU0.out.trans HU4.out⟩;symm;exact zt3 (x:=x) hl (by simp only [usedP,Pm.pl,Ct.cp];rw [HHS.out,HDN.out];simp_all)
   ·have HHS:=zq hh
    clear hh
    go_wp2_with fail
    refine (zq0 _ (zda x.l[k].sl) r _ hsm HB3.out).mono ?_;rintro e w5 ⟨rfl,hu5⟩;have HU5:=zq (HU3.out.trans hu5);have hbx:=(hu5.block _ (block_lt HBX3.out) (by simp)).trans HBX3.out;have hpx:=(hu5.block _ (block_lt HPX3.out) (by simp)).trans HPX3.out;clear p0 p1 p2 p3 p4 p5 d8 d12 hu5;obtain ⟨p0,p1,p2,p3,p4,p5⟩:=zjb hbx;have d8:w5.cell? ⟨bx,8,none⟩=some (.bool x.l[k].done):=by rw [zac hpx];rfl
    have d12:w5.cell? ⟨bx,12,none⟩=some (.slice a3 x.l[k].dw.rs.length e3):=by rw [zac hpx];rfl
    clear hbx hpx HBX3 HPX3;cases hq1:decide (r∈zda x.l[k].sl)
    ·have HQ1:=hq1
     cases hd:x.l[k].done
     ·rw [hd] at d8
      have HDN:=zq hd;clear hd
      go_wp2_with fail
      go_roundw
      case rel=>
       refine ⟨k+1,by omega,by go_num,zq (fun j hj hjk=> ?_),HU5⟩;by_cases e:j=k
       ·subst e;simp only [usedP,Pm.pl,Ct.cp];rw [HHS.out,HDN.out];simp_all
       ·exact HA.out j hj (by omega)
      case measure=>simp [intOf];omega
     ·rw [hd] at d8
      have HDN:=zq hd;clear hd;have HB3:=zq ((zh1 (Own.upd0 H0.out HU5.out) k hl).2.1)
      go_wp2_with fail
      refine (zq0 _ x.l[k].dw.rs r _ hdl (by rw [←S3.out];exact HB3.out)).mono ?_;rintro e w4 ⟨rfl,hu4⟩;have HU4:=zq (HU5.out.trans hu4);clear hu4;cases hq:decide (r∈x.l[k].dw.rs)
      ·have HQ2:=hq
       go_wp2_with fail
       go_roundw
       case rel=>
        refine ⟨k+1,by omega,by go_num,zq (fun j hj hjk=> ?_),HU4⟩;by_cases e:j=k
        ·subst e;simp only [usedP,Pm.pl,Ct.cp];rw [HHS.out,HDN.out];simp_all
        ·exact HA.out j hj (by omega)
       case measure=>simp [intOf];omega
      ·have HQ2:=hq
       go_wp2_with fail
       go_ret
       refine ⟨zad ?_,HU0.out.trans HU4.out⟩;symm;exact zt3 (x:=x) hl (by simp only [usedP,Pm.pl,Ct.cp];rw [HHS.out,HDN.out];simp_all)
    ·have HQ1:=hq1
     cases hd:x.l[k].done
     ·have HDN:=zq hd
      clear hd
      go_wp2_with fail
      go_ret
      refine ⟨zad ?_,HU0.out.trans HU5.out⟩;symm;exact zt3 (x:=x) hl (by simp only [usedP,Pm.pl,Ct.cp];rw [HHS.out,HDN.out];simp_all)
     ·have HDN:=zq hd
      clear hd
      go_wp2_with fail
      go_ret
      refine ⟨zad ?_,HU0.out.trans HU5.out⟩;symm;exact zt3 (x:=x) hl (by simp only [usedP,Pm.pl,Ct.cp];rw [HHS.out,HDN.out];simp_all)
  ·have hk16:k=16:=by omega
   subst hk16
   go_wp2_with fail
   go_ret
   refine ⟨zad ?_,HU0.out.trans HU.out⟩;symm;exact zyl (x:=x) HN.out HA.out
end
section
variable {B:Nat} {w0 W W':World} {ss rs:List Res} {x:Ins}
theorem zi5 {seq:Int} {st:In} (h:prepI st seq=none):zbi st seq=st:=by
 unfold zbi;rw [h];cases idx seq<;>rfl
theorem zvz {f:Nat} {st:Sl} {vs:Vs} (h:zbj f st=some vs):st.has=true∧zda st=st.batch∧vs.length≤2*f+1:=by
 unfold zbj at h;split at h
 ·rename_i hh
  exact ⟨hh,by unfold zda;rw [if_pos hh],zqh h⟩
 ·cases h
theorem zlt (h:Own B w0 W (instR x::ss)) {i:Nat} (hi:x.i=i) (seq:Int):Calls Tryz.prog 255 #[.pointer (some ⟨i,0,none⟩),.int .i64 seq] W (CertP B w0 W i (prepI x.st seq) (zbi x.st seq) ss):=by
 subst hi;have hz:=zdg (h.box zct).swap;obtain ⟨-,-,-,-,c4,c5,l1,l2⟩:=zc6 hz;cases hk:idx seq with
 | none=>
  have hs:=zgq hk;have HE:=zq (show prepI x.st seq=none by simp [prepI,ze6 hk]);have HA:=zq (at_no x.i x.b x.cap seq _ hs c5);have H:=zq h;clear hz h hk hs c5 c4;go_enter Tryz.func255,Tryz.ntmps255
  go_wp2_with fail
  refine HA.out.mono ?_;rintro e w' ⟨rfl,rfl⟩
  go_wp2_with fail
  exact bodyPost_ret (v:= .tuple #[ctAgg noCt,.bool false]) (by simp [results,Tryz.results255,go_sem,noCt]) rfl (zc1 (H.out.upd0 ((Upd.refl _ _).alloc _)) HE.out (zi5 HE.out))
 | some k=>
  obtain ⟨hl,hp⟩:=ze7 (oi_ok hz) hk;obtain ⟨i1,i2⟩:=zls hk;have HA:=zq (zpx x.i x.b x.cap seq _ (by omega) (by omega) c5);have hks:seq.toNat-1=k:=by omega
  rw [hks] at HA;have cp:=zl4 hz k hl;have cd:=oi_told hz k hl;have HLF:=zq ((oi_ok hz).lf _ (List.getElem_mem hl));have HF4:=zq (oi_ok hz).f2;cases hon:x.on
  ·rw [hon] at c4
   have HE:=zq (show prepI x.st seq=none by simp only [prepI,hp];simp [Ins.st,hon]);have H:=zq h;clear hz h hk hp i2 hks hon c5 cp cd;go_enter Tryz.func255,Tryz.ntmps255
   go_wp2_with fail
   refine HA.out.mono ?_;rintro e w' ⟨rfl,rfl⟩
   go_wp2_with fail
   exact bodyPost_ret (v:= .tuple #[ctAgg noCt,.bool false]) (by simp [results,Tryz.results255,go_sem,noCt]) rfl (zc1 (H.out.upd0 ((Upd.refl _ _).alloc _)) HE.out (zi5 HE.out))
  rw [hon] at c4;cases hd:x.l[k].told
  ·rw [hd] at cd
   have HC:=zq (zl7 (zd6 hz k hl));have HSM:=zq (ziy (zd6 hz k hl)).1;have HCI:=zq (show prepI x.st seq=(zbj x.f x.l[k].sl).map fun vs=>⟨x.view,x.num,seq,x.l[k].sl.batch,vs⟩ by simp only [prepI,hp];simp [Pm.pl,Ins.st,hd,hon]);have HZ:=zq hz;have H:=zq h;have HK:=zq hk;clear hz h hk hp i2 hks hd hon;go_enter Tryz.func255,Tryz.ntmps255
   go_wp2_with fail
   refine HA.out.mono ?_;rintro e w' ⟨rfl,rfl⟩
   go_wp2_with fail
   refine HC.out.mono ?_;rintro e w2 ⟨u,rfl,hu,hv,n2⟩;rw [HLF.out] at hv⊢;cases hcm:zbj x.f x.l[k].sl with
   | none=>
    rw [hcm] at HCI hv;obtain ⟨co,cav,rfl⟩:=zej hv;have H3:=zq ((zcs HZ.out).upd0 hu);have fz:=fun o=>zab H3.out.drop.blk_out o;have hbx:=H3.out.drop.blk_out;have HBX:=zq hbx;obtain ⟨f0,f1,f2,f3,f4,fl,-⟩:=zb0 hbx;have fz0:=fz 0;have fz1:=fz 1;have fz2:=fz 2;have fz3:=fz 3;have fz4:=fz 4;clear hbx fz hcm hu hv n2 HA HC cp cd c4 c5
    go_wp2_with fail
    have H4:=zq (znm H3.out.swap 0 0 0 (.slice none 0 0) (.slice none 0 0));generalize ((((w2.setCell ⟨W.heap.size,0,none⟩ (.int .i64 0)).setCell ⟨W.heap.size,1,none⟩ (.int .i64 0)).setCell ⟨W.heap.size,2,none⟩ (.int .i64 0)).setCell ⟨W.heap.size,3,none⟩ (.slice none 0 0)).setCell ⟨W.heap.size,4,none⟩ (.slice none 0 0)=w4 at*;clear f0 f1 f2 f3 f4 fl fz0 fz1 fz2 fz3 fz4 HBX;obtain ⟨f0,f1,f2,f3,f4,fl,-⟩:=zb0 H4.out.blk_out;exact bodyPost_ret (v:= .tuple #[ctAgg noCt,.bool false]) (by simp [results,Tryz.results255,go_sem,noCt,f0,f1,f2,f3,f4]) rfl (zc1 H4.out.drop HCI.out (zi5 HCI.out))
   | some vs=>
    rw [hcm] at HCI hv;obtain ⟨s1,s2,s3⟩:=zvz hcm;have HS2:=zq s2;have hnv:vs.length≤100000:=by have:=HF4.out;omega
    obtain ⟨co,cav,rfl⟩:=zej hv;have hz2:=Own.upd0 HZ.out hu;have cp2:=zl4 hz2 k hl;have HC2:=zq (ze5 (zd6 hz2 k hl));have HU:=zq hu;have HV:=zq (show Vts w2 (.slice co vs.length cav) vs from hv);have N2:=zq n2;clear hcm hu hv n2 HA HC cp cd c4 c5 s1 s2 s3 hz2
    go_wp2_with fail
    refine HC2.out.mono ?_;rintro e w2b ⟨ub,rfl,hub,hbb,n1⟩;rw [HS2.out] at hbb;obtain ⟨ao,cap,rfl⟩:=zco hbb;have hsz2:=HU.out.size;have H2:=zq (zix HZ.out (HU.out.trans hub) hbb (Reads.upd HV.out hub (by simp)) (fun k hk=>Nat.le_trans hsz2 (n1 k hk)) N2.out);have hnb:=HSM.out;have HB2:=zq (zvk H2.out.drop.drop);clear hub hbb n1 HC2 cp2 hsz2 HU HV N2
    go_wp2_with fail
    refine (zp3 x.i x.f x.num x.ahead x.view x.on _ seq ao _ cap co _ cav _ HB2.out).mono ?_;rintro e w3 ⟨rfl,hu3⟩;have H3:=zq (H2.out.upd0 hu3);clear hu3 H2 HB2;have ho3:=H3.out.drop.drop;have c1:=oi_at ho3 k hl 1 (by omega);have c2:=oi_at ho3 k hl 2 (by omega);have c3:=oi_at ho3 k hl 3 (by omega);have c4:=oi_at ho3 k hl 4 (by omega);have c5:=oi_at ho3 k hl 5 (by omega);have c6:=oi_at ho3 k hl 6 (by omega);have c7:=oi_at ho3 k hl 7 (by omega);obtain ⟨fzb,-⟩:=oi_fz ho3;have z1:=fzb (k*14+1);have z2:=fzb (k*14+2);have z3:=fzb (k*14+3);have z4:=fzb (k*14+4);have z5:=fzb (k*14+5);have z6:=fzb (k*14+6);have z7:=fzb (k*14+7);clear ho3 fzb;simp only [zam,List.getElem?_cons_succ,List.getElem?_cons_zero] at c1 c2 c3 c4 c5 c6 c7
    go_wp2_with fail
    have H4:=zq (oi_ct H3.out k hl x.view x.num seq hnb hnv);generalize ((((((w3.setCell ⟨x.b,k*14+1,none⟩ (.bool true)).setCell ⟨x.b,k*14+2,none⟩ (.bool true)).setCell ⟨x.b,k*14+3,none⟩ (.int .i64 x.view)).setCell ⟨x.b,k*14+3+1,none⟩ (.int .i64 x.num)).setCell ⟨x.b,k*14+3+2,none⟩ (.int .i64 seq)).setCell ⟨x.b,k*14+3+3,none⟩ (.slice ao x.l[k].sl.batch.length cap)).setCell ⟨x.b,k*14+3+4,none⟩ (.slice co vs.length cav)=w4 at*;clear c1 c2 c3 c4 c5 c6 c7 z1 z2 z3 z4 z5 z6 z7 H3;have hq:=(zh1 H4.out k (by simpa using hl)).1;simp only [List.getElem_set_self] at hq;obtain ⟨q1,q2,q3,q4⟩:=hq;have HF:=zq (zqs ⟨x.view,x.num,seq,.slice ao x.l[k].sl.batch.length cap,.slice co vs.length cav,x.l[k].sl.batch,vs⟩ w4 q1 q3 q2 q4);clear q1 q2 q3 q4;have H4L:=zq (show W.heap.size<w4.heap.size from block_lt (zcs H4.out).drop.blk_out);refine HF.out.mono ?_;rintro e w5 ⟨⟨view',inst',seq',vb',vv',rs',vs'⟩,rfl,hcp,hu5,hb5,hv5,nb,nv⟩;simp only at hb5 hv5 nb nv;obtain ⟨ao6,cap6,rfl⟩:=zco hb5;obtain ⟨co6,cav6,rfl⟩:=zej hv5;have H5:=zq ((zix (zcs H4.out).swap hu5 hb5 hv5 nb nv).rot);have HCP:=zq hcp;have HB5:=zq hb5;have HV5:=zq hv5;have NB:=zq nb;have NV:=zq nv;clear hcp hu5 hb5 hv5 nb nv H4 HF;obtain ⟨f0,f1,f2,f3,f4,fl,fz⟩:=zb0 H5.out.blk_out;have fz0:=fz 0;have fz1:=fz 1;have fz2:=fz 2;have fz3:=fz 3;have fz4:=fz 4;clear fz
    go_wp2_with fail
    have H6:=zq (znm H5.out view' inst' seq' (.slice ao6 rs'.length cap6) (.slice co6 vs'.length cav6));have HU6:=zq (zyj w5 W.heap.size view' inst' seq' (.slice ao6 rs'.length cap6) (.slice co6 vs'.length cav6));generalize ((((w5.setCell ⟨W.heap.size,0,none⟩ (.int .i64 view')).setCell ⟨W.heap.size,1,none⟩ (.int .i64 inst')).setCell ⟨W.heap.size,2,none⟩ (.int .i64 seq')).setCell ⟨W.heap.size,3,none⟩ (.slice ao6 rs'.length cap6)).setCell ⟨W.heap.size,4,none⟩ (.slice co6 vs'.length cav6)=w6 at*;clear f0 f1 f2 f3 f4 fl fz0 fz1 fz2 fz3 fz4 H5;obtain ⟨f0,f1,f2,f3,f4,fl,-⟩:=zb0 H6.out.blk_out;refine bodyPost_ret (v:= .tuple #[ctAgg ⟨view',inst',seq',.slice ao6 rs'.length cap6,.slice co6 vs'.length cav6,rs',vs'⟩,.bool true]) (by simp [results,Tryz.results255,go_sem,f0,f1,f2,f3,f4]) rfl ?_;have hcp:=HCP.out;simp only [Ct.cp,Cp.mk.injEq] at hcp;obtain ⟨e1,e2,e3,e4,e5⟩:=hcp;have hnew: ∀(v:Value),(∀k∈blkOf v,w4.heap.size≤k)→(∀k∈blkOf v,W.heap.size≤k)∧ ∀k∈blkOf v,k∉[W.heap.size]:=fun v hv=>⟨fun k hk=>by have:=hv k hk;have:=H4L.out;omega,fun k hk hn=>by have:=hv k hk;have:=H4L.out;simp at hn;omega⟩;refine ⟨⟨view',inst',seq',.slice ao6 rs'.length cap6,.slice co6 vs'.length cav6,rs',vs'⟩,?_,?_,⟨by simp only [e4];exact hnb,by simp only [e5];exact hnv⟩,HB5.out.upd HU6.out (hnew _ NB.out).2,Reads.upd HV5.out HU6.out (hnew _ NV.out).2,(hnew _ NB.out).1,(hnew _ NV.out).1,
     x.sl k {x.l[k] with told:=true,has:=true,ct:=⟨x.view,x.num,seq,.slice ao x.l[k].sl.batch.length cap,.slice co vs.length cav,x.l[k].sl.batch,vs⟩},rfl,?_,H6.out.drop⟩
    ·rw [HCI.out];rfl
    ·rw [HCI.out]
     simp only [Ct.cp,Option.map_some,Option.getD_some,Cp.mk.injEq];exact ⟨e1,e2,e3,e4,e5⟩
    ·rw [show zbi x.st seq=x.st.upd k fun p=> {p with told:=true,has:=true,ct:=⟨x.view,x.num,seq,x.l[k].sl.batch,vs⟩} by simp [zbi,HK.out,HCI.out]]
     exact zs7 x k hl _ _ rfl
  ·rw [hd] at cd
   have HE:=zq (show prepI x.st seq=none by simp only [prepI,hp];simp [Pm.pl,hd]);have H:=zq h;clear hz h hk hp i2 hks hd hon c5 cp;go_enter Tryz.func255,Tryz.ntmps255
   go_wp2_with fail
   refine HA.out.mono ?_;rintro e w' ⟨rfl,rfl⟩
   go_wp2_with fail
   exact bodyPost_ret (v:= .tuple #[ctAgg noCt,.bool false]) (by simp [results,Tryz.results255,go_sem,noCt]) rfl (zc1 (H.out.upd0 ((Upd.refl _ _).alloc _)) HE.out (zi5 HE.out))
theorem zlg {i:Nat} {st:In} (h:AtI B w0 W i st ss) (seq:Int):Calls Tryz.prog 255 #[.pointer (some ⟨i,0,none⟩),.int .i64 seq] W fun e w'=> ∃c:Ct,e= .returned (.tuple #[ctAgg c,.bool (prepI st seq).isSome])∧Told W w' (prepI st seq) c∧
  AtI B w0 w' i (zbi st seq) (redR c.vv 2 c.vs.length (zan c.vs)::redR c.vb 6 c.rs.length (zal c.rs)::ss):=by
 obtain ⟨x,h1,rfl,h3⟩:=h;refine (zlt h3 h1 seq).mono ?_;rintro e w' ⟨c,he,hc,hn,hb,hv,n1,n2,x',e1,e2,e3⟩;exact ⟨c,he,⟨hc,hn,hb,hv,n1,n2⟩,x',e1,e2,e3.rot⟩
theorem zof {i:Nat} {st:In} (h:AtI B w0 W i st ss) (seq:Int):Calls Tryz.prog 256 #[.pointer (some ⟨i,0,none⟩),.int .i64 seq] W fun e w'=> ∃c:Ct,e= .returned (.tuple #[ctAgg c,.bool (commI st seq).isSome])∧Told W w' (commI st seq) c∧
  AtI B w0 w' i (zbk st seq) (redR c.vv 2 c.vs.length (zan c.vs)::redR c.vb 6 c.rs.length (zal c.rs)::ss):=by
 obtain ⟨x,h1,rfl,h3⟩:=h;refine (zou h3 h1 seq).mono ?_;rintro e w' ⟨c,he,hc,hn,hb,hv,n1,n2,x',e1,e2,e3⟩;exact ⟨c,he,⟨hc,hn,hb,hv,n1,n2⟩,x',e1,e2,e3.rot⟩
end
section
variable {B:Nat} {w0 W W':World} {ss rs:List Res} {x:Ins}
def ctsR (cts:List Ct):Res:=imm (fun w D=> ∀c∈cts,CtIn w c D) (fun h hk hs c hc=>(h c hc).dep hk hs)
theorem cts_add {cts:List Ct} {c:Ct} (h:Own B w0 W (redR c.vv 2 c.vs.length (zan c.vs)::redR c.vb 6 c.rs.length (zal c.rs)::ctsR cts::rs)) (hn:c.rs.length≤100000) (hm:c.vs.length≤100000):Own B w0 W (ctsR (cts++[c])::rs):=by
 have h1:=h.rot;refine (h1.alter (r':=ctsR (cts++[c])) ?_ (by simp [ctsR,imm])).rot'.drop.drop;obtain ⟨D,⟨q1,q2⟩,q3,q4⟩:=h1.head;obtain ⟨D1,⟨v1,v2⟩,v3,_⟩:=(h1.all (redR c.vv 2 c.vs.length (zan c.vs)) (List.mem_cons_of_mem _ List.mem_cons_self)).1;obtain ⟨D2,⟨b1,b2⟩,b3,_⟩:=(h1.all (redR c.vb 6 c.rs.length (zal c.rs)) (List.mem_cons_of_mem _ (List.mem_cons_of_mem _ List.mem_cons_self))).1;refine ⟨D++(D1++D2),⟨fun c' hc'=> ?_,fun k hk=> ?_⟩,fun k hk=> ?_,q4⟩
 ·rcases List.mem_append.1 hc' with hc' | hc'
  ·exact (q1 c' hc').mono (by simp+contextual)
  ·simp at hc';subst hc'
   exact ⟨b1.mono (by simp+contextual),hn,v1.mono (by simp+contextual),hm⟩
 ·rcases List.mem_append.1 hk with hk | hk
  ·exact q2 k hk
  ·rcases List.mem_append.1 hk with hk | hk
   ·exact v2 k hk
   ·exact b2 k hk
 ·rcases List.mem_append.1 hk with hk | hk
  ·exact q3 k hk
  ·rcases List.mem_append.1 hk with hk | hk
   ·exact v3 k hk
   ·exact b3 k hk
theorem zok {c:Ct} {a1:Option Addr} {n1 c1:Nat} {a2:Option Addr} {n2 c2:Nat} (h1:c.vb= .slice a1 n1 c1) (h2:c.vv= .slice a2 n2 c2): ∀u∈zar c,u.oneCell'=true:=by
 intro u hu;simp only [zar,h1,h2,List.mem_cons,List.not_mem_nil,or_false] at hu;rcases hu with rfl | rfl | rfl | rfl | rfl<;>rfl
end
end Go.Proofs.YtannckelmojkoaaGreat
