/- Parts of the proof, one behind the other. -/
import Derived.Test.YtannckelmojkoaaGreatOrdB6
set_option maxHeartbeats 32000000
set_option maxRecDepth 100000
namespace Go.Proofs.YtannckelmojkoaaGreat
open Go.RowKit Go.Heap
def AtI (B:Nat) (w0 w:World) (i:Nat) (st:In) (ss:List Res):Prop:= ∃x:Ins,x.i=i∧x.st=st∧Own B w0 w (instR x::ss)
section
variable {B:Nat} {w0 W W':World} {ss rs:List Res} {x:Ins} {i:Nat} {st:In}
theorem AtI.upd0 (h:AtI B w0 W i st ss) (hu:Upd [] W W'):AtI B w0 W' i st ss:=let ⟨x,h1,h2,h3⟩:=h;⟨x,h1,h2,h3.upd0 hu⟩
theorem AtI.alloc (h:AtI B w0 W i st ss) (o:Obj):AtI B w0 (W.alloc o) i st ss:=h.upd0 ((Upd.refl _ _).alloc o)
theorem AtI.drew (h:AtI B w0 W i st ss):AtI B w0 W.drew i st ss:=h.upd0 (Upd.refl _ _).drew
theorem AtI.below (h:AtI B w0 W i st ss):Below B w0 W:=let ⟨_,_,_,h3⟩:=h;h3.below
theorem AtI.ss_own (h:AtI B w0 W i st ss):Own B w0 W ss:=let ⟨_,_,_,h3⟩:=h;h3.drop
theorem ai_vote (h:AtI B w0 W i st ss) (kind seq node sl:Int) (v:Value) (l:List Rq) (hb:Bat W v l) (hn:l.length≤100000):
  Calls Tryz.prog 236 #[.pointer (some ⟨i,0,none⟩),.int .i64 kind,.int .i64 seq,.int .i64 node,.int .i64 sl,v] W fun e w'=>e= .returned (.bool (voteB st kind seq node))∧AtI B w0 w' i (voteI st kind seq node sl l) ss:=by
 obtain ⟨x,h1,rfl,h3⟩:=h
 exact zy3 h3 h1 kind seq node sl v l hb hn
theorem ai_pre (h:AtI B w0 W i st ss) (seq:Int) (v:Value) (l:List Rq) (hb:Bat W v l) (hn:l.length≤100000):
  Calls Tryz.prog 159 #[.pointer (some ⟨i,0,none⟩),.int .i64 seq,v] W fun e w'=>e= .returned (.bool (preB st seq))∧AtI B w0 w' i (preI st seq l) ss:=by
 obtain ⟨x,h1,rfl,h3⟩:=h
 exact ins_pre h3 h1 seq v l hb hn
theorem zw2 (h:AtI B w0 W i st ss):Calls Tryz.prog 156 #[.pointer (some ⟨i,0,none⟩)] W fun e w'=>e= .returned (.int .i64 (doneI st))∧W=w':=by
 obtain ⟨x,h1,rfl,h3⟩:=h
 exact zl3 h3 h1
theorem ai_next (h:AtI B w0 W i st ss):Calls Tryz.prog 154 #[.pointer (some ⟨i,0,none⟩)] W fun e w'=>e= .returned (.int .i64 (nextI st))∧Upd [] W w':=by
 obtain ⟨x,h1,rfl,h3⟩:=h
 exact zy2 h3 h1
theorem zgy (h:AtI B w0 W i st ss):Calls Tryz.prog 73 #[.pointer (some ⟨i,0,none⟩)] W fun e w'=>e= .returned (.bool st.on)∧W=w':=by
 obtain ⟨x,h1,rfl,h3⟩:=h
 exact zdg h3 h1
theorem zm9 (h:AtI B w0 W i st ss) (seq:Int):Calls Tryz.prog 220 #[.pointer (some ⟨i,0,none⟩),.int .i64 seq] W (zwx W (zbq st seq)):=by
 obtain ⟨x,h1,rfl,h3⟩:=h
 exact zrb h3 h1 seq
def Told (W w':World) (r:Option Cp) (c:Ct):Prop:=
 c.cp=r.getD noCp∧(c.rs.length≤100000∧c.vs.length≤100000)∧Bat w' c.vb c.rs∧Vts w' c.vv c.vs∧(∀k∈blkOf c.vb,W.heap.size≤k)∧ ∀k∈blkOf c.vv,W.heap.size≤k
theorem zwq {r:Option Cp} {c:Ct} {p:Cp} (h:Told W W' r c) (hp:r.getD noCp=p): ∃ao cap co cav,c=⟨p.view,p.inst,p.seq,.slice ao p.rs.length cap,.slice co p.vs.length cav,p.rs,p.vs⟩∧(p.rs.length≤100000∧p.vs.length≤100000)∧
  Bat W' (.slice ao p.rs.length cap) p.rs∧Vts W' (.slice co p.vs.length cav) p.vs∧(∀k∈blkOf (.slice ao p.rs.length cap),W.heap.size≤k)∧ ∀k∈blkOf (.slice co p.vs.length cav),W.heap.size≤k:=by
 subst hp
 obtain ⟨view,inst,seq,vb,vv,rs,vs⟩:=c
 obtain ⟨h1,h2,h3,h4,h5,h6⟩:=h
 simp only [Ct.cp] at h1 h2 h3 h4 h5 h6
 rw [←h1]
 obtain ⟨ao,cap,rfl⟩:=zcf h3
 obtain ⟨co,cav,rfl⟩:=zes h4
 exact ⟨ao,cap,co,cav,rfl,h2,h3,h4,h5,h6⟩
end
section
variable {B:Nat} {w0 W W':World} {ss rs:List Res} {x:Ins}
end
section
variable {B:Nat} {w0 W W':World} {ss rs:List Res} {x:Ins}
theorem zga (h:Own B w0 W (instR x::ss)) {i:Nat} (hi:x.i=i) (seq:Int):Calls Tryz.prog 110 #[.pointer (some ⟨i,0,none⟩),.int .i64 seq] W (CertP B w0 W i (zap x.st seq) x.st ss):=by
 subst hi
 have hz:=zdo (h.box zct).swap
 obtain ⟨-,-,-,-,-,c5,l1,l2⟩:=zdf hz
 cases hk:idx seq with
 | none=>
  have hs:=zfv hk
  have HE:=Lib.hid (show zap x.st seq=none by simp [zap,zeu hk])
  have HA:=Lib.hid (at_no x.i x.b x.cap seq _ hs c5)
  have H:=Lib.hid h
  clear hz h hk hs c5
  go_enter Tryz.func110,Tryz.ntmps110
  go_wp2_with fail
  refine HA.out.mono ?_
  rintro e w' ⟨rfl,rfl⟩
  go_wp2_with fail
  exact bodyPost_ret (v:= .tuple #[ctAgg noCt,.bool false]) (by simp [results,Tryz.results110,go_sem,noCt]) rfl (zb4 (H.out.upd0 ((Upd.refl _ _).alloc _)) HE.out rfl)
 | some k=>
  obtain ⟨hl,hp⟩:=zev (oi_ok hz) hk
  obtain ⟨i1,i2⟩:=zkh hk
  have HA:=Lib.hid (zos x.i x.b x.cap seq _ (by omega) (by omega) c5)
  have hks:seq.toNat-1=k:=by omega
  rw [hks] at HA
  have cd:=zrw hz k hl
  cases hd:x.l[k].done
  ·rw [hd] at cd
   have HE:=Lib.hid (show zap x.st seq=none by simp only [zap,hp];simp [Pm.pl,hd])
   have H:=Lib.hid h
   clear hz h hk hp i2 hks hd c5
   go_enter Tryz.func110,Tryz.ntmps110
   go_wp2_with fail
   refine HA.out.mono ?_
   rintro e w' ⟨rfl,rfl⟩
   go_wp2_with fail
   exact bodyPost_ret (v:= .tuple #[ctAgg noCt,.bool false]) (by simp [results,Tryz.results110,go_sem,noCt]) rfl (zb4 (H.out.upd0 ((Upd.refl _ _).alloc _)) HE.out rfl)
  ·rw [hd] at cd
   have HCI:=Lib.hid (show zap x.st seq=some x.l[k].dw.cp by simp only [zap,hp];simp [Pm.pl,hd])
   have c9:=oi_at hz k hl 9 (by omega)
   have c10:=oi_at hz k hl 10 (by omega)
   have c11:=oi_at hz k hl 11 (by omega)
   have c12:=oi_at hz k hl 12 (by omega)
   have c13:=oi_at hz k hl 13 (by omega)
   simp only [zal,List.getElem?_cons_succ,List.getElem?_cons_zero] at c9 c10 c11 c12 c13
   obtain ⟨-,q1,q2,q3,q4⟩:=zrv hz k hl
   have HF:=Lib.hid (zl2 x.l[k].dw _ q1 q3 q2 q4)
   have HZ:=Lib.hid hz
   clear hz h hk hp i2 hks hd c5 q1 q2
   generalize x.l[k].dw=c at*
   go_enter Tryz.func110,Tryz.ntmps110
   go_wp2_with fail
   refine HA.out.mono ?_
   rintro e w' ⟨rfl,rfl⟩
   go_wp2_with fail
   refine HF.out.mono ?_
   rintro e w5 ⟨⟨view',inst',seq',vb',vv',rs',vs'⟩,rfl,hcp,hu5,hb5,hv5,nb,nv⟩
   simp only at hb5 hv5 nb nv
   obtain ⟨ao6,cap6,rfl⟩:=zcf hb5
   obtain ⟨co6,cav6,rfl⟩:=zes hv5
   have H5:=Lib.hid ((zhm (zc3 HZ.out).swap hu5 hb5 hv5 nb nv).rot)
   have HCP:=Lib.hid hcp
   have HB5:=Lib.hid hb5
   have HV5:=Lib.hid hv5
   have NB:=Lib.hid nb
   have NV:=Lib.hid nv
   clear hcp hu5 hb5 hv5 nb nv HZ HF c9 c10 c11 c12 c13 cd
   obtain ⟨f0,f1,f2,f3,f4,fl,fz⟩:=zbr H5.out.blk_out
   have fz0:=fz 0
   have fz1:=fz 1
   have fz2:=fz 2
   have fz3:=fz 3
   have fz4:=fz 4
   clear fz
   go_wp2_with fail
   have H6:=Lib.hid (zkt H5.out view' inst' seq' (.slice ao6 rs'.length cap6) (.slice co6 vs'.length cav6))
   have HU6:=Lib.hid (ztg w5 W.heap.size view' inst' seq' (.slice ao6 rs'.length cap6) (.slice co6 vs'.length cav6))
   generalize ((((w5.setCell ⟨W.heap.size,0,none⟩ (.int .i64 view')).setCell ⟨W.heap.size,1,none⟩ (.int .i64 inst')).setCell ⟨W.heap.size,2,none⟩ (.int .i64 seq')).setCell ⟨W.heap.size,3,none⟩ (.slice ao6 rs'.length cap6)).setCell ⟨W.heap.size,4,none⟩ (.slice co6 vs'.length cav6)=w6 at*
   clear f0 f1 f2 f3 f4 fl fz0 fz1 fz2 fz3 fz4 H5
   obtain ⟨f0,f1,f2,f3,f4,fl,-⟩:=zbr H6.out.blk_out
   refine bodyPost_ret (v:= .tuple #[ctAgg ⟨view',inst',seq',.slice ao6 rs'.length cap6,.slice co6 vs'.length cav6,rs',vs'⟩,.bool true]) (by simp [results,Tryz.results110,go_sem,f0,f1,f2,f3,f4]) rfl ?_
   have hcp:=HCP.out
   have e4:rs'=c.rs:=congrArg Cp.rs hcp
   have e5:vs'=c.vs:=congrArg Cp.vs hcp
   have hnew: ∀(v:Value),(∀k∈blkOf v,(W.alloc zct).heap.size≤k)→(∀k∈blkOf v,W.heap.size≤k)∧ ∀k∈blkOf v,k∉[W.heap.size]:=fun v hv=>⟨fun k hk=>by have:=hv k hk;simp at this;omega,fun k hk hn=>by have:=hv k hk;simp at this hn;omega⟩
   refine ⟨⟨view',inst',seq',.slice ao6 rs'.length cap6,.slice co6 vs'.length cav6,rs',vs'⟩,?_,?_,⟨by simp only [e4];exact q3,by simp only [e5];exact q4⟩,HB5.out.upd HU6.out (hnew _ NB.out).2,Reads.upd HV5.out HU6.out (hnew _ NV.out).2,(hnew _ NB.out).1,(hnew _ NV.out).1,x,rfl,rfl,H6.out.drop⟩
   ·rw [HCI.out];rfl
   ·rw [HCI.out];exact hcp
theorem zlr {i:Nat} {st:In} (h:AtI B w0 W i st ss) (seq:Int):Calls Tryz.prog 110 #[.pointer (some ⟨i,0,none⟩),.int .i64 seq] W fun e w'=> ∃c:Ct,e= .returned (.tuple #[ctAgg c,.bool (zap st seq).isSome])∧Told W w' (zap st seq) c∧AtI B w0 w' i st ss:=by
 obtain ⟨x,h1,rfl,h3⟩:=h
 refine (zga h3 h1 seq).mono ?_
 rintro e w' ⟨c,he,hc,hn,hb,hv,n1,n2,x',e1,e2,e3⟩
 exact ⟨c,he,⟨hc,hn,hb,hv,n1,n2⟩,x',e1,e2,e3.drop.drop⟩
end
def cs3 (b:List Rq) (n:Nat):List Vt:=(List.range 4).map fun i=>if i<n then ⟨true,1,b⟩ else noVt
def vPl (k n:Nat):Pl:= {zbf 1 with sl:= {zcb 1 with cs:=cs3 [rq 0 k] n}}
def gCp (k:Nat):Cp:=⟨0,0,k,[rq 0 k],[(0,1),(1,1),(2,1)]⟩
def gPl (k:Nat):Pl:= {vPl k 3 with done:=true,dw:=gCp k}
def gp (h:Nat→Bool):In:=⟨1,0,1,0,true,(List.range 16).map fun j=>if h (j+1) then gPl (j+1) else zbf 1⟩
def vk (h:Nat→Bool) (k n:Nat):In:=(gp h).upd (k-1) fun p=>if h k then p else vPl k n
section
variable {B:Nat} {w0 W W':World} {ss rs:List Res} {x:Ins}
end
abbrev rqBox (r:Rq):Obj:= .cells #[.int .i64 r.client,.int .i64 r.time,.int .i64 r.kind,.int .i64 r.key,.int .i64 r.val,.int .i64 r.sl] 38 (0,0)
theorem zf1 {w:World} {b:Nat} {r:Rq} (h:w.heap[b]?=some (rqBox r)):w.cell? ⟨b,0,none⟩=some (.int .i64 r.client)∧w.cell? ⟨b,1,none⟩=some (.int .i64 r.time)∧w.cell? ⟨b,2,none⟩=some (.int .i64 r.kind)∧
  w.cell? ⟨b,3,none⟩=some (.int .i64 r.key)∧w.cell? ⟨b,4,none⟩=some (.int .i64 r.val)∧w.cell? ⟨b,5,none⟩=some (.int .i64 r.sl):=
 ⟨by rw [zab h];rfl,by rw [zab h];rfl,by rw [zab h];rfl,by rw [zab h];rfl,by rw [zab h];rfl,by rw [zab h];rfl⟩
section
variable {B:Nat} {w0 W W':World} {ss rs:List Res}
end
section
variable {B:Nat} {w0 W W':World} {ss rs:List Res} {x:Ins}
theorem zjl {seq:Int} {st:In} (h:prepI st seq=none):za6 st seq=st:=by
 unfold za6;rw [h];cases idx seq<;>rfl
theorem zv1 {f:Nat} {st:Sl} {vs:Vs} (h:zbe f st=some vs):st.has=true∧zeb st=st.batch∧vs.length≤2*f+1:=by
 unfold zbe at h
 split at h
 ·rename_i hh
  exact ⟨hh,by unfold zeb;rw [if_pos hh],zqt h⟩
 ·cases h
theorem zl4 (h:Own B w0 W (instR x::ss)) {i:Nat} (hi:x.i=i) (seq:Int):Calls Tryz.prog 255 #[.pointer (some ⟨i,0,none⟩),.int .i64 seq] W (CertP B w0 W i (prepI x.st seq) (za6 x.st seq) ss):=by
 subst hi
 have hz:=zdo (h.box zct).swap
 obtain ⟨-,-,-,-,c4,c5,l1,l2⟩:=zdf hz
 cases hk:idx seq with
 | none=>
  have hs:=zfv hk
  have HE:=Lib.hid (show prepI x.st seq=none by simp [prepI,zeu hk])
  have HA:=Lib.hid (at_no x.i x.b x.cap seq _ hs c5)
  have H:=Lib.hid h
  clear hz h hk hs c5 c4
  go_enter Tryz.func255,Tryz.ntmps255
  go_wp2_with fail
  refine HA.out.mono ?_
  rintro e w' ⟨rfl,rfl⟩
  go_wp2_with fail
  exact bodyPost_ret (v:= .tuple #[ctAgg noCt,.bool false]) (by simp [results,Tryz.results255,go_sem,noCt]) rfl (zb4 (H.out.upd0 ((Upd.refl _ _).alloc _)) HE.out (zjl HE.out))
 | some k=>
  obtain ⟨hl,hp⟩:=zev (oi_ok hz) hk
  obtain ⟨i1,i2⟩:=zkh hk
  have HA:=Lib.hid (zos x.i x.b x.cap seq _ (by omega) (by omega) c5)
  have hks:seq.toNat-1=k:=by omega
  rw [hks] at HA
  have cp:=zmi hz k hl
  have cd:=oi_told hz k hl
  have HLF:=Lib.hid ((oi_ok hz).lf _ (List.getElem_mem hl))
  have HF4:=Lib.hid (oi_ok hz).f2
  cases hon:x.on
  ·rw [hon] at c4
   have HE:=Lib.hid (show prepI x.st seq=none by simp only [prepI,hp];simp [Ins.st,hon])
   have H:=Lib.hid h
   clear hz h hk hp i2 hks hon c5 cp cd
   go_enter Tryz.func255,Tryz.ntmps255
   go_wp2_with fail
   refine HA.out.mono ?_
   rintro e w' ⟨rfl,rfl⟩
   go_wp2_with fail
   exact bodyPost_ret (v:= .tuple #[ctAgg noCt,.bool false]) (by simp [results,Tryz.results255,go_sem,noCt]) rfl (zb4 (H.out.upd0 ((Upd.refl _ _).alloc _)) HE.out (zjl HE.out))
  rw [hon] at c4
  cases hd:x.l[k].told
  ·rw [hd] at cd
   have HC:=Lib.hid (zmp (zfh hz k hl))
   have HSM:=Lib.hid (zn0 (zfh hz k hl)).1
   have HCI:=Lib.hid (show prepI x.st seq=(zbe x.f x.l[k].sl).map fun vs=>⟨x.view,x.num,seq,x.l[k].sl.batch,vs⟩ by simp only [prepI,hp];simp [Pm.pl,Ins.st,hd,hon])
   have HZ:=Lib.hid hz
   have H:=Lib.hid h
   have HK:=Lib.hid hk
   clear hz h hk hp i2 hks hd hon
   go_enter Tryz.func255,Tryz.ntmps255
   go_wp2_with fail
   refine HA.out.mono ?_
   rintro e w' ⟨rfl,rfl⟩
   go_wp2_with fail
   refine HC.out.mono ?_
   rintro e w2 ⟨u,rfl,hu,hv,n2⟩
   rw [HLF.out] at hv⊢
   cases hcm:zbe x.f x.l[k].sl with
   | none=>
    rw [hcm] at HCI hv
    obtain ⟨co,cav,rfl⟩:=zes hv
    have H3:=Lib.hid ((zc3 HZ.out).upd0 hu)
    have fz:=fun o=>zac H3.out.drop.blk_out o
    have hbx:=H3.out.drop.blk_out
    have HBX:=Lib.hid hbx
    obtain ⟨f0,f1,f2,f3,f4,fl,-⟩:=zbr hbx
    have fz0:=fz 0
    have fz1:=fz 1
    have fz2:=fz 2
    have fz3:=fz 3
    have fz4:=fz 4
    clear hbx fz hcm hu hv n2 HA HC cp cd c4 c5
    go_wp2_with fail
    have H4:=Lib.hid (zkt H3.out.swap 0 0 0 (.slice none 0 0) (.slice none 0 0))
    generalize ((((w2.setCell ⟨W.heap.size,0,none⟩ (.int .i64 0)).setCell ⟨W.heap.size,1,none⟩ (.int .i64 0)).setCell ⟨W.heap.size,2,none⟩ (.int .i64 0)).setCell ⟨W.heap.size,3,none⟩ (.slice none 0 0)).setCell ⟨W.heap.size,4,none⟩ (.slice none 0 0)=w4 at*
    clear f0 f1 f2 f3 f4 fl fz0 fz1 fz2 fz3 fz4 HBX
    obtain ⟨f0,f1,f2,f3,f4,fl,-⟩:=zbr H4.out.blk_out
    exact bodyPost_ret (v:= .tuple #[ctAgg noCt,.bool false]) (by simp [results,Tryz.results255,go_sem,noCt,f0,f1,f2,f3,f4]) rfl (zb4 H4.out.drop HCI.out (zjl HCI.out))
   | some vs=>
    rw [hcm] at HCI hv
    obtain ⟨s1,s2,s3⟩:=zv1 hcm
    have HS2:=Lib.hid s2
    have hnv:vs.length≤100000:=by have:=HF4.out;omega
    obtain ⟨co,cav,rfl⟩:=zes hv
    have hz2:=Own.upd0 HZ.out hu
    have cp2:=zmi hz2 k hl
    have HC2:=Lib.hid (zhl (zfh hz2 k hl))
    have HU:=Lib.hid hu
    have HV:=Lib.hid (show Vts w2 (.slice co vs.length cav) vs from hv)
    have N2:=Lib.hid n2
    clear hcm hu hv n2 HA HC cp cd c4 c5 s1 s2 s3 hz2
    go_wp2_with fail
    refine HC2.out.mono ?_
    rintro e w2b ⟨ub,rfl,hub,hbb,n1⟩
    rw [HS2.out] at hbb
    obtain ⟨ao,cap,rfl⟩:=zcf hbb
    have hsz2:=HU.out.size
    have H2:=Lib.hid (zhm HZ.out (HU.out.trans hub) hbb (Reads.upd HV.out hub (by simp)) (fun k hk=>Nat.le_trans hsz2 (n1 k hk)) N2.out)
    have hnb:=HSM.out
    have HB2:=Lib.hid (zvi H2.out.drop.drop)
    clear hub hbb n1 HC2 cp2 hsz2 HU HV N2
    go_wp2_with fail
    refine (zqc x.i x.f x.num x.ahead x.view x.on _ seq ao _ cap co _ cav _ HB2.out).mono ?_
    rintro e w3 ⟨rfl,hu3⟩
    have H3:=Lib.hid (H2.out.upd0 hu3)
    clear hu3 H2 HB2
    have ho3:=H3.out.drop.drop
    have c1:=oi_at ho3 k hl 1 (by omega)
    have c2:=oi_at ho3 k hl 2 (by omega)
    have c3:=oi_at ho3 k hl 3 (by omega)
    have c4:=oi_at ho3 k hl 4 (by omega)
    have c5:=oi_at ho3 k hl 5 (by omega)
    have c6:=oi_at ho3 k hl 6 (by omega)
    have c7:=oi_at ho3 k hl 7 (by omega)
    obtain ⟨fzb,-⟩:=oi_fz ho3
    have z1:=fzb (k*14+1)
    have z2:=fzb (k*14+2)
    have z3:=fzb (k*14+3)
    have z4:=fzb (k*14+4)
    have z5:=fzb (k*14+5)
    have z6:=fzb (k*14+6)
    have z7:=fzb (k*14+7)
    clear ho3 fzb
    simp only [zal,List.getElem?_cons_succ,List.getElem?_cons_zero] at c1 c2 c3 c4 c5 c6 c7
    go_wp2_with fail
    have H4:=Lib.hid (oi_ct H3.out k hl x.view x.num seq hnb hnv)
    generalize ((((((w3.setCell ⟨x.b,k*14+1,none⟩ (.bool true)).setCell ⟨x.b,k*14+2,none⟩ (.bool true)).setCell ⟨x.b,k*14+3,none⟩ (.int .i64 x.view)).setCell ⟨x.b,k*14+3+1,none⟩ (.int .i64 x.num)).setCell ⟨x.b,k*14+3+2,none⟩ (.int .i64 seq)).setCell ⟨x.b,k*14+3+3,none⟩ (.slice ao x.l[k].sl.batch.length cap)).setCell ⟨x.b,k*14+3+4,none⟩ (.slice co vs.length cav)=w4 at*
    clear c1 c2 c3 c4 c5 c6 c7 z1 z2 z3 z4 z5 z6 z7 H3
    have hq:=(zrv H4.out k (by simpa using hl)).1
    simp only [List.getElem_set_self] at hq
    obtain ⟨q1,q2,q3,q4⟩:=hq
    have HF:=Lib.hid (zl2 ⟨x.view,x.num,seq,.slice ao x.l[k].sl.batch.length cap,.slice co vs.length cav,x.l[k].sl.batch,vs⟩ w4 q1 q3 q2 q4)
    clear q1 q2 q3 q4
    have H4L:=Lib.hid (show W.heap.size<w4.heap.size from block_lt (zc3 H4.out).drop.blk_out)
    refine HF.out.mono ?_
    rintro e w5 ⟨⟨view',inst',seq',vb',vv',rs',vs'⟩,rfl,hcp,hu5,hb5,hv5,nb,nv⟩
    simp only at hb5 hv5 nb nv
    obtain ⟨ao6,cap6,rfl⟩:=zcf hb5
    obtain ⟨co6,cav6,rfl⟩:=zes hv5
    have H5:=Lib.hid ((zhm (zc3 H4.out).swap hu5 hb5 hv5 nb nv).rot)
    have HCP:=Lib.hid hcp
    have HB5:=Lib.hid hb5
    have HV5:=Lib.hid hv5
    have NB:=Lib.hid nb
    have NV:=Lib.hid nv
    clear hcp hu5 hb5 hv5 nb nv H4 HF
    obtain ⟨f0,f1,f2,f3,f4,fl,fz⟩:=zbr H5.out.blk_out
    have fz0:=fz 0
    have fz1:=fz 1
    have fz2:=fz 2
    have fz3:=fz 3
    have fz4:=fz 4
    clear fz
    go_wp2_with fail
    have H6:=Lib.hid (zkt H5.out view' inst' seq' (.slice ao6 rs'.length cap6) (.slice co6 vs'.length cav6))
    have HU6:=Lib.hid (ztg w5 W.heap.size view' inst' seq' (.slice ao6 rs'.length cap6) (.slice co6 vs'.length cav6))
    generalize ((((w5.setCell ⟨W.heap.size,0,none⟩ (.int .i64 view')).setCell ⟨W.heap.size,1,none⟩ (.int .i64 inst')).setCell ⟨W.heap.size,2,none⟩ (.int .i64 seq')).setCell ⟨W.heap.size,3,none⟩ (.slice ao6 rs'.length cap6)).setCell ⟨W.heap.size,4,none⟩ (.slice co6 vs'.length cav6)=w6 at*
    clear f0 f1 f2 f3 f4 fl fz0 fz1 fz2 fz3 fz4 H5
    obtain ⟨f0,f1,f2,f3,f4,fl,-⟩:=zbr H6.out.blk_out
    refine bodyPost_ret (v:= .tuple #[ctAgg ⟨view',inst',seq',.slice ao6 rs'.length cap6,.slice co6 vs'.length cav6,rs',vs'⟩,.bool true]) (by simp [results,Tryz.results255,go_sem,f0,f1,f2,f3,f4]) rfl ?_
    have hcp:=HCP.out
    simp only [Ct.cp,Cp.mk.injEq] at hcp
    obtain ⟨e1,e2,e3,e4,e5⟩:=hcp
    have hnew: ∀(v:Value),(∀k∈blkOf v,w4.heap.size≤k)→(∀k∈blkOf v,W.heap.size≤k)∧ ∀k∈blkOf v,k∉[W.heap.size]:=fun v hv=>⟨fun k hk=>by have:=hv k hk;have:=H4L.out;omega,fun k hk hn=>by have:=hv k hk;have:=H4L.out;simp at hn;omega⟩
    refine ⟨⟨view',inst',seq',.slice ao6 rs'.length cap6,.slice co6 vs'.length cav6,rs',vs'⟩,?_,?_,⟨by simp only [e4];exact hnb,by simp only [e5];exact hnv⟩,HB5.out.upd HU6.out (hnew _ NB.out).2,Reads.upd HV5.out HU6.out (hnew _ NV.out).2,(hnew _ NB.out).1,(hnew _ NV.out).1,
     x.sl k {x.l[k] with told:=true,has:=true,ct:=⟨x.view,x.num,seq,.slice ao x.l[k].sl.batch.length cap,.slice co vs.length cav,x.l[k].sl.batch,vs⟩},rfl,?_,H6.out.drop⟩
    ·rw [HCI.out];rfl
    ·rw [HCI.out]
     simp only [Ct.cp,Option.map_some,Option.getD_some,Cp.mk.injEq]
     exact ⟨e1,e2,e3,e4,e5⟩
    ·rw [show za6 x.st seq=x.st.upd k fun p=> {p with told:=true,has:=true,ct:=⟨x.view,x.num,seq,x.l[k].sl.batch,vs⟩} by simp [za6,HK.out,HCI.out]]
     exact zs7 x k hl _ _ rfl
  ·rw [hd] at cd
   have HE:=Lib.hid (show prepI x.st seq=none by simp only [prepI,hp];simp [Pm.pl,hd])
   have H:=Lib.hid h
   clear hz h hk hp i2 hks hd hon c5 cp
   go_enter Tryz.func255,Tryz.ntmps255
   go_wp2_with fail
   refine HA.out.mono ?_
   rintro e w' ⟨rfl,rfl⟩
   go_wp2_with fail
   exact bodyPost_ret (v:= .tuple #[ctAgg noCt,.bool false]) (by simp [results,Tryz.results255,go_sem,noCt]) rfl (zb4 (H.out.upd0 ((Upd.refl _ _).alloc _)) HE.out (zjl HE.out))
theorem zls {i:Nat} {st:In} (h:AtI B w0 W i st ss) (seq:Int):Calls Tryz.prog 255 #[.pointer (some ⟨i,0,none⟩),.int .i64 seq] W fun e w'=> ∃c:Ct,e= .returned (.tuple #[ctAgg c,.bool (prepI st seq).isSome])∧Told W w' (prepI st seq) c∧
  AtI B w0 w' i (za6 st seq) (redR c.vv 2 c.vs.length (zan c.vs)::redR c.vb 6 c.rs.length (zam c.rs)::ss):=by
 obtain ⟨x,h1,rfl,h3⟩:=h
 refine (zl4 h3 h1 seq).mono ?_
 rintro e w' ⟨c,he,hc,hn,hb,hv,n1,n2,x',e1,e2,e3⟩
 exact ⟨c,he,⟨hc,hn,hb,hv,n1,n2⟩,x',e1,e2,e3.rot⟩
theorem zor {i:Nat} {st:In} (h:AtI B w0 W i st ss) (seq:Int):Calls Tryz.prog 256 #[.pointer (some ⟨i,0,none⟩),.int .i64 seq] W fun e w'=> ∃c:Ct,e= .returned (.tuple #[ctAgg c,.bool (commI st seq).isSome])∧Told W w' (commI st seq) c∧
  AtI B w0 w' i (zbc st seq) (redR c.vv 2 c.vs.length (zan c.vs)::redR c.vb 6 c.rs.length (zam c.rs)::ss):=by
 obtain ⟨x,h1,rfl,h3⟩:=h
 refine (zo3 h3 h1 seq).mono ?_
 rintro e w' ⟨c,he,hc,hn,hb,hv,n1,n2,x',e1,e2,e3⟩
 exact ⟨c,he,⟨hc,hn,hb,hv,n1,n2⟩,x',e1,e2,e3.rot⟩
end
section
variable {B:Nat} {w0 W W':World} {ss rs:List Res} {x:Ins}
def ctsR (cts:List Ct):Res:=imm (fun w D=> ∀c∈cts,CtIn w c D) (fun h hk hs c hc=>(h c hc).dep hk hs)
theorem cts_add {cts:List Ct} {c:Ct} (h:Own B w0 W (redR c.vv 2 c.vs.length (zan c.vs)::redR c.vb 6 c.rs.length (zam c.rs)::ctsR cts::rs)) (hn:c.rs.length≤100000) (hm:c.vs.length≤100000):Own B w0 W (ctsR (cts++[c])::rs):=by
 have h1:=h.rot
 refine (h1.alter (r':=ctsR (cts++[c])) ?_ (by simp [ctsR,imm])).rot'.drop.drop
 obtain ⟨D,⟨q1,q2⟩,q3,q4⟩:=h1.head
 obtain ⟨D1,⟨v1,v2⟩,v3,_⟩:=(h1.all (redR c.vv 2 c.vs.length (zan c.vs)) (List.mem_cons_of_mem _ List.mem_cons_self)).1
 obtain ⟨D2,⟨b1,b2⟩,b3,_⟩:=(h1.all (redR c.vb 6 c.rs.length (zam c.rs)) (List.mem_cons_of_mem _ (List.mem_cons_of_mem _ List.mem_cons_self))).1
 refine ⟨D++(D1++D2),⟨fun c' hc'=> ?_,fun k hk=> ?_⟩,fun k hk=> ?_,q4⟩
 ·rcases List.mem_append.1 hc' with hc' | hc'
  ·exact (q1 c' hc').mono (by simp+contextual)
  ·simp at hc';subst hc'
   exact ⟨b1.mono (by simp+contextual),hn,v1.mono (by simp+contextual),hm⟩
 ·rcases List.mem_append.1 hk with hk | hk
  ·exact q2 k hk
  ·rcases List.mem_append.1 hk with hk | hk
   ·exact v2 k hk
   ·exact b2 k hk
 ·rcases List.mem_append.1 hk with hk | hk
  ·exact q3 k hk
  ·rcases List.mem_append.1 hk with hk | hk
   ·exact v3 k hk
   ·exact b3 k hk
theorem zow {c:Ct} {a1:Option Addr} {n1 c1:Nat} {a2:Option Addr} {n2 c2:Nat} (h1:c.vb= .slice a1 n1 c1) (h2:c.vv= .slice a2 n2 c2): ∀u∈zaq c,u.oneCell'=true:=by
 intro u hu
 simp only [zaq,h1,h2,List.mem_cons,List.not_mem_nil,or_false] at hu
 rcases hu with rfl | rfl | rfl | rfl | rfl<;>rfl
end
end Go.Proofs.YtannckelmojkoaaGreat
