/- Parts of the proof, one behind the other. -/
import Derived.Test.YtannckelmojkoaaGreatAgnB34
set_option maxHeartbeats 32000000
set_option maxRecDepth 100000
set_option linter.unusedVariables false
set_option linter.unusedSimpArgs false
namespace Go.Proofs.YtannckelmojkoaaGreat
open Go.RowKit Go.Heap
section
variable {B:Nat} {w0 w W W':World} {ss rs:List Res} {x:Np} {s s':Ns} {l l':Nt} {f:Nat} {id u t st:Int} {r:Rq} {p:Pl} {b:Bys}
theorem zyr (h:NdIs B w0 W x s l ss):Calls Tryz.prog 44 #[.pointer (some ⟨x.nt,0,none⟩)] W fun e w'=>e= .returned (.int .i64 l.length)∧W=w':=by
 obtain ⟨r,hs,-⟩:=h.sideN;exact nlen_any (nt_at hs 0 1 rfl rfl) h.nok
theorem sds_at {v:Value} {os:List Sd} (h:Own B w0 W rs) (i j:Nat) (e1:rs[i]?=some (redR v 2 os.length (os.flatMap sdC))) (e2:rs[j]?=some (sdsR os)):SdsAt W v os:=
 ⟨zae h e1,fun o ho=>⟨⟨(zw8 h j e2 o ho).r.1,(zw8 h j e2 o ho).lt⟩,(zw8 h j e2 o ho).n⟩⟩
theorem pt_ag {out:List (Int×Bys)}:PtOk (agS f id p u t st out):=fun q hq c hc=>by
 have h2:q∈List.replicate (3*f+1) ((0,noPa):Int×Pa):=hq;have:q=(0,noPa):=List.eq_of_mem_replicate h2;subst this;cases hc
theorem qt_ag {out:List (Int×Bys)} (h1:1≤f) (h2:f≤4) (h0:id≠0) (hp:p.sl.has=true∧zbj p.sl=[r]∧p.done=false) (hs:sealP l (crtM 4 0 0 1 [r] id)=(some b,l)):QT (agS f id p u t st out,l):=by
 obtain ⟨o2,ho2,g1,g2,g3,g4,n1,n2⟩:=zlt (u:=u) (t:=t) (st:=st) (out:=out) h0 hp hs;unfold QT;rw [g1,g2,g3,g4];refine ⟨?_,?_,?_⟩
 ·show (!(insAt (agS f id p u (t+1) st o2) 0).on&&_)=false
  rw [n1];rfl
 ·show ((insAt (agS f id p u (t+1) st o2) 0).on&&oldP (agS f id p u (t+1) st o2))=false
  rw [n2,Bool.and_false]
 ·show ((insAt (agS f id p u (t+1) st o2) 0).on&&zcq (agS f id p u (t+1) st o2).c (agS f id p u (t+1) st o2).mt)=false
  rw [zlw h1 h2,Bool.and_false]
theorem ntick_ag (h:NdIs B w0 W x (agS f id p u t st []) l ss) (h1:1≤f) (h2:f≤4) (h0:id≠0) (hp:p.sl.has=true∧zbj p.sl=[r]∧p.done=false) (hs:sealP l (crtM 4 0 0 1 [r] id)=(some b,l)) (ht:t<1048576) (hn:l.length≤100000000):
  Calls Tryz.prog 33 #[ptrV x.p] W fun e w'=>e= .returned (.tuple #[])∧ ∃st',NdIs B w0 w' x (agS f id p u (t+1) st' (if (t+1)%2=0 then (zav (3*f+1) id).map fun k=>(k,b) else [])) l ss:=by
 refine (nTick_of (.inl rfl) (.inl (qt_ag h1 h2 h0 hp hs)) h pt_ag hn (by show ([]:List (Int×Bys)).length≤_;simp)).mono ?_;rintro e w' ⟨he,hN,-⟩;rw [tick_ag h1 h2 h0 hp hs ht] at hN;exact ⟨he,_,hN⟩
theorem zyt {out:List (Int×Bys)} (h:NdIs B w0 W x (agS f id p u t st out) l ss):Calls Tryz.prog 26 #[ptrV x.p] W fun e w'=> ∃(a:Option Addr) (k:Nat) (os:List Sd),e= .returned (.slice a os.length k)∧os.map Sd.p=out∧os.length≤k∧NdIs B w0 w' x (agS f id p u t st []) l (redR (.slice a os.length k) 2 os.length (os.flatMap sdC)::sdsR os::ss):=by
 refine (nout_any h).mono ?_;rintro e w' ⟨a,k,os,he,ho,hN⟩;have hk:os.length≤k:=by
  obtain ⟨rr,hr,-⟩:=hN.side;obtain ⟨ao',cap',hv',hcap,-⟩:=zae (k:=0) hr rfl;simp only [Value.slice.injEq] at hv';omega
 exact ⟨a,k,os,he,ho,hk,hN⟩
theorem zwf {a a2:Option Addr} {k k2:Nat} {os os2:List Sd} (h:NdIs B w0 W x s l (redR (.slice a2 os2.length k2) 2 os2.length (os2.flatMap sdC)::sdsR os2::redR (.slice a os.length k) 2 os.length (os.flatMap sdC)::sdsR os::ss)) (he:os2.map Sd.p=os.map Sd.p) (hl:os2.length≤1000000):
  Calls Tryz.prog 45 #[.slice a2 os2.length k2,.slice a os.length k] W fun e w'=>e= .returned (.bool true)∧NdIs B w0 w' x s l (redR (.slice a os.length k) 2 os.length (os.flatMap sdC)::sdsR os::ss):=by
 obtain ⟨rr,hr,hk⟩:=h.side;refine (zxa W (sds_at hr 0 1 rfl rfl) (sds_at hr 2 3 rfl rfl) he hl).mono ?_;rintro e w' ⟨he,n,rfl⟩;refine ⟨he,NdIs.drewN ?_ n⟩;exact hk _ _ ((hr.dropAt 0 (by simp)).dropAt 0 (by simp))
theorem ndrop_ag {a2:Option Addr} {k2:Nat} {os2:List Sd} (h:NdIs B w0 W x s l (redR (.slice a2 os2.length k2) 2 os2.length (os2.flatMap sdC)::sdsR os2::ss)):NdIs B w0 W x s l ss:=by
 obtain ⟨rr,hr,hk⟩:=h.side;exact hk _ _ ((hr.dropAt 0 (by simp)).dropAt 0 (by simp))
end
abbrev agRq (k v:Int):Rq:=⟨0,1,1,k,v,0⟩
abbrev AgC7 (nt rn q e6:Nat) (o1 o2:Int) (w:World):Prop:=w.cell? ⟨q,0,none⟩=some (.pointer (some ⟨nt,0,none⟩))∧w.cell? ⟨q,1,none⟩=some (.pointer (some ⟨rn,0,none⟩))∧w.cell? ⟨e6,1,none⟩=some (.int .i64 o1)∧w.cell? ⟨e6,2,none⟩=some (.int .i64 o2)
theorem zqx {B:Nat} {w0 w:World} {rs:List Res} {nt rn q e6:Nat} {o0 o1 o2:Int} (i j:Nat) (h:Own B w0 w rs) (e1:rs[i]?=some (blk q (twO nt rn))) (e2:rs[j]?=some (blk e6 (oprO o0 o1 o2))):AgC7 nt rn q e6 o1 o2 w:=
 ⟨zaa (h.blkAt i e1) 0 rfl,zaa (h.blkAt i e1) 1 rfl,zaa (h.blkAt j e2) 1 rfl,zaa (h.blkAt j e2) 2 rfl⟩
theorem zx4 {w:World} {ob:Obj} {nt rn q e6:Nat} {o1 o2:Int} (h:AgC7 nt rn q e6 o1 o2 w):AgC7 nt rn q e6 o1 o2 (w.alloc ob):=⟨zax h.1,zax h.2.1,zax h.2.2.1,zax h.2.2.2⟩
theorem zzm {w:World} {ob:Obj} {nt rn q e6:Nat} {o1 o2:Int} (h:AgC7 nt rn q e6 o1 o2 w.drew):AgC7 nt rn q e6 o1 o2 (w.alloc ob).drew:=zx4 (w:=w) h
theorem zgq {w:World} {b c i o:Nat} {u v:Value} (h:b≠c) (k:w.cell? ⟨b,i,none⟩=some v):(w.setCell ⟨c,o,none⟩ u).cell? ⟨b,i,none⟩=some v:=(World.cell?_of_block (hp_other h)).trans k
theorem zeq {w:World} {v:Value} {nt rn q e6 e o:Nat} {o1 o2:Int} (h:AgC7 nt rn q e6 o1 o2 w) (g:q≠e∧e6≠e):AgC7 nt rn q e6 o1 o2 (w.setCell ⟨e,o,none⟩ v):=⟨zgq g.1 h.1,zgq g.1 h.2.1,zgq g.2 h.2.2.1,zgq g.2 h.2.2.2⟩
theorem zu0 {w:World} {v0 v1 v2 v3 v4 v5:Value} {nt rn q e6 e:Nat} {o1 o2:Int} (h:AgC7 nt rn q e6 o1 o2 w) (g:q≠e∧e6≠e):AgC7 nt rn q e6 o1 o2 ((((((w.setCell ⟨e,0,none⟩ v0).setCell ⟨e,1,none⟩ v1).setCell ⟨e,2,none⟩ v2).setCell ⟨e,3,none⟩ v3).setCell ⟨e,4,none⟩ v4).setCell ⟨e,5,none⟩ v5):=
 zeq (zeq (zeq (zeq (zeq (zeq h g) g) g) g) g) g
theorem zzn {B:Nat} {w0 w:World} {rs:List Res} {nt rn q e6 e:Nat} {o0 o1 o2:Int} {ob:Obj} (i j m:Nat) (h:Own B w0 w rs) (e1:rs[i]?=some (blk q (twO nt rn))) (e2:rs[j]?=some (blk e6 (oprO o0 o1 o2))) (e4:rs[m]?=some (blk e ob)) (g1:i<m) (g2:j<m):q≠e∧e6≠e:=
 ⟨own_ne h i m e1 e4 g1 (List.mem_singleton.2 rfl) (List.mem_singleton.2 rfl),own_ne h j m e2 e4 g2 (List.mem_singleton.2 rfl) (List.mem_singleton.2 rfl)⟩
theorem again21_any (a0 a1 o0 o1 o2 a3:Int) (W:World):
  Calls Tryz.prog 7 #[.int .i64 a0,.int .i64 a1,.agg #[.int .i64 o0,.int .i64 o1,.int .i64 o2],.int .i64 a3] W fun e w'=>e= .returned (.bool true)∧Upd [] W w':=by
 have hm0:=zgz a0 4 (by omega);obtain ⟨f,hf⟩: ∃f:Nat,1+a0%4=f:=⟨(1+a0%4).toNat,by omega⟩;have hf1:1≤f:=by omega
 have hf2:f≤4:=by omega
 have hf1I:1≤(f:Int):=by omega
 have hf2I:(f:Int)≤4:=by omega
 have hm1:=zgz a1 (3*(f:Int)+1) (by omega);have h0:=(Own.start (Below.refl W.heap.size W) (Nat.le_refl _)).box (oprO o0 o1 o2);have HW1:=zq (fun w=>zdw a1 (3*(f:Int)+1) w (by omega) (by omega));have HST:=zq (fun (w:World) (h:Own W.heap.size W w [blk W.heap.size (oprO o0 o1 o2)])=>zxh a0 a1 f hf1 hf2 hf h);generalize a1%(3*(f:Int)+1)=idI at*;obtain ⟨id,hid⟩: ∃id:Nat,idI=(id:Int):=⟨idI.toNat,by omega⟩;subst hid;have hid3:id≤3*f:=by omega
 have HNo:=zq (fun w=>zlc (f:Int) w hf1I hf2I);have H0:=zq h0;clear hf hm0 h0 hm1;go_enter Tryz.func7,Tryz.ntmps7
 go_upto_region 1 with fail
 generalize World.alloc W _=w0 at*;generalize he6:W.heap.size=e6 at*;have HE6:Hid (e6=W.heap.size):=zq he6.symm;clear he6;have HS:=zq (HST.out _ H0.out);clear HST H0
 go_wp2_with fail
 with_reducible refine HS.out.mono ?_
 rintro e w1 ⟨x,rn,rfl,h1⟩;clear HS;have h2:=(h1.box (twO x.nt rn)).box (stdO f);simp only [zbn] at h2;have H2:=zq h2;clear h1 h2
 go_upto_region 4 with fail
 generalize World.alloc (World.alloc w1 _) _=w3 at*;generalize w1.heap.size=q at*;have H3:Hid (NdIs e6 W w3 x (newS (stdC f) (id:Int)) [] (rnR rn (.slice none 0 0) ⟨.slice none 0 0,[]⟩ [] [blk q (twO x.nt rn),blk (q+1) (stdO f),blk e6 (oprO o0 o1 o2)])):=zq (by
  obtain ⟨rr,hr,hk⟩:=H2.out.side;exact hk _ _ ((((((hr.front 5 rfl rfl).front 1 rfl rfl).front 2 rfl rfl).front 5 rfl rfl).front 5 rfl rfl).front 5 rfl rfl))
 clear H2;obtain ⟨rr,hr,-⟩:=H3.out.side;have g0:w3.cell? ⟨q+1,0,none⟩=some (.int .i64 f):=zaa (hr.blkAt 4 rfl) 0 rfl;clear hr
 go_upto_region 5 with (first | ((with_reducible refine (HNo.out _).mono ?_);rintro e w' ⟨rfl,rfl⟩) | ((with_reducible refine (HW1.out _).mono ?_);rintro e w' ⟨rfl,rfl⟩))
 clear g0 HW1;by_cases hz:id=0
 ·subst hz
  have HWk:=zq (ziy w3);have hU:Hid (Upd [] W w3):=zq (by
   have:=or_upd HE6.out H3.out;exact this)
  go_wp2_with fail
  with_reducible refine HWk.out.mono ?_
  rintro e w4 ⟨rfl,hu⟩;have HU:=zq (hU.out.trans hu);clear hu HWk hU H3
  go_wp2_with fail
  go_ret
  exact ⟨rfl,HU.out⟩
 have hz0:((id:Int)=0)=False:=by simp;omega
 have hzB:((id:Int)==0)=false:=by simp;omega
 have hz1:decide ((id:Int)=0)=false:=by simp;omega
 have HWa:=zq (fun w=>zdw o1 64 w (by omega) (by omega));have HWb:=zq (fun w=>zdw o2 99 w (by omega) (by omega));have hka:=zgz o1 64 (by omega);have hkb:=zgz o2 99 (by omega);generalize o1%64=key at*;generalize o2%99=val at*
 go_upto_region 7 with fail
 have hgd:RqGood 2 (agRq key val):=⟨by unfold okReq inW zc2;simp;omega,by omega⟩;have hrs:=rqS_ok (l:=[]) hgd (by simp);obtain ⟨sl,hsl⟩: ∃sl,rqS [] (agRq key val)=⟨0,1,1,key,val,sl⟩:=by
  unfold rqS;split
  ·exact ⟨_,rfl⟩
  ·exact ⟨0,rfl⟩
 obtain ⟨L1,hL1⟩: ∃L1,L1=rqSL [] (agRq key val):=⟨_,rfl⟩;have hL1n:L1.length≤1:=by
  rw [hL1];unfold rqSL;split
  ·have:=(zjy [] (100+(agRq key val).client) (rqX (agRq key val))).2;simpa using this
  ·simp
 have HRQ1:=zq (nd_req (agRq key val) H3.out.drew (by simp));have HRQ2:=zq (nd_req (agRq key val) (ss:=[blk q (twO x.nt rn),blk (q+1) (stdO f),blk e6 (oprO o0 o1 o2),blk w3.heap.size (rqO ⟨0,0,0,0,0,0⟩)]) (((H3.out.box (rqO ⟨0,0,0,0,0,0⟩)).drew).onSide (fun r hr=>hr.back 6 (by simp) rfl)) (by simp));rw [hsl,←hL1] at HRQ1 HRQ2;rw [hsl] at hrs;have HRS:Hid (RqGood 2 ⟨0,1,1,key,val,sl⟩∧rqSealed L1 2 ⟨0,1,1,key,val,sl⟩=true):=zq (by rw [hL1];exact hrs);clear hrs hsl hL1 hgd;unfold rqAgg at HRQ1 HRQ2;simp only at HRQ1 HRQ2;have d0:AgC7 x.nt rn q e6 o1 o2 w3.drew:=by
  obtain ⟨rr,hr,-⟩:=H3.out.drew.side;exact zqx 3 5 hr rfl rfl
 go_cut [13] (fun t wx=> ∃(e15:Nat) (vp:Value) (vt:Rn),t=ptrV e15∧Hid (NdIs e6 W wx x (newS (stdC f) (id:Int)) L1 (rnR rn vp vt L1 [blk q (twO x.nt rn),blk (q+1) (stdO f),blk e6 (oprO o0 o1 o2),blk e15 (rqO ⟨0,1,1,key,val,sl⟩)])))
 case first=>
  go_region_held3 (fun w'=>AgC7 x.nt rn q e6 o1 o2 w')
   (first | (with_reducible exact d0) | (with_reducible exact zzm d0) | (with_reducible exact e1) | (with_reducible exact zx4 e1) | (with_reducible exact zu0 e1 hg))
   (first
    | ((with_reducible refine (HWa.out _).mono ?_);rintro e w' ⟨rfl,rfl⟩)
    | ((with_reducible refine (HWb.out _).mono ?_);rintro e w' ⟨rfl,rfl⟩)
    | (go_at_call 42;first
     | ((with_reducible refine HRQ1.out.mono ?_);rintro e w5 ⟨rfl,vp1,vt1,h5⟩;have e1:AgC7 x.nt rn q e6 o1 o2 w5:=(by obtain ⟨rr,hr,-⟩:=h5.side;exact zqx 3 5 hr rfl rfl);have H5:=zq h5;clear h5)
     | ((with_reducible refine HRQ2.out.mono ?_);rintro e w5 ⟨rfl,vp1,vt1,h5⟩;have e1:AgC7 x.nt rn q e6 o1 o2 w5:=(by obtain ⟨rr,hr,-⟩:=h5.side;exact zqx 3 5 hr rfl rfl);have hb6:w5.heap[w3.heap.size]?=some (rqO ⟨0,0,0,0,0,0⟩):=(by obtain ⟨rr,hr,-⟩:=h5.side;exact hr.blkAt 6 rfl);have r0:=zaa hb6 0 rfl;have z0:=zac hb6 0;have r1:=zaa hb6 1 rfl;have z1:=zac hb6 1;have r2:=zaa hb6 2 rfl;have z2:=zac hb6 2;have r3:=zaa hb6 3 rfl;have z3:=zac hb6 3;have r4:=zaa hb6 4 rfl;have z4:=zac hb6 4;have r5:=zaa hb6 5 rfl;have z5:=zac hb6 5;clear hb6;have hg:q≠w3.heap.size∧e6≠w3.heap.size:=(by obtain ⟨rr,hr,-⟩:=h5.side;exact zzn 3 5 6 hr rfl rfl rfl (by omega) (by omega));have H5:=zq h5;clear h5)))
  all_goals clear d0 e1 HRQ1 HRQ2
  all_goals go_wp2_with fail
  all_goals go_meet
  ·exact ⟨_,vp1,vt1,rfl,zq ((H5.out.box (rqO ⟨0,1,1,key,val,sl⟩)).onSide (fun r hr=>hr.back 6 (by simp) rfl))⟩
  all_goals exact ⟨_,vp1,vt1,rfl,zq (by
   obtain ⟨rr,hr,hk⟩:=H5.out.side;exact hk _ _ ((zs6 (hr.front 6 rfl rfl)).back 6 (by simp) rfl))⟩
 case rest=>
 clear HWa HWb H3 HRQ1 HRQ2 d0;obtain ⟨e15,vp1,vt1,rfl,H4⟩:=hcut;generalize wc=w4 at*;obtain ⟨rr,hr,-⟩:=H4.out.side;have t0:=zaa (hr.blkAt 3 rfl) 0 rfl;have t1:=zaa (hr.blkAt 3 rfl) 1 rfl;have r0:=zaa (hr.blkAt 6 rfl) 0 rfl;have r1:=zaa (hr.blkAt 6 rfl) 1 rfl;have r2:=zaa (hr.blkAt 6 rfl) 2 rfl;have r3:=zaa (hr.blkAt 6 rfl) 3 rfl;have r4:=zaa (hr.blkAt 6 rfl) 4 rfl;have r5:=zaa (hr.blkAt 6 rfl) 5 rfl;clear hr;have HX:=zq (give_ag (vb:= .slice (some ⟨w4.heap.size,0,none⟩) 1 1) (r:=⟨0,1,1,key,val,sl⟩) (ss:=[blk q (twO x.nt rn),blk (q+1) (stdO f),blk e6 (oprO o0 o1 o2),blk e15 (rqO ⟨0,1,1,key,val,sl⟩)]) (by
  obtain ⟨rr,hr,hk⟩:=H4.out.side;exact hk _ _ (zoe hr ⟨0,1,1,key,val,sl⟩)) hf1 hf2 hid3 HRS.out.1 (zq2 HRS.out.2) (by omega))
 go_wp2_with fail
 with_reducible refine HX.out.mono ?_
 rintro e w8 ⟨rfl,p,b,l1,vp2,vt2,hp,hs,hl1,h8⟩;have HP:=zq hp;have HSL:=zq hs;have hl2:l1.length≤3:=by omega
 have HO:=zq (zyt h8);clear hp hs h8 HX t0 t1 r0 r1 r2 r3 r4 r5 H4 HRS hl1 hL1n
 go_wp2_with fail
 with_reducible refine HO.out.mono ?_
 rintro e w9 ⟨oa,ok,os,rfl,hos,hok,h9⟩;have H9:Hid (NdIs e6 W w9 x (agS f (id:Int) p 1 0 0 []) l1 (redR (.slice oa os.length ok) 2 os.length (os.flatMap sdC)::sdsR os::[blk q (twO x.nt rn),blk (q+1) (stdO f)])):=zq (by
  obtain ⟨rr,hr,hk⟩:=h9.side;exact hk _ (_::_::[_,_]) (((((((((((hr.dropAt 2 (by simp)).dropAt 2 (by simp)).dropAt 2 (by simp)).dropAt 2 (by simp)).dropAt 2 (by simp)).dropAt 2 (by simp)).dropAt 2 (by simp)).dropAt 2 (by simp)).dropAt 2 (by simp)).dropAt 4 (by simp)).dropAt 4 (by simp)))
 have hlen:os.length=3*f:=by
  have h1:=congrArg List.length hos;rw [List.length_map,List.length_map] at h1;rw [h1];exact other_is hid3
 have HOS:=zq hos;have HLEN:=zq hlen;have hokI:(os.length:Int)≤(ok:Int):=by omega
 have hosn:os.length≤12:=by omega
 clear h9 HO hos hok hlen;obtain ⟨rr,hr,-⟩:=H9.out.side;have c11:w9.cell? ⟨q,0,none⟩=some (.pointer (some ⟨x.nt,0,none⟩)):=zaa (hr.blkAt 2 rfl) 0 rfl;clear hr;have HLn:=zq (zyr H9.out)
 go_wp2_with fail
 with_reducible refine HLn.out.mono ?_
 rintro e w' ⟨rfl,rfl⟩;clear HLn c11;have HW3:=zq (fun w=>zdw a3 10 w (by omega) (by omega));have hn3:=zgz a3 10 (by omega);generalize a3%10=nI at*;obtain ⟨n,hnI⟩: ∃n:Nat,nI=(n:Int):=⟨nI.toNat,by omega⟩;subst hnI;have hn9:n≤9:=by omega
 clear hn3
 go_wp2_with fail
 go_loopw [16,17] (fun i _ wr=> ∃(k:Nat) (t st:Int),1≤k∧k≤n+1∧i= .int .i64 k∧t+1=(k:Int)∧Hid (NdIs e6 W wr x (agS f (id:Int) p 1 t st []) l1 (redR (.slice oa os.length ok) 2 os.length (os.flatMap sdC)::sdsR os::[blk q (twO x.nt rn),blk (q+1) (stdO f)]))) (fun i _ _=>n+1-(intOf i).toNat)
 case atStart=>exact ⟨1,0,0,by omega,by omega,rfl,rfl,H9⟩
 case round=>
  obtain ⟨k,t,st,hk1,hk2,rfl,htk,H10⟩:=hrel;have HTK:=zq htk;clear htk H9;by_cases hlt:k≤n
  ·have hkI:(k:Int)≤(n:Int):=by omega
   have HT:=zq (ntick_ag H10.out hf1 hf2 (by omega) HP.out HSL.out (by have:=HTK.out;omega) (by omega));rw [HTK.out] at HT
   go_wp2_with fail
   with_reducible refine (HW3.out _).mono ?_
   rintro e w' ⟨rfl,rfl⟩
   go_wp2_with fail
   with_reducible refine HT.out.mono ?_
   rintro e w11 ⟨rfl,st',h11⟩;have HO2:=zq (zyt h11);clear h11 HT H10
   go_wp2_with fail
   with_reducible refine HO2.out.mono ?_
   rintro e w12 ⟨a2,k2,os2,rfl,hos2,hok2,h12⟩;have H12:=zq h12;clear h12 HO2;have hok2I:(os2.length:Int)≤(k2:Int):=by omega
   obtain ⟨rr,hr,-⟩:=H12.out.side;have c13:w12.cell? ⟨q+1,13,none⟩=some (.int .i64 2):=zaa (hr.blkAt 5 rfl) 13 rfl;clear hr hok2;by_cases hpar:(k:Int)%2=0
   ·have htm:(k:Int).tmod 2=0:=by rw [Int.tmod_eq_emod_of_nonneg (by omega)];exact hpar
    rw [if_pos hpar] at hos2;have he:os2.map Sd.p=os.map Sd.p:=hos2.trans HOS.out.symm;have hl2':os2.length=os.length:=by have:=congrArg List.length he;simpa using this
    have HS:=zq (zwf H12.out he (by omega));clear he hos2 hl2' hpar H12
    go_wp2_with fail
    with_reducible refine HS.out.mono ?_
    rintro e w13 ⟨rfl,h13⟩;have H13:=zq h13;clear h13 HS htm c13
    go_wp2_with fail
    go_roundw
    case rel=>exact ⟨k+1,k,st',by omega,by omega,by go_num,by simp,H13⟩
    case measure=>simp [intOf];omega
   ·have htm:(k:Int).tmod 2=1:=by rw [Int.tmod_eq_emod_of_nonneg (by omega)];omega
    rw [if_neg hpar] at hos2;have hl0:os2=[]:=by simpa using hos2
    subst hl0;have H13:=zq (ndrop_ag H12.out);clear hos2 hpar H12
    go_wp2_with fail
    go_roundw
    case rel=>exact ⟨k+1,k,st',by omega,by omega,by go_num,by simp,H13⟩
    case measure=>simp [intOf];omega
  ·have hkF:decide ((k:Int)≤(n:Int))=false:=by simp;omega
   have hlenB:((os.length:Int)==3*(f:Int))=true:=by have:=HLEN.out;simp;omega
   obtain ⟨rr,hr,-⟩:=H10.out.side;have c11:wr.cell? ⟨q,0,none⟩=some (.pointer (some ⟨x.nt,0,none⟩)):=zaa (hr.blkAt 2 rfl) 0 rfl;have g0:wr.cell? ⟨q+1,0,none⟩=some (.int .i64 f):=zaa (hr.blkAt 3 rfl) 0 rfl;clear hr;have HLn:=zq (zyr H10.out);have HWk:=zq (ziy wr);have hU:Hid (Upd [] W wr):=zq (or_upd HE6.out H10.out)
   go_wp2_with fail
   with_reducible refine (HW3.out _).mono ?_
   rintro e w' ⟨rfl,rfl⟩
   go_wp2_with fail
   with_reducible refine (HNo.out _).mono ?_
   rintro e w' ⟨rfl,rfl⟩
   go_wp2_with fail
   with_reducible refine HLn.out.mono ?_
   rintro e w' ⟨rfl,rfl⟩
   go_wp2_with fail
   with_reducible refine HWk.out.mono ?_
   rintro e w14 ⟨rfl,hu⟩;have HU:=zq (hU.out.trans hu);clear hu HWk hU H10
   go_wp2_with fail
   go_ret
   exact ⟨rfl,HU.out⟩
end Go.Proofs.YtannckelmojkoaaGreat
