/- Parts of the proof, one behind the other. -/
import Derived.Test.YtannckelmojkoaaGreatOrdB33
import Derived.Lib.SmallJoins
set_option maxHeartbeats 32000000
set_option maxRecDepth 100000
set_option linter.unusedVariables false
set_option linter.unusedSimpArgs false
namespace Go.Proofs.YtannckelmojkoaaGreat
open Go.RowKit Go.Heap
abbrev orRq (k v:Int):Rq:=⟨1,4,1,k,v,0⟩
abbrev oprO (a b c:Int):Obj:= .cells #[.int .i64 a,.int .i64 b,.int .i64 c] 23 (0,0)
abbrev intO1 (a:Int):Obj:= .cells #[.int .i64 a] 3 (0,0)
theorem or_ad2 {w:World} {ob:Obj} {a b i j:Nat} {u v:Value} (h:w.drew.cell? ⟨a,i,none⟩=some u∧w.drew.cell? ⟨b,j,none⟩=some v):(w.alloc ob).drew.cell? ⟨a,i,none⟩=some u∧(w.alloc ob).drew.cell? ⟨b,j,none⟩=some v:=⟨zad (w:=w) h.1,zad (w:=w) h.2⟩
theorem zr0 {W w:World} {x:Np} {s:Ns} {l:Nt} {ss:List Res} {B:Nat} (hB:B=W.heap.size) (h:NdIs B W w x s l ss):Upd [] W w:=by subst hB;exact nd_upd h
theorem zz7 (a0 a1 a2 o0 o1 o2:Int) (a4:Bool) (W:World):
  Calls Tryz.prog 12 #[.int .i64 a0,.int .i64 a1,.int .i64 a2,.agg #[.int .i64 o0,.int .i64 o1,.int .i64 o2],.bool a4] W fun e w'=>e= .returned (.bool true)∧Upd [] W w':=by
 have hm0:=zg1 a0 4 (by omega)
 obtain ⟨f,hf⟩: ∃f:Nat,1+a0%4=f:=⟨(1+a0%4).toNat,by omega⟩
 have hf1:1≤f:=by omega
 have hf2:f≤4:=by omega
 have hf1I:1≤(f:Int):=by omega
 have hf2I:(f:Int)≤4:=by omega
 have hm1:=zg1 a1 (3*(f:Int)+1) (by omega)
 have h0:=((Own.start (Below.refl W.heap.size W) (Nat.le_refl _)).box (intO1 a1)).box (oprO o0 o1 o2)
 simp only [zbb] at h0
 have HW1:=Lib.hid (fun w=>zdt a1 (3*(f:Int)+1) w (by omega) (by omega))
 have HST:=Lib.hid (fun (w:World) (h:Own W.heap.size W w [blk (W.heap.size+1) (oprO o0 o1 o2),blk W.heap.size (intO1 a1)])=>zwg a0 a1 f hf1 hf2 hf h)
 generalize a1%(3*(f:Int)+1)=idI at*
 obtain ⟨id,hid⟩: ∃id:Nat,idI=(id:Int):=⟨idI.toNat,by omega⟩
 subst hid
 have hid3:id≤3*f:=by omega
 have HNo:=Lib.hid (fun w=>zk5 (f:Int) w hf1I hf2I)
 have HQu:=Lib.hid (fun w=>zpm (f:Int) w hf1I hf2I)
 have H0:=Lib.hid h0
 clear hf hm0 h0 hm1
 go_enter Tryz.func12,Tryz.ntmps12
 go_upto_region 1 with fail
 generalize World.alloc (World.alloc W _) _=w0 at*
 generalize he6:W.heap.size=e6 at*
 have HE6:Hid (e6=W.heap.size):=Lib.hid he6.symm
 clear he6
 have c6:=zaa (H0.out.blkAt 1 rfl) 0 rfl
 have HS:=Lib.hid (HST.out _ H0.out)
 clear HST H0
 go_wp2_with fail
 with_reducible refine HS.out.mono ?_
 rintro e w1 ⟨x,rn,rfl,h1⟩
 clear HS c6
 have h2:=((h1.box (.cells #[ptrV x.p] 24 (0,0))).box (twO x.nt rn)).box (stdO f)
 simp only [zbb] at h2
 have H2:=Lib.hid h2
 clear h1 h2
 go_upto_region 4 with fail
 generalize World.alloc (World.alloc (World.alloc w1 _) _) _=w2 at*
 generalize w1.heap.size=q at*
 obtain ⟨rr,hr,-⟩:=H2.out.drew.side
 have t0:=zaa (hr.blkAt 7 rfl) 0 rfl
 have z0:=zac (hr.blkAt 7 rfl) 0
 have g0:w2.drew.cell? ⟨q+2,0,none⟩=some (.int .i64 f):=zaa (hr.blkAt 0 rfl) 0 rfl
 clear hr
 refine Held.wp_held2 [(e6,0,[.int .i64 a1]),(q+2,0,[.int .i64 f])] [(0,0),(2,1)] [5] [(4,true),(1,true)] (by kernel_rfl) (by kernel_rfl) ⟨⟨t0,trivial⟩,⟨g0,trivial⟩,trivial⟩ ?_
 simp only [Held.cutAt,Held.walk,List.take_succ_cons,List.take_zero,List.drop_succ_cons,List.drop_zero]
 go_wp2_with fail
 with_reducible refine (HNo.out _).mono ?_
 rintro e w' ⟨rfl,rfl⟩
 go_wp2_with fail
 refine ⟨⟨⟨t0,trivial⟩,⟨g0,trivial⟩,trivial⟩,?_⟩
 go_wp2_with fail
 with_reducible refine (HW1.out _).mono ?_
 rintro e w' ⟨rfl,rfl⟩
 go_wp2_with fail
 refine ⟨⟨⟨t0,trivial⟩,⟨g0,trivial⟩,trivial⟩,?_⟩
 go_wp2_with fail
 refine ⟨trivial,by rfl,⟨.inr ⟨⟨rfl,.inl ⟨by kernel_rfl,rfl⟩⟩,trivial⟩,.inr ⟨⟨rfl,.inl ⟨by kernel_rfl,rfl⟩⟩,trivial⟩,trivial⟩,?_⟩
 have H3:Hid (NdIs e6 W (w2.setCell ⟨e6,0,none⟩ (.int .i64 (id:Int))).drew x (newS (stdC f) (id:Int)) [] (rnR rn (.slice none 0 0) ⟨.slice none 0 0,[]⟩ [] [blk e6 (intO1 id),blk q (.cells #[ptrV x.p] 24 (0,0)),blk (q+1) (twO x.nt rn),blk (q+2) (stdO f),blk (e6+1) (oprO o0 o1 o2)])):=Lib.hid (by
  obtain ⟨rr,hr,hk⟩:=H2.out.side
  have h1:=(hr.front 7 rfl rfl).store 0 (.int .i64 (id:Int))
  refine NdIs.drew ?_
  refine hk _ _ ?_
  have h2:=(((((((h1.front 7 rfl rfl).front 2 rfl rfl).front 3 rfl rfl).front 4 rfl rfl).front 4 rfl rfl).front 7 rfl rfl).front 7 rfl rfl).front 7 rfl rfl
  exact h2)
 clear H2 t0 z0 g0 HW1
 generalize World.drew (World.setCell _ _ _)=w3 at*
 obtain ⟨rr,hr,-⟩:=H3.out.side
 have c6:=zaa (hr.blkAt 3 rfl) 0 rfl
 clear hr
 go_upto_region 5 with fail
 by_cases hz:id=0
 ·subst hz
  have HWk:=Lib.hid (zd0 w3)
  have hU:Hid (Upd [] W w3):=Lib.hid (by
   have:=zr0 HE6.out H3.out
   exact this)
  go_wp2_with fail
  with_reducible refine HWk.out.mono ?_
  rintro e w4 ⟨rfl,hu⟩
  have HU:=Lib.hid (hU.out.trans hu)
  clear hu HWk hU H3
  go_wp2_with fail
  go_ret
  exact ⟨rfl,HU.out⟩
 have hz0:((id:Int)=0)=False:=by simp;omega
 have hzB:((id:Int)==0)=false:=by simp;omega
 have hz1:decide ((id:Int)=0)=false:=by simp;omega
 have HWa:=Lib.hid (fun w=>zdt o1 64 w (by omega) (by omega))
 have HWb:=Lib.hid (fun w=>zdt o2 1000 w (by omega) (by omega))
 have hka:=zg1 o1 64 (by omega)
 have hkb:=zg1 o2 1000 (by omega)
 generalize o1%64=key at*
 generalize o2%1000=val at*
 go_upto_region 7 with fail
 clear c6
 have g1:w3.drew.cell? ⟨e6+1,1,none⟩=some (.int .i64 o1)∧w3.drew.cell? ⟨e6+1,2,none⟩=some (.int .i64 o2):=by
  obtain ⟨rr,hr,-⟩:=H3.out.drew.side
  exact ⟨zaa (hr.blkAt 7 rfl) 1 rfl,zaa (hr.blkAt 7 rfl) 2 rfl⟩
 have H4:Hid (NdIs e6 W (w3.alloc (rqO (orRq key val))).drew x (newS (stdC f) (id:Int)) [] (rnR rn (.slice none 0 0) ⟨.slice none 0 0,[]⟩ [] [blk e6 (intO1 id),blk q (.cells #[ptrV x.p] 24 (0,0)),blk (q+1) (twO x.nt rn),blk (q+2) (stdO f),blk (e6+1) (oprO o0 o1 o2),blk w3.heap.size (rqO (orRq key val))])):=Lib.hid (((H3.out.box (rqO (orRq key val))).drew).onSide (fun r hr=>hr.back 8 (by simp) rfl))
 go_cut [15] (fun t wx=> ∃e15:Nat,t=ptrV e15∧Hid (NdIs e6 W wx x (newS (stdC f) (id:Int)) [] (rnR rn (.slice none 0 0) ⟨.slice none 0 0,[]⟩ [] [blk e6 (intO1 id),blk q (.cells #[ptrV x.p] 24 (0,0)),blk (q+1) (twO x.nt rn),blk (q+2) (stdO f),blk (e6+1) (oprO o0 o1 o2),blk e15 (rqO (orRq key val))])))
 case first=>
  go_region_held3 (fun w'=>w'.cell? ⟨e6+1,1,none⟩=some (.int .i64 o1)∧w'.cell? ⟨e6+1,2,none⟩=some (.int .i64 o2))
   (first | (with_reducible exact g1) | (with_reducible exact or_ad2 g1))
   (first
    | ((with_reducible refine (HWa.out _).mono ?_);rintro e w' ⟨rfl,rfl⟩)
    | ((with_reducible refine (HWb.out _).mono ?_);rintro e w' ⟨rfl,rfl⟩))
  all_goals go_wp2_with fail
  all_goals go_meet
  all_goals exact ⟨_,rfl,H4⟩
 case rest=>
 clear g1 HWa HWb H3 H4
 obtain ⟨e15,rfl,H4⟩:=hcut
 generalize wc=w4 at*
 have hgd:RqGood 2 (orRq key val):=⟨by unfold okReq inW zc2;simp;omega,by omega⟩
 have hrs:=rqS_ok (l:=[]) hgd (by simp)
 obtain ⟨sl,hsl⟩: ∃sl,rqS [] (orRq key val)=⟨1,4,1,key,val,sl⟩:=by
  unfold rqS
  split
  ·exact ⟨_,rfl⟩
  ·exact ⟨0,rfl⟩
 have HRQ:=Lib.hid (nd_req (orRq key val) H4.out (by simp))
 rw [hsl] at HRQ hrs
 have HRS:=Lib.hid hrs
 obtain ⟨rr,hr,-⟩:=H4.out.side
 have t0:=zaa (hr.blkAt 5 rfl) 0 rfl
 have t1:=zaa (hr.blkAt 5 rfl) 1 rfl
 have r0:=zaa (hr.blkAt 8 rfl) 0 rfl
 have r1:=zaa (hr.blkAt 8 rfl) 1 rfl
 have r2:=zaa (hr.blkAt 8 rfl) 2 rfl
 have r3:=zaa (hr.blkAt 8 rfl) 3 rfl
 have r4:=zaa (hr.blkAt 8 rfl) 4 rfl
 have r5:=zaa (hr.blkAt 8 rfl) 5 rfl
 clear hr hgd hrs hsl
 go_wp2_with fail
 refine HRQ.out.mono ?_
 rintro e w5 ⟨rfl,vp1,vt1,h5⟩
 clear t0 t1 r0 r1 r2 r3 r4 r5 HRQ H4
 obtain ⟨L1,hL1⟩: ∃L1,L1=rqSL [] (orRq key val):=⟨_,rfl⟩
 rw [←hL1] at h5
 have hL1n:L1.length≤1:=by
  rw [hL1]
  unfold rqSL
  split
  ·have:=(zd4 [] (100+(orRq key val).client) (rqX (orRq key val))).2;simpa using this
  ·simp
 have H5:=Lib.hid h5
 have HRS2:Hid (RqGood 2 ⟨1,4,1,key,val,sl⟩∧rqSealed L1 2 ⟨1,4,1,key,val,sl⟩=true):=Lib.hid (by rw [hL1];exact HRS.out)
 clear h5 hL1 HRS
 obtain ⟨rr,hr,-⟩:=H5.out.side
 have b15:=hr.blkAt 8 rfl
 have r0:=zaa b15 0 rfl
 have r1:=zaa b15 1 rfl
 have r2:=zaa b15 2 rfl
 have r3:=zaa b15 3 rfl
 have r4:=zaa b15 4 rfl
 have r5:=zaa b15 5 rfl
 have z0:=zac b15 0
 have z1:=zac b15 1
 have z2:=zac b15 2
 have z3:=zac b15 3
 have z4:=zac b15 4
 have z5:=zac b15 5
 clear hr b15
 have H6:Hid (NdIs e6 W ((((((w5.setCell ⟨e15,0,none⟩ (.int .i64 1)).setCell ⟨e15,1,none⟩ (.int .i64 4)).setCell ⟨e15,2,none⟩ (.int .i64 1)).setCell ⟨e15,3,none⟩ (.int .i64 key)).setCell ⟨e15,4,none⟩ (.int .i64 val)).setCell ⟨e15,5,none⟩ (.int .i64 sl)) x (newS (stdC f) (id:Int)) L1 (rnR rn vp1 vt1 L1 [blk e6 (intO1 id),blk q (.cells #[ptrV x.p] 24 (0,0)),blk (q+1) (twO x.nt rn),blk (q+2) (stdO f),blk (e6+1) (oprO o0 o1 o2),blk e15 (rqO ⟨1,4,1,key,val,sl⟩)])):=Lib.hid (by
  obtain ⟨rr,hr,hk⟩:=H5.out.side
  exact hk _ _ ((zr8 (hr.front 8 rfl rfl)).back 8 (by simp) rfl))
 clear H5
 unfold rqAgg
 go_upto_region 9 with fail
 clear r0 r1 r2 r3 r4 r5 z0 z1 z2 z3 z4 z5
 generalize World.setCell (World.setCell _ _ _) _ _=w6 at*
 obtain ⟨rr,hr,-⟩:=H6.out.side
 have b15:=hr.blkAt 8 rfl
 have r0:=zaa b15 0 rfl
 have r1:=zaa b15 1 rfl
 have r2:=zaa b15 2 rfl
 have r3:=zaa b15 3 rfl
 have r4:=zaa b15 4 rfl
 have r5:=zaa b15 5 rfl
 clear hr b15
 go_upto_region 11 with fail
 clear r0 r1 r2 r3 r4 r5
 have H7:Hid (NdIs e6 W ((w6.alloc (rqO ⟨1,4,1,key,val,sl⟩)).alloc (mmO (balW 3 0 0 1 (.slice (some ⟨w6.heap.size,0,none⟩) 1 1) [⟨1,4,1,key,val,sl⟩] 0))) x (newS (stdC f) (id:Int)) L1 (orR x rn vp1 vt1 L1 e6 q (q+1) (w6.heap.size+1) id 3 0 (some ⟨w6.heap.size,0,none⟩) 1 ⟨1,4,1,key,val,sl⟩ [blk (q+2) (stdO f),blk (e6+1) (oprO o0 o1 o2),blk e15 (rqO ⟨1,4,1,key,val,sl⟩)])):=Lib.hid (by
  obtain ⟨rr,hr,hk⟩:=H6.out.side
  have h1:=(zvr hr ⟨1,4,1,key,val,sl⟩).box (mmO (balW 3 0 0 1 (.slice (some ⟨w6.heap.size,0,none⟩) 1 1) [⟨1,4,1,key,val,sl⟩] 0))
  simp only [zbb] at h1
  exact hk _ _ (h1.back 9 (by simp) rfl))
 clear H6
 generalize World.alloc (World.alloc w6 _) _=w7 at*
 obtain ⟨e16,he16⟩: ∃e16,e16=w6.heap.size+1:=⟨_,rfl⟩
 rw [←he16] at H7⊢
 generalize w6.heap.size=eb at*
 clear he16
 have hbt:=zp8 HRS2.out.2
 have HBT:=Lib.hid hbt
 have HX:=Lib.hid (give_p0 H7.out hf1 hf2 hid3 HRS2.out.1 hbt (by omega))
 obtain ⟨rr,hr⟩:=zhg H7.out
 have b16:=hr.blkAt 9 rfl
 have d0:=zaa b16 0 rfl
 have d1:=zaa b16 1 rfl
 have d2:=zaa b16 2 rfl
 have d3:=zaa b16 3 rfl
 have d4:=zaa b16 4 rfl
 have d5:=zaa b16 5 rfl
 have d6:=zaa b16 6 rfl
 have d7:=zaa b16 7 rfl
 have d8:=zaa b16 8 rfl
 have d9:=zaa b16 9 rfl
 have c11:=zaa (hr.blkAt 11 rfl) 0 rfl
 have t0:=zaa (hr.blkAt 12 rfl) 0 rfl
 have t1:=zaa (hr.blkAt 12 rfl) 1 rfl
 clear b16 hr H7 hbt
 go_wp2_with fail
 with_reducible refine HX.out.mono ?_
 rintro e w8 ⟨rfl,s1,l1,vp2,vt2,hS1,hb1,hl1,h8⟩
 have H8:=Lib.hid h8
 have HS1:=Lib.hid hS1
 have HB1:=Lib.hid hb1
 have hln1:l1.length≤3:=by omega
 clear hS1 hb1 hl1 h8 HX HBT d0 d1 d2 d3 d4 d5 d6 d7 d8 d9 c11 t0 t1 hL1n
 have HW2:=Lib.hid (fun w=>zdt a2 2 w (by omega) (by omega))
 have hle:=zg1 a2 2 (by omega)
 generalize a2%2=leI at*
 obtain ⟨le,hleI⟩: ∃le:Nat,leI=(le:Int):=⟨leI.toNat,by omega⟩
 subst hleI
 have hle1:le≤1:=by omega
 clear hle
 obtain ⟨rr,hr⟩:=zhg H8.out
 have g0:w8.cell? ⟨q+2,0,none⟩=some (.int .i64 f):=zaa (hr.blkAt 13 rfl) 0 rfl
 clear hr
 go_upto_region 13 with (with_reducible refine (HQu.out _).mono ?_;rintro e w' ⟨rfl,rfl⟩)
 clear g0
 go_upto_region 14 with (with_reducible refine (HW2.out _).mono ?_;rintro e w' ⟨rfl,rfl⟩)
 clear HQu HW2
 have e2f:((2*f:Nat):Int)=2*(f:Int):=by omega
 have e2l:((2*f-le:Nat):Int)=2*(f:Int)-(le:Int):=by omega
 have E2F:=Lib.hid e2f
 have E2L:=Lib.hid e2l
 clear e2f e2l
 have hle0:(0:Int)≤(le:Int):=by omega
 have hle2:(le:Int)≤1:=by omega
 go_upto_if 68 with fail
 go_cut [] (fun wx=> ∃(s:Ns) (l:Nt) (vp:Value) (vt:Rn) (kd fm:Int),Hid (OrE f id ⟨1,4,1,key,val,sl⟩ (a4 || decide (le=0)) (a4&&decide (le=0)) s l)∧Hid (l.length≤200)∧Hid (NdIs e6 W wx x s l (orR x rn vp vt l e6 q (q+1) e16 id kd fm (some ⟨eb,0,none⟩) 1 ⟨1,4,1,key,val,sl⟩ [blk (q+2) (stdO f),blk (e6+1) (oprO o0 o1 o2),blk e15 (rqO ⟨1,4,1,key,val,sl⟩)])))
 case first=>
  cases a4 with
  | true=>
   have hv4:=zfy (kind:=4) (n:=2*f) (St:=St1 f id ⟨1,4,1,key,val,sl⟩) (fun k i u s l h=>h.skip) (fun w i k u s l vp vt ss h hS hk hne hi hb hn hu=>zxg h hS hk hne hi hf1 hf2 hid3 HRS2.out.1 hb hn hu) H8.out HS1.out (Nat.le_refl _) hf1 hf2 hid3 HB1.out (by omega) (by omega)
   rw [E2F.out] at hv4
   have HV4:=Lib.hid hv4
   clear hv4 H8 HS1 HB1
   go_wp2_with fail
   with_reducible refine HV4.out.mono ?_
   rintro e w9 ⟨rfl,s2,l2,vp3,vt3,kd2,fm2,i2,hS2,hb2,hl2,h9⟩
   clear HV4
   have hS3:=hS2.two hf1
   have hv5:=zfy (kind:=5) (n:=2*f-le) (St:=St2 f id ⟨1,4,1,key,val,sl⟩) (fun k i u s l h=>h.skip) (fun w i k u s l vp vt ss h hS hk hne hi hb hn hu=>give_p2 h hS hk hne hi hf1 hf2 hid3 HRS2.out.1 rfl (by show (0:Int)<4;omega) hb hn hu) h9 hS3 (by omega) hf1 hf2 hid3 hb2 (by omega) (by omega)
   rw [E2L.out] at hv5
   have HV5:=Lib.hid hv5
   have hl2':l2.length≤40:=by omega
   clear hv5 hS2 hS3 h9 hb2 hl2
   go_wp2_with fail
   with_reducible refine HV5.out.mono ?_
   rintro e w10 ⟨rfl,s3,l3,vp4,vt4,kd3,fm3,i3,hS4,hb3,hl3,h10⟩
   have HE:Hid (OrE f id ⟨1,4,1,key,val,sl⟩ (true || decide (le=0)) (true&&decide (le=0)) s3 l3):=Lib.hid (by
    have h1:=hS4.e
    rw [show (decide (2*f-le=2*f):Bool)=decide (le=0) by rw [decide_eq_decide];omega] at h1
    simpa using h1)
   have HL:Hid (l3.length≤200):=Lib.hid (by omega)
   have H10:=Lib.hid h10
   clear hS4 hb3 hl3 h10 HV5 hl2'
   go_wp2_with fail
   go_meet
   exact ⟨s3,l3,vp4,vt4,kd3,fm3,HE,HL,H10⟩
  | false=>
   have hv4:=zfy (kind:=4) (n:=2*f-le) (St:=St1 f id ⟨1,4,1,key,val,sl⟩) (fun k i u s l h=>h.skip) (fun w i k u s l vp vt ss h hS hk hne hi hb hn hu=>zxg h hS hk hne hi hf1 hf2 hid3 HRS2.out.1 hb hn hu) H8.out HS1.out (by omega) hf1 hf2 hid3 HB1.out (by omega) (by omega)
   rw [E2L.out] at hv4
   have HV4:=Lib.hid hv4
   clear hv4 H8 HS1 HB1
   go_wp2_with fail
   with_reducible refine HV4.out.mono ?_
   rintro e w9 ⟨rfl,s2,l2,vp3,vt3,kd2,fm2,i2,hS2,hb2,hl2,h9⟩
   have HE:Hid (OrE f id ⟨1,4,1,key,val,sl⟩ (false || decide (le=0)) (false&&decide (le=0)) s2 l2):=Lib.hid (by
    have h1:=hS2.e
    rw [show (decide (2*f-le=2*f):Bool)=decide (le=0) by rw [decide_eq_decide];omega] at h1
    simpa using h1)
   have HL:Hid (l2.length≤200):=Lib.hid (by omega)
   have H10:=Lib.hid h9
   clear hS2 hb2 hl2 h9 HV4
   go_wp2_with fail
   go_meet
   exact ⟨s2,l2,vp3,vt3,kd2,fm2,HE,HL,H10⟩
 case rest=>
  clear H8 HS1 HB1 E2F E2L
  obtain ⟨s,l,vp,vt,kd,fm,HE,HL,H⟩:=hcut
  have hE:=HE.out
  have HCB:Hid (∃ca bb,ca=(a4 || decide (le=0))∧bb=(a4&&decide (le=0))∧OrE f id ⟨1,4,1,key,val,sl⟩ ca bb s l):=Lib.hid ⟨_,_,rfl,rfl,HE.out⟩
  clear hE HE
  obtain ⟨ca,bb,hca,hbb,hE⟩:=HCB.out
  have HD:Hid ((a4=true∧le=0∧ca=true∧bb=true)∨(a4=true∧le=1∧ca=true∧bb=false)∨(a4=false∧le=0∧ca=true∧bb=false)∨(a4=false∧le=1∧ca=false∧bb=false)):=Lib.hid (by
   rcases (by omega:le=0∨le=1) with e | e<;>cases a4<;>simp_all)
  clear hca hbb HCB
  go_upto_region 19 with fail
  obtain ⟨rr,hr⟩:=zhg H.out.drew
  have d0:OrC x.p x.nt q f wc.drew:=zmk 11 12 13 hr rfl rfl rfl
  have HO1:=Lib.hid (zrn H.out.drew)
  have HO2:=Lib.hid (zrn ((H.out.box arZ).drew))
  clear hr
  have hone: ∀(v:Value),v∈([.int .i64 0,.int .i64 0,.int .i64 0,.int .i64 0,.int .i64 (3*(f:Int)),.int .i64 (k5 f ca),.int .i64 0,.int .i64 0,.int .i64 0,.int .i64 0,.int .i64 (k10 bb)]:List Value)→v.oneCell'=true:=by simp [Value.oneCell']
  have hsz:Option.map (fun x=>x.size) (Tryz.prog.info? 84)=some ([.int .i64 0,.int .i64 0,.int .i64 0,.int .i64 0,.int .i64 (3*(f:Int)),.int .i64 (k5 f ca),.int .i64 0,.int .i64 0,.int .i64 0,.int .i64 0,.int .i64 (k10 bb)]:List Value).length:=by kernel_rfl
  go_cut [20] (fun t wx=> ∃e20:Nat,t=ptrV e20∧Hid (NdIs e6 W wx x {s with out:=[]} l (blk e20 (arO (.int .i64 0) (.int .i64 0) (.int .i64 0) (.int .i64 0) (.int .i64 (3*(f:Int))) (.int .i64 (k5 f ca)) (.int .i64 0) (.int .i64 0) (.int .i64 0) (.int .i64 0) (.int .i64 (k10 bb)))::(orR x rn vp vt l e6 q (q+1) e16 id kd fm (some ⟨eb,0,none⟩) 1 ⟨1,4,1,key,val,sl⟩ [blk (q+2) (stdO f),blk (e6+1) (oprO o0 o1 o2),blk e15 (rqO ⟨1,4,1,key,val,sl⟩)]))))
  case first=>
   go_region_held3 (fun w'=>OrC x.p x.nt q f w')
    (first | (with_reducible exact d0) | (with_reducible exact orC_add d0) | (with_reducible exact e0) | (with_reducible exact zvl e0) | (with_reducible exact e1) | (with_reducible exact zvl e1) | (with_reducible exact zxu e1 hg) | (with_reducible exact zxu (zvl e1) hg))
    (first
     | (go_at_call 26;go_loud (first
      | ((with_reducible refine HO1.out.mono ?_);rintro e w9 ⟨oa,ok,os,rfl,hos,h9⟩;have e0:OrC x.p x.nt q f w9:=(let ⟨rr,hr,_⟩:=h9.side;zmk 13 14 15 hr rfl rfl rfl);have HK1:=Lib.hid (zml hE hid3 hf2 hos h9);have HK2:=Lib.hid (zml hE hid3 hf2 hos ((h9.box arZ).perm ((List.perm_append_comm (l₁:=[_]) (l₂:=[_,_])).append_right _)));clear h9)
      | ((with_reducible refine HO2.out.mono ?_);rintro e w9 ⟨oa,ok,os,rfl,hos,h9⟩;have e0:OrC x.p x.nt q f w9:=(let ⟨rr,hr,_⟩:=h9.side;zmk 14 15 16 hr rfl rfl rfl);have HK1:=Lib.hid (zml hE hid3 hf2 hos h9);clear h9)))
     | (go_at_call 39;first
      | ((with_reducible refine HK1.out.mono ?_);rintro e w10 ⟨rfl,h10⟩;have e1:OrC x.p x.nt q f w10:=(by obtain ⟨rr,hr,-⟩:=h10.side;exact zmk 13 14 15 hr rfl rfl rfl);have hth:(w10.alloc arZ).there w10.heap.size 0 ([.int .i64 0,.int .i64 0,.int .i64 0,.int .i64 0,.int .i64 (3*(f:Int)),.int .i64 (k5 f ca),.int .i64 0,.int .i64 0,.int .i64 0,.int .i64 0,.int .i64 (k10 bb)]:List Value).length:=zt1;have hg:q≠w10.heap.size∧q+1≠w10.heap.size∧q+2≠w10.heap.size:=(by obtain ⟨rr,hr,-⟩:=(h10.box arZ).side;exact zz3 14 15 16 0 hr rfl rfl rfl rfl (by omega) (by omega) (by omega));have H10:=Lib.hid h10;clear h10)
      | ((with_reducible refine HK2.out.mono ?_);rintro e w10 ⟨rfl,h10⟩;have e1:OrC x.p x.nt q f w10:=(by obtain ⟨rr,hr,-⟩:=h10.side;exact zmk 14 15 16 hr rfl rfl rfl);have hth:w10.there w9.heap.size 0 ([.int .i64 0,.int .i64 0,.int .i64 0,.int .i64 0,.int .i64 (3*(f:Int)),.int .i64 (k5 f ca),.int .i64 0,.int .i64 0,.int .i64 0,.int .i64 0,.int .i64 (k10 bb)]:List Value).length:=(by obtain ⟨rr,hr,-⟩:=h10.side;exact zoi (hr.blkAt 2 rfl) (by simp));have hg:q≠w9.heap.size∧q+1≠w9.heap.size∧q+2≠w9.heap.size:=(by obtain ⟨rr,hr,-⟩:=h10.side;exact zz3 14 15 16 2 hr rfl rfl rfl rfl (by omega) (by omega) (by omega));have H10:=Lib.hid h10;clear h10)
      | ((with_reducible refine HK1.out.mono ?_);rintro e w10 ⟨rfl,h10⟩;have e1:OrC x.p x.nt q f w10:=(by obtain ⟨rr,hr,-⟩:=h10.side;exact zmk 14 15 16 hr rfl rfl rfl);have hth:w10.there wc.heap.size 0 ([.int .i64 0,.int .i64 0,.int .i64 0,.int .i64 0,.int .i64 (3*(f:Int)),.int .i64 (k5 f ca),.int .i64 0,.int .i64 0,.int .i64 0,.int .i64 0,.int .i64 (k10 bb)]:List Value).length:=(by obtain ⟨rr,hr,-⟩:=h10.side;exact zoi (hr.blkAt 2 rfl) (by simp));have hg:q≠wc.heap.size∧q+1≠wc.heap.size∧q+2≠wc.heap.size:=(by obtain ⟨rr,hr,-⟩:=h10.side;exact zz3 14 15 16 2 hr rfl rfl rfl rfl (by omega) (by omega) (by omega));have H10:=Lib.hid h10;clear h10)))
   all_goals clear hone hsz d0 e0 e1 hth hg HO1 HO2
   ·go_wp2_with fail
    go_meet
    exact ⟨_,rfl,Lib.hid (by
     obtain ⟨rr,hr,hk⟩:=(H10.out.box arZ).side
     exact hk _ (blk _ _::(orR x rn vp vt l e6 q (q+1) e16 id kd fm (some ⟨eb,0,none⟩) 1 ⟨1,4,1,key,val,sl⟩ [blk (q+2) (stdO f),blk (e6+1) (oprO o0 o1 o2),blk e15 (rqO ⟨1,4,1,key,val,sl⟩)])) (((zr2 rfl hr).dropAt 1 (by simp)).dropAt 1 (by simp)))⟩
   ·go_wp2_with fail
    go_meet
    exact ⟨_,rfl,Lib.hid (by
     obtain ⟨rr,hr,hk⟩:=H10.out.side
     exact hk _ (blk _ _::(orR x rn vp vt l e6 q (q+1) e16 id kd fm (some ⟨eb,0,none⟩) 1 ⟨1,4,1,key,val,sl⟩ [blk (q+2) (stdO f),blk (e6+1) (oprO o0 o1 o2),blk e15 (rqO ⟨1,4,1,key,val,sl⟩)])) (((zr2 rfl (hr.front 2 rfl rfl)).dropAt 1 (by simp)).dropAt 1 (by simp)))⟩
   ·go_wp2_with fail
    go_meet
    exact ⟨_,rfl,Lib.hid (by
     obtain ⟨rr,hr,hk⟩:=H10.out.side
     exact hk _ (blk _ _::(orR x rn vp vt l e6 q (q+1) e16 id kd fm (some ⟨eb,0,none⟩) 1 ⟨1,4,1,key,val,sl⟩ [blk (q+2) (stdO f),blk (e6+1) (oprO o0 o1 o2),blk e15 (rqO ⟨1,4,1,key,val,sl⟩)])) (((zr2 rfl (hr.front 2 rfl rfl)).dropAt 1 (by simp)).dropAt 1 (by simp)))⟩
  case rest=>
   clear HO1 HO2 hone hsz d0 H
   obtain ⟨e20,rfl,H⟩:=hcut
   obtain ⟨rr,hr,-⟩:=H.out.side
   have d0:OrC x.p x.nt q f wc:=zmk 12 13 14 hr rfl rfl rfl
   have g0:=d0.2.2.1
   have c11:=d0.1
   clear hr d0
   have HLg:=Lib.hid (zvn H.out)
   clear H
   go_upto_region 21 with (with_reducible refine (HNo.out _).mono ?_;rintro e w' ⟨rfl,rfl⟩)
   go_wp2_with fail
   with_reducible refine HLg.out.mono ?_
   rintro e w11 ⟨y,rfl,hy,hlp,h11⟩
   obtain ⟨es,hes,hrq⟩:=hE.es
   have HRQ:=Lib.hid hrq
   have HAl:=Lib.hid (or_all h11 hy hlp hes)
   clear h11 hy hlp hes hrq HLg g0 c11
   go_wp2_with fail
   with_reducible refine HAl.out.mono ?_
   rintro e w12 ⟨va,c12,rfl,hc12,h12⟩
   have HCM:=Lib.hid (fun w (h:NdIs e6 W w x {s with out:=[]} l (enR (.slice va es.length c12) es::blk e20 (arO (.int .i64 0) (.int .i64 0) (.int .i64 0) (.int .i64 0) (.int .i64 (3*(f:Int))) (.int .i64 (k5 f ca)) (.int .i64 0) (.int .i64 0) (.int .i64 0) (.int .i64 0) (.int .i64 (k10 bb)))::(orR x rn vp vt l e6 q (q+1) e16 id kd fm (some ⟨eb,0,none⟩) 1 ⟨1,4,1,key,val,sl⟩ [blk (q+2) (stdO f),blk (e6+1) (oprO o0 o1 o2),blk e15 (rqO ⟨1,4,1,key,val,sl⟩)])))=>or_cmt hE h)
   have H12:=Lib.hid h12
   clear h12 HAl hE
   obtain ⟨rr,hr,-⟩:=H12.out.side
   have b20:=hr.blkAt 1 rfl
   have u4:w12.cell? ⟨e20,4,none⟩=some (.int .i64 (3*(f:Int))):=zaa b20 4 rfl
   have u5g:w12.cell? ⟨e20,5,none⟩=some (.int .i64 (k5 f ca)):=zaa b20 5 rfl
   have u10g:w12.cell? ⟨e20,10,none⟩=some (.int .i64 (k10 bb)):=zaa b20 10 rfl
   have u11:w12.cell? ⟨q,0,none⟩=some (ptrV x.p):=zaa (hr.blkAt 13 rfl) 0 rfl
   have u15:=hr.blkAt 17 rfl
   clear b20
   have k0:((3*(f:Int))==3*(f:Int))=true:=by simp
   have k1:((0:Int)==3*(f:Int))=false:=by simp;omega
   rcases HD.out with ⟨rfl,hle9,rfl,rfl⟩ | ⟨rfl,hle9,rfl,rfl⟩ | ⟨rfl,hle9,rfl,rfl⟩ | ⟨rfl,hle9,rfl,rfl⟩
   ·have le0:((le:Int)==0)=true:=by rw [beq_iff_eq];omega
    clear hle9
    have hrq:es.map En.rq=[⟨1,4,1,key,val,sl⟩]:=HRQ.out
    obtain ⟨he1,b1,ov,rfl,v0,v1,v2,v3,v4,v5⟩:=or_row hr (i:=0) rfl hrq
    simp only at v0 v1 v2 v3 v4 v5
    have u5:w12.cell? ⟨e20,5,none⟩=some (.int .i64 (3*(f:Int))):=u5g
    have u10:w12.cell? ⟨e20,10,none⟩=some (.int .i64 1):=u10g
    have y0:w12.cell? ⟨e15,0,none⟩=some (.int .i64 1):=zaa u15 0 rfl
    have y1:w12.cell? ⟨e15,1,none⟩=some (.int .i64 4):=zaa u15 1 rfl
    have y2:w12.cell? ⟨e15,2,none⟩=some (.int .i64 1):=zaa u15 2 rfl
    have y3:w12.cell? ⟨e15,3,none⟩=some (.int .i64 key):=zaa u15 3 rfl
    have y4:w12.cell? ⟨e15,4,none⟩=some (.int .i64 val):=zaa u15 4 rfl
    have y5:w12.cell? ⟨e15,5,none⟩=some (.int .i64 sl):=zaa u15 5 rfl
    have hl1:((es.length:Int)==1)=true:=by rw [beq_iff_eq];omega
    have hl2:(0:Int)<(es.length:Int):=by omega
    have hcc:(es.length:Int)≤(c12:Int):=by omega
    have heq: ∀wx,(Op.equalIn 10000 38 (rqAgg ⟨1,4,1,key,val,sl⟩) (rqAgg ⟨1,4,1,key,val,sl⟩)).run Tryz.prog wx= .ok true wx:=fun wx=>by rw [zdj];simp
    unfold rqAgg at heq
    simp only at heq
    have hgd:=Tryz.guardReq
    have HC13:Hid (Calls Tryz.prog 55 #[ptrV x.p,.int .i64 0] w12.drew fun e w'=>(∃a' c,e= .returned (.slice a' 1 c))∧OrD b1 ov e15 e20 q x.p key val sl w'∧Upd [] W w'):=Lib.hid ((HCM.out _ H12.out.drew).mono (fun e w' ⟨a',c,he,h13⟩=>⟨⟨a',c,he⟩,(let ⟨rr,hr,_⟩:=h13.side;orD_of (i:=0) (j:=1) (m:=13) (n:=17) hr rfl HRQ.out rfl rfl rfl rfl),zr0 HE6.out h13⟩))
    have HWK:Hid (∀w,OrD b1 ov e15 e20 q x.p key val sl w→Calls Tryz.prog 19 #[] w fun e w'=>e= .returned (.bool true)∧OrD b1 ov e15 e20 q x.p key val sl w'∧Upd [] w w'):=Lib.hid (fun w hw=>(zd0 w).mono (fun e w' ⟨he,hu⟩=>⟨he,orD_upd hu hw,hu⟩))
    have e0:OrD b1 ov e15 e20 q x.p key val sl w12.drew:=⟨v0,v1,v2,v3,v4,v5,y0,y1,y2,y3,y4,y5,u10,u11⟩
    clear hr u15 HD HCM hrq u5g u10g H12 HRQ
    have hcc1:(1:Int)≤(c12:Int):=by omega
    clear hl1 hl2 hcc
    generalize es.length=en at*
    subst he1
    go_upto_region 25 with fail
    go_region_held3 (fun w'=>OrD b1 ov e15 e20 q x.p key val sl w')
     (first | (with_reducible exact e0) | (with_reducible exact e1) | (with_reducible exact e2))
     (first
      | (go_at_call 55;(with_reducible refine HC13.out.mono ?_);rintro e w13 ⟨⟨a13,c13,rfl⟩,e1,hu13⟩)
      | (go_at_call 19;(with_reducible refine (HWK.out _ e1).mono ?_);rintro e w14 ⟨rfl,e2,hu14⟩))
    all_goals
     have HU:=Lib.hid (hu13.trans hu14)
     clear hu13 hu14 e0 e1 e2 HWK HC13
     go_wp2_with fail
     go_ret
     exact ⟨rfl,HU.out⟩
   ·have le0:((le:Int)==0)=false:=by rw [beq_eq_false_iff_ne];omega
    clear hle9
    have hes0:es=[]:=by have:=HRQ.out;simpa using this
    have u5:w12.cell? ⟨e20,5,none⟩=some (.int .i64 (3*(f:Int))):=u5g
    have u10:w12.cell? ⟨e20,10,none⟩=some (.int .i64 0):=u10g
    have hl0:((es.length:Int)==0)=true:=by rw [hes0];rfl
    have HC13:=Lib.hid (HCM.out _ H12.out)
    clear hr u15 HD HRQ HCM hes0 u5g u10g
    go_wp2_with fail
    with_reducible refine HC13.out.mono ?_
    rintro e w13 ⟨a13,c13,rfl,h13⟩
    have HU13:Hid (Upd [] W w13):=Lib.hid (zr0 HE6.out h13)
    have HWK:=Lib.hid (zd0 w13)
    clear h13 HC13 u4 u5 u10 u11 H12
    go_wp2_with fail
    with_reducible refine HWK.out.mono ?_
    rintro e w14 ⟨rfl,hu⟩
    have HU:=Lib.hid (HU13.out.trans hu)
    clear hu HWK HU13
    go_wp2_with fail
    go_ret
    exact ⟨rfl,HU.out⟩
   ·have le0:((le:Int)==0)=true:=by rw [beq_iff_eq];omega
    clear hle9
    have hes0:es=[]:=by have:=HRQ.out;simpa using this
    have u5:w12.cell? ⟨e20,5,none⟩=some (.int .i64 (3*(f:Int))):=u5g
    have u10:w12.cell? ⟨e20,10,none⟩=some (.int .i64 0):=u10g
    have hl0:((es.length:Int)==0)=true:=by rw [hes0];rfl
    have HC13:=Lib.hid (HCM.out _ H12.out)
    clear hr u15 HD HRQ HCM hes0 u5g u10g
    go_wp2_with fail
    with_reducible refine HC13.out.mono ?_
    rintro e w13 ⟨a13,c13,rfl,h13⟩
    have HU13:Hid (Upd [] W w13):=Lib.hid (zr0 HE6.out h13)
    have HWK:=Lib.hid (zd0 w13)
    clear h13 HC13 u4 u5 u10 u11 H12
    go_wp2_with fail
    with_reducible refine HWK.out.mono ?_
    rintro e w14 ⟨rfl,hu⟩
    have HU:=Lib.hid (HU13.out.trans hu)
    clear hu HWK HU13
    go_wp2_with fail
    go_ret
    exact ⟨rfl,HU.out⟩
   ·have le0:((le:Int)==0)=false:=by rw [beq_eq_false_iff_ne];omega
    clear hle9
    have hes0:es=[]:=by have:=HRQ.out;simpa using this
    have u5:w12.cell? ⟨e20,5,none⟩=some (.int .i64 0):=u5g
    have u10:w12.cell? ⟨e20,10,none⟩=some (.int .i64 0):=u10g
    have hl0:((es.length:Int)==0)=true:=by rw [hes0];rfl
    have HC13:=Lib.hid (HCM.out _ H12.out)
    clear hr u15 HD HRQ HCM hes0 u5g u10g
    go_wp2_with fail
    with_reducible refine HC13.out.mono ?_
    rintro e w13 ⟨a13,c13,rfl,h13⟩
    have HU13:Hid (Upd [] W w13):=Lib.hid (zr0 HE6.out h13)
    have HWK:=Lib.hid (zd0 w13)
    clear h13 HC13 u4 u5 u10 u11 H12
    go_wp2_with fail
    with_reducible refine HWK.out.mono ?_
    rintro e w14 ⟨rfl,hu⟩
    have HU:=Lib.hid (HU13.out.trans hu)
    clear hu HWK HU13
    go_wp2_with fail
    go_ret
    exact ⟨rfl,HU.out⟩
end Go.Proofs.YtannckelmojkoaaGreat
namespace Go.Proofs.YtannckelmojkoaaGreat
open Go.ChangeShapes Go.WideShapes Go.ChangeAt Go.RowKit Go.Deep Go.Heap
section
variable {H:Type} {enc:TypeId×Value→H} {W:World} {base:Nat} {spare:Nat→Bool} {held:Bool}
theorem op_arg {base':Nat} {v:Value} {d:DataW H} {p:List MemPlace} {r:Reach} (hv:Value.okWide Tryz.prog W r base' 23 v) (h:DataW.Trod enc Tryz.prog W base spare held 23 v d p): ∃a b c:Int,v= .agg #[.int .i64 a,.int .i64 b,.int .i64 c]:=by
 obtain ⟨v0,v1,v2,y0,y1,y2,n,rfl,-,-,h0,h1,h2⟩:=Go.Joins.open_agg3 Tryz.underlying23 (by kernel_rfl) (by kernel_rfl) hv h
 obtain ⟨a,e0,-,-⟩:=DataW.trod_int Tryz.underlying3 h0
 obtain ⟨b,e1,-,-⟩:=DataW.trod_int Tryz.underlying3 h1
 obtain ⟨c,e2,-,-⟩:=DataW.trod_int Tryz.underlying3 h2
 simp only [List.cons.injEq,and_true] at e0 e1 e2
 subst e0 e1 e2
 exact ⟨a,b,c,rfl⟩
end
end Go.Proofs.YtannckelmojkoaaGreat
