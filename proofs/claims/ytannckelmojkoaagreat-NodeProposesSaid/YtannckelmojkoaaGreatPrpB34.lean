/- Parts of the proof, one behind the other. -/
import Derived.Test.YtannckelmojkoaaGreatPrpB33
set_option maxHeartbeats 32000000
set_option maxRecDepth 100000
set_option linter.unusedVariables false
set_option linter.unusedSimpArgs false
namespace Go.Proofs.YtannckelmojkoaaGreat
open Go.RowKit Go.Heap
theorem zsp {W:World} {ao:Option Addr} {n cap k:Nat} {l:List Rq} (h:Bat W (.slice ao n cap) l) (hn:n=l.length) (hk:k≤n):Bat W (.slice ao k cap) (l.take k):=by
 subst hn;obtain ⟨ao',cap',hv,h1,h2,h3,h4,h5⟩:=h;simp only [Value.slice.injEq] at hv;obtain ⟨rfl,-,rfl⟩:=hv;have hl:(l.take k).length=k:=by rw [List.length_take];omega
 refine ⟨ao,cap,by rw [hl],by omega,h2,flat_len' (g:=zaf) (n:=6) _ (fun _ _=>rfl),fun e=> ?_,fun h0=> ?_⟩
 ·have:=h4 e
  omega
 ·obtain ⟨b,o,hb,hs,hc⟩:=h5 (by omega)
  refine ⟨b,o,hb,hs,fun j hj=> ?_⟩;rw [hl] at hj;have e:zal (l.take k)=(zal l).take (k*6):=(zij (g:=zaf) (n:=6) l (fun _ _=>rfl) k hk).symm;rw [e,List.getElem?_take_of_lt hj];exact hc j (by omega)
section
variable {B:Nat} {w0 w W W':World} {ss:List Res} {x:Np} {s:Ns} {l:Nt} {rn:Nat} {vp:Value} {vt:Rn}
theorem nd_order {ra:Option Addr} {rc:Nat} {R:List Rq} {c d:Res} (h:NdIs B w0 W x s l (rnR rn vp vt l [c,d,ownR 38 6 (.slice ra R.length rc) R.length (R.flatMap zaf)])) (hn:R.length≤1000):
  Calls Tryz.prog 43 #[.slice ra R.length rc] W fun e w'=> ∃ao cap,e= .returned (.slice ao (zdw R).length cap)∧(zdw R).length≤cap∧NdIs B w0 w' x s l (rnR rn vp vt l [c,d,batR (.slice ao (zdw R).length cap) (zdw R)]):=by
 obtain ⟨rr,hr,hk⟩:=h.side;have h1:Own B w0 W (batR (.slice ra R.length rc) R::_):=Own.toRed (hr.front 5 rfl rfl);refine (zsu h1 hn).mono ?_;rintro e w' ⟨ao,cap,he,h2⟩;have h3:Own B w0 w' (batR (.slice ao (zdw R).length cap) (zdw R)::_):=Own.toRed (h2.dropAt 1 (by simp));obtain ⟨ao',cap',hv,hc,-⟩:=zcn h3.head;simp only [Value.slice.injEq] at hv;exact ⟨ao,cap,he,by omega,hk _ _ (h3.back 5 (by simp) rfl)⟩
end
section
variable {B:Nat} {w0 w W W':World} {ss:List Res} {x:Np} {s:Ns} {l:Nt} {f:Nat}
theorem zx4 {bv:Value} {bs:Bys} {m:Ms} {sl:Int} (h:NdIs B w0 W x s l ss) (hc:s.c=stdC f) (hb:RdOk w0 B bv bs ss) (ho:openP l f 2 bs=some (m,sl)):
  Calls Tryz.prog 27 #[bv,.int .i64 f,.int .i64 2,ptrV x.nt] W fun e w'=> ∃mm:Mm,e= .returned (.tuple #[.agg (mmA mm),.int .i64 sl,.int .i64 0])∧mm.ms=m∧NdIs B w0 w' x s l (mmR mm ss):=by
 have h1:=zd5 h hb (by rw [hc];exact ho);rw [hc] at h1;refine Calls.mono (show Calls Tryz.prog 27 #[bv,.int .i64 f,.int .i64 2,ptrV x.nt] W _ from h1) ?_;rintro e w' ⟨mm,he,hm,-,h2⟩;exact ⟨mm,he,hm,h2⟩
end
abbrev OpD (b o q f nt:Nat) (v:Value) (w:World):Prop:=w.cell? ⟨b,o,none⟩=some v∧w.cell? ⟨q+1,0,none⟩=some (.int .i64 f)∧w.cell? ⟨q+1,1,none⟩=some (.int .i64 2)∧w.cell? ⟨q,0,none⟩=some (.pointer (some ⟨nt,0,none⟩))
theorem opD_ad {w:World} {ob:Obj} {b o q f nt:Nat} {v:Value} (h:OpD b o q f nt v w):OpD b o q f nt v (w.alloc ob):=⟨zaq h.1,zaq h.2.1,zaq h.2.2.1,zaq h.2.2.2⟩
theorem zxy {w:World} {ob:Obj} {b o q f nt:Nat} {v:Value} (h:OpD b o q f nt v w.drew):OpD b o q f nt v (w.alloc ob).drew:=opD_ad (w:=w) h
theorem pp_cells {B:Nat} {w0 W:World} {x:Np} {s:Ns} {l:Nt} {os:List Sd} {hd ss:List Res} {b o q f nt rn k j bk:Nat} {bo:Option Addr} (h:NdIs B w0 W x s l (hd++(redR (.slice (some ⟨b,o,none⟩) os.length k) 2 os.length (os.flatMap sdC)::sdsR os::blk (q+1) (stdO f)::blk q (twO nt rn)::ss))) (hlt:j<os.length) (hbv:os[j].v= .slice bo os[j].b.length bk):OpD b (o+j*2+1) q f nt (.slice bo os[j].b.length bk) W:=by
 obtain ⟨r',hs',-⟩:=h.side;have e: ∀(i:Nat) (r:Res),(redR (.slice (some ⟨b,o,none⟩) os.length k) 2 os.length (os.flatMap sdC)::sdsR os::blk (q+1) (stdO f)::blk q (twO nt rn)::ss)[i]?=some r→((hd++(redR (.slice (some ⟨b,o,none⟩) os.length k) 2 os.length (os.flatMap sdC)::sdsR os::blk (q+1) (stdO f)::blk q (twO nt rn)::ss))++[r'])[hd.length+i]?=some r:=fun i r he=>by
  rw [List.append_assoc,List.getElem?_append_right (by omega),Nat.add_sub_cancel_left,List.getElem?_append_left (List.getElem?_eq_some_iff.1 he).1];exact he
 have hb:=hs'.blkAt (hd.length+2) (e 2 _ rfl);have hb2:=hs'.blkAt (hd.length+3) (e 3 _ rfl);obtain ⟨ao1,cap1,hv1,-,-,-,-,hcl1⟩:=zae hs' (e 0 _ rfl);simp only [Value.slice.injEq] at hv1;obtain ⟨b1,o1,hao1,-,hcell1⟩:=hcl1 (by omega);rw [←hv1.1] at hao1;simp only [Option.some.injEq,Addr.mk.injEq] at hao1;obtain ⟨rfl,rfl,-⟩:=hao1;refine ⟨?_,zaa hb 0 rfl,zaa hb 1 rfl,zaa hb2 0 rfl⟩;have h1:=hcell1 (j*2+1) (by omega);rw [zd1 sdC 2 (fun _=>rfl) os j 1 hlt (by omega)] at h1;rw [←hbv,Nat.add_assoc];exact h1.trans rfl
theorem zv1 (a0 a1 a2:Int) (v3:Value) (xs:List Int) {W:World} (h3:Ints W v3 xs):
  Calls Tryz.prog 6 #[.int .i64 a0,.int .i64 a1,.int .i64 a2,v3] W fun e w'=>e= .returned (.bool true)∧Upd [] W w':=by
 obtain ⟨o3,k3,hv3,hk3,hmx3,-⟩:=id h3;subst hv3;have HI3:=zq h3;have hm0:=zhs a0 4 (by omega);obtain ⟨f,hf⟩: ∃f:Nat,1+a0%4=f:=⟨(1+a0%4).toNat,by omega⟩;have hf1:1≤f:=by omega
 have hf2:f≤4:=by omega
 have hf1I:1≤(f:Int):=by omega
 have hf2I:(f:Int)≤4:=by omega
 have HST:=zq (zwl a0 a1 f hf1 hf2 hf (Own.start (Below.refl W.heap.size W) (Nat.le_refl _)));have hm1:=zhs a1 (3*(f:Int)+1) (by omega);have HW1:=zq (fun w=>zdx a1 (3*(f:Int)+1) w (by omega) (by omega));generalize a1%(3*(f:Int)+1)=idI at*;obtain ⟨id,hid⟩: ∃id:Nat,idI=(id:Int):=⟨idI.toNat,by omega⟩;subst hid;have hid3:id≤3*f:=by omega
 have HNo:=zq (fun w=>zkl (f:Int) w hf1I hf2I);have HW2:=zq (fun w=>zdx a2 ((f:Int)+1) w (by omega) (by omega));have hm2:=zhs a2 ((f:Int)+1) (by omega);generalize a2%((f:Int)+1)=kI at*;obtain ⟨k,hk⟩: ∃k:Nat,kI=(k:Int):=⟨kI.toNat,by omega⟩;subst hk;have hkf:k≤f:=by omega
 obtain ⟨i0,hi0,hz0,hz1,hz2⟩:=info_parts Tryz.infoRq;clear hf hm0 hm1 hm2 h3;go_enter Tryz.func6,Tryz.ntmps6
 go_wp2_with fail
 with_reducible refine HST.out.mono ?_
 rintro e w1 ⟨x,rn,rfl,h1⟩;have H2:=zq ((h1.box (twO x.nt rn)).box (stdO f));clear h1 HST
 go_upto_region 4 with fail
 generalize World.alloc (World.alloc w1 _) _=w2 at*;simp only [zbf] at H2;generalize w1.heap.size=q at*;have H3:Hid (NdIs W.heap.size W w2 x (newS (stdC f) (id:Int)) [] (rnR rn (.slice none 0 0) ⟨.slice none 0 0,[]⟩ [] [blk (q+1) (stdO f),blk q (twO x.nt rn)])):=zq (H2.out.perm ((List.perm_append_comm (l₁:=[_,_]) (l₂:=[_,_,_])).append_right []));clear H2;obtain ⟨rr,hr,-⟩:=H3.out.side;have g0:w2.cell? ⟨q+1,0,none⟩=some (.int .i64 f):=zaa (hr.blkAt 3 rfl) 0 rfl;clear hr
 go_upto_region 5 with (first | ((with_reducible refine (HNo.out _).mono ?_);rintro e w' ⟨rfl,rfl⟩) | ((with_reducible refine (HW1.out _).mono ?_);rintro e w' ⟨rfl,rfl⟩))
 go_upto_region 6 with ((with_reducible refine (HW2.out _).mono ?_);rintro e w' ⟨rfl,rfl⟩)
 clear HW1 HW2 g0
 go_upto_block 0 with fail
 go_cut [13] (fun rv wx=> ∃(R:List Rq) (ra:Option Addr) (rc:Nat) (L:Nt) (vp:Value) (vt:Rn),rv= .slice ra R.length rc∧R.length≤4∧L.length≤4∧Hid (∀r∈R,SumR L r)∧Hid (NdIs W.heap.size W wx x (newS (stdC f) (id:Int)) L (rnR rn vp vt L [blk (q+1) (stdO f),blk q (twO x.nt rn),ownR 38 6 (.slice ra R.length rc) R.length (R.flatMap zaf)])))
 case first=>
  go_wp2_with fail
  go_loopw [13,14] (fun rv iv wr=> ∃(i:Nat) (R:List Rq) (ra:Option Addr) (rc:Nat) (L:Nt) (vp:Value) (vt:Rn),rv= .slice ra R.length rc∧iv= .int .i64 i∧R.length=i∧i≤4∧i≤xs.length∧L.length≤i∧Hid (∀r∈R,SumR L r)∧Hid (NdIs W.heap.size W wr x (newS (stdC f) (id:Int)) L (rnR rn vp vt L [blk (q+1) (stdO f),blk q (twO x.nt rn),ownR 38 6 (.slice ra R.length rc) R.length (R.flatMap zaf)]))) (fun _ iv _=>4-(intOf iv).toNat)
  case atStart=>exact ⟨0,[],none,0,[],_,_,rfl,rfl,rfl,by omega,by omega,by simp,zq (fun r hr=>by cases hr),zq (H3.out.onSide (fun r hr=>(hr.row0 (E:=38) (sz:=6)).back 5 (by simp) rfl))⟩
  case round=>
   clear H3;obtain ⟨i,R,ra,rc,L,vp,vt,rfl,rfl,hRi,hi4,hil,hLl,HR,H⟩:=hrel;have hi0':(0:Int)≤(i:Int):=by omega
   have HRi:=zq hRi;have hR4:R.length≤4:=by omega
   clear hRi;by_cases hlt:i<xs.length
   ·have hltI:(i:Int)<(xs.length:Int):=by omega
    by_cases h4:i<4
    ·have h4I:(i:Int)<4:=by omega
     obtain ⟨-,b2,u2,hb2,-,y2⟩:=(HI3.out.upd (nd_upd H.out) (by simp)).at i hlt;subst hb2;have hk3I:(xs.length:Int)≤(k3:Int):=by omega
     have HW3:=zq (fun w=>zdx xs[i] 50 w (by omega) (by omega));have hkm:=zhs xs[i] 50 (by omega);generalize xs[i]%50=z at*;generalize xs[i]=z0 at*;obtain ⟨t,ht⟩: ∃t:Int,1+z=t:=⟨_,rfl⟩;have hw1:IntKind.i64.wrap (1+z)=t:=by rw [IntWalk.i64_in _ (by omega),ht]
     have hsum:=sum_new (l:=L) (t:=t) (by omega) (by omega) (by omega);obtain ⟨sl,hsl⟩: ∃sl,rqS L ⟨1,t,5,0,0,0⟩=⟨1,t,5,0,0,sl⟩:=by
      unfold rqS;split
      ·exact ⟨_,rfl⟩
      ·exact ⟨0,rfl⟩
     have hpx:=px_rqSL L ⟨1,t,5,0,0,0⟩;obtain ⟨L2,hL2⟩: ∃L2,L2=rqSL L ⟨1,t,5,0,0,0⟩:=⟨_,rfl⟩;have hL2n:L2.length≤L.length+1:=by
      rw [hL2];unfold rqSL;split
      ·exact (zge _ _ _).2
      ·omega
     have HRQ:=zq (nd_req ⟨1,t,5,0,0,0⟩ H.out.drew (by omega));rw [hsl,←hL2] at HRQ;rw [hsl,←hL2] at hsum;rw [←hL2] at hpx;unfold rqAgg at HRQ;simp only at HRQ;have HR2:Hid (∀r∈R++[(⟨1,t,5,0,0,sl⟩:Rq)],SumR L2 r):=zq (fun r hr=>by
      rcases List.mem_append.1 hr with hr | hr
      ·exact (HR.out r hr).px hpx
      ·rw [List.mem_singleton.1 hr];exact hsum)
     obtain ⟨rr,hr,-⟩:=H.out.side;have c0:wr.drew.cell? ⟨q,0,none⟩=some (.pointer (some ⟨x.nt,0,none⟩)):=zaa (hr.blkAt 4 rfl) 0 rfl;have c1:wr.drew.cell? ⟨q,1,none⟩=some (.pointer (some ⟨rn,0,none⟩)):=zaa (hr.blkAt 4 rfl) 1 rfl;clear hr hsum hpx hsl hL2 HR H ht hkm
     go_upto_region 10 with fail
     refine Held.wp_held [(q,0,[.pointer (some ⟨x.nt,0,none⟩),.pointer (some ⟨rn,0,none⟩)])] [(1,0)] [12] [(7,true),(4,true)] (by kernel_rfl) (by kernel_rfl) ⟨⟨c0,c1,trivial⟩,trivial⟩ ?_;simp only [Held.cutAt,Held.walk,List.take_succ_cons,List.take_zero,List.drop_succ_cons,List.drop_zero]
     go_wp2_with fail
     with_reducible refine (HW3.out _).mono ?_
     rintro e w' ⟨rfl,rfl⟩
     go_wp2_with fail
     refine ⟨⟨⟨c0,c1,trivial⟩,trivial⟩,?_⟩
     go_wp2_with fail
     with_reducible refine HRQ.out.mono ?_
     rintro e w5 ⟨rfl,vp1,vt1,h5⟩;obtain ⟨r5,hs5,hk5⟩:=h5.side;have e0:w5.cell? ⟨q,0,none⟩=some (.pointer (some ⟨x.nt,0,none⟩)):=zaa (hs5.blkAt 4 rfl) 0 rfl;have e1:w5.cell? ⟨q,1,none⟩=some (.pointer (some ⟨rn,0,none⟩)):=zaa (hs5.blkAt 4 rfl) 1 rfl;have HX:=zq (hs5.box (.cells #[.int .i64 1,.int .i64 t,.int .i64 5,.int .i64 0,.int .i64 0,.int .i64 sl] 38 (0,0)));have HN:=zq (heap_alloc_new w5 (.cells #[.int .i64 1,.int .i64 t,.int .i64 5,.int .i64 0,.int .i64 0,.int .i64 sl] 38 (0,0)));have HK:=zq hk5;have HA9:Hid (R.length≤4):=zq hR4;have HLT:Hid ((R++[(⟨1,t,5,0,0,sl⟩:Rq)]).flatMap zaf=R.flatMap zaf++[.int .i64 1,.int .i64 t,.int .i64 5,.int .i64 0,.int .i64 0,.int .i64 sl]):=zq (by simp [zaf]);clear hs5 hk5 h5 HRQ HW3 c0 c1 y2
     go_wp2_with fail
     refine ⟨⟨⟨e0,e1,trivial⟩,trivial⟩,?_⟩
     go_wp2_with (at_builtin;refine za9 rfl (.tmp 56) (.tmp 67) 39 rfl 38 i0 (.agg #[.int .i64 0,.int .i64 0,.int .i64 0,.int .i64 0,.int .i64 0,.int .i64 0]) 6 48 Tryz.underlying39 hi0 hz0 hz1 hz2 rfl (by decide) HX.out 6 (.slice ra R.length rc) R.length (R.flatMap zaf) rfl rfl w5.heap.size #[.int .i64 1,.int .i64 t,.int .i64 5,.int .i64 0,.int .i64 0,.int .i64 sl] 38 (0,0) rfl HN.out rfl (by simp [Value.oneCell']) (by have:=HA9.out;unfold maxLen;omega) (by have:=HA9.out;omega) ?_)
     intro g2 cap2 w6 h6;have HF:Hid (NdIs W.heap.size W w6 x (newS (stdC f) (id:Int)) L2 (rnR rn vp1 vt1 L2 [blk (q+1) (stdO f),blk q (twO x.nt rn),ownR 38 6 (.slice (some ⟨g2,0,none⟩) (R++[(⟨1,t,5,0,0,sl⟩:Rq)]).length cap2) (R++[(⟨1,t,5,0,0,sl⟩:Rq)]).length ((R++[(⟨1,t,5,0,0,sl⟩:Rq)]).flatMap zaf)])):=zq (by
      refine HK.out w6 [_,_,_,_,_,_] ?_;rw [HLT.out,List.length_append,List.length_singleton];exact h6.dropAt 0 (by simp))
     clear h6 HX HN HK HLT e0 e1
     go_wp2_with fail
     refine ⟨trivial,by rfl,⟨⟨rfl,.inr ⟨by kernel_rfl,by kernel_rfl⟩⟩,trivial⟩,?_⟩
     go_wp2_with fail
     go_roundw
     case rel=>exact ⟨i+1,R++[⟨1,t,5,0,0,sl⟩],some ⟨g2,0,none⟩,cap2,L2,vp1,vt1,by simp,by go_num,by have:=HRi.out;simp;omega,by omega,by omega,by omega,HR2,HF⟩
     case measure=>simp [intOf];omega
    ·have h4F:decide ((i:Int)<4)=false:=by simp;omega
     go_wp2_with fail
     go_meet
     exact ⟨R,ra,rc,L,vp,vt,rfl,by omega,by omega,HR,H⟩
   ·have hltF:decide ((i:Int)<(xs.length:Int))=false:=by simp;omega
    go_wp2_with fail
    go_meet
    exact ⟨R,ra,rc,L,vp,vt,rfl,by omega,by omega,HR,H⟩
 case rest=>
 clear H3;obtain ⟨R,ra,rc,L,vp,vt,rfl,hR4,hL4,HR,H⟩:=hcut;have HOR:=zq (nd_order H.out (by omega));obtain ⟨ho1,ho2,ho3,-⟩:=order_is (zxl HR.out);obtain ⟨rs,hrs⟩: ∃rs,rs=zdw R:=⟨_,rfl⟩;rw [←hrs] at HOR ho1 ho2 ho3;have HRI:=zq ho1;have HSU:Hid (∀r∈rs,SumR L r):=zq (fun r hr=>HR.out r (ho2 r hr));have hrs4:rs.length≤4:=by omega
 clear H HR ho1 ho2 ho3 hrs
 go_wp2_with fail
 with_reducible refine HOR.out.mono ?_
 rintro e w7 ⟨oa,oc,rfl,hoc,h7⟩;have H7:=zq h7;have hocI:(rs.length:Int)≤(oc:Int):=by omega
 clear h7 HOR hoc
 go_upto_block 2 with fail
 go_cut [] (fun wx=> ∃(tab:List Td) (out:List (Int×Bys)) (u:Nat) (L':Nt) (vp:Value) (vt:Rn),L'.length≤100∧Hid (DoneT f rs k rs.length tab)∧Hid (NdIs W.heap.size W wx x (prS f (id:Int) tab out u) L' (rnR rn vp vt L' [blk (q+1) (stdO f),blk q (twO x.nt rn),batR (.slice oa rs.length oc) rs])))
 case first=>
  go_wp2_with fail
  go_loopw [73] (fun nv wr=> ∃(i:Nat) (tab:List Td) (out:List (Int×Bys)) (u:Nat) (L':Nt) (vp:Value) (vt:Rn),i≤rs.length∧nv= .int .i64 i∧u≤4*i∧L'.length≤10+2*u∧out.length≤13*u∧Hid (DoneT f rs k i tab)∧Hid (∀r∈rs,SumR L' r)∧Hid (NdIs W.heap.size W wr x (prS f (id:Int) tab out u) L' (rnR rn vp vt L' [blk (q+1) (stdO f),blk q (twO x.nt rn),batR (.slice oa rs.length oc) rs]))) (fun nv _=>rs.length-(intOf nv).toNat)
  case atStart=>exact ⟨0,[],[],0,L,_,_,by omega,rfl,by omega,by omega,by simp,zq (DoneT.zero _ _ _),HSU,H7⟩
  case round=>
   clear H7 HSU;obtain ⟨i,tab,out,u,L1,vp1,vt1,hi,rfl,hu,hL1,ho1,HD,HSU,H⟩:=hrel;have hi0':(0:Int)≤(i:Int):=by omega
   by_cases hlt:i<rs.length
   ·have hltI:(i:Int)<(rs.length:Int):=by omega
    have HLT:=zq (HD.out.lt HRI.out (zxl HSU.out) hlt);have hat:reqAt rs i=rs[i]:=by unfold reqAt;rw [List.getD_eq_getElem?_getD,List.getElem?_eq_getElem hlt];rfl
    have HRM:Hid (rs[i]?=some rs[i]):=zq (by simp);have HR1:Hid (rs[i]∈rs):=zq (List.getElem_mem hlt);rw [hat] at HLT;generalize hrg:rs[i]=r at*;clear hrg;have HAT:=zq hat;have hdl:=HD.out.len;have hu2:u≤100:=by omega
    clear hat
    go_wp2_with fail
    go_loopw [16,17] (fun nv jv wr=> ∃(n j:Nat) (tab':List Td) (out':List (Int×Bys)) (u':Nat) (L':Nt) (vp:Value) (vt:Rn),nv= .int .i64 n∧jv= .int .i64 j∧n≤k∧j≤n+1∧Hid (j=n+1→id<j)∧u'≤4*i+n∧L'.length≤10+2*u'∧out'.length≤13*u'∧Hid (TabG f id r n j tab tab')∧Hid (∀r∈rs,SumR L' r)∧Hid (NdIs W.heap.size W wr x (prS f (id:Int) tab' out' u') L' (rnR rn vp vt L' [blk (q+1) (stdO f),blk q (twO x.nt rn),batR (.slice oa rs.length oc) rs]))) (fun _ jv _=>20-(intOf jv).toNat)
    case atStart=>exact ⟨0,0,tab,out,u,L1,vp1,vt1,rfl,rfl,by omega,by omega,zq (by omega),by omega,hL1,ho1,zq (by rw [←HAT.out];exact DoneT.start tab),HSU,H⟩
    case round=>
     clear H HSU hL1 ho1 hu hu2;obtain ⟨n,j,tab1,out1,u1,L2,vp2,vt2,rfl,rfl,hnk,hjn,HJ,hu1,hL2,ho2,HT,HSU,H⟩:=hrel;have hj0:(0:Int)≤(j:Int):=by omega
     have hn0:(0:Int)≤(n:Int):=by omega
     have hj9:(j:Int)≤100:=by omega
     have hn9:(n:Int)≤100:=by omega
     by_cases hlk:n<k
     ·have hlkI:(n:Int)<(k:Int):=by omega
      by_cases hje:j=id
      ·have hjb:((j:Int) !=(id:Int))=false:=by simp [hje]
       have hjn2:j≤n:=by
        by_cases h:j=n+1
        ·have:=HJ.out h;omega
        ·omega
       have HT2:=zq HT.out.skip;have HJ2:Hid (j+1=n+1→id<j+1):=zq (by omega);clear hje HT HJ
       go_wp2_with fail
       go_roundw
       case rel=>exact ⟨n,j+1,tab1,out1,u1,L2,vp2,vt2,rfl,by go_num,hnk,by omega,HJ2,hu1,hL2,ho2,HT2,HSU,H⟩
       case measure=>simp [intOf];omega
      ·have hjb:((j:Int) !=(id:Int))=true:=by simp;omega
       have hsr:=HSU.out r HR1.out;have hc0:0≤r.client:=by rw [hsr.client];omega
       have hc1:r.client<2:=by rw [hsr.client];omega
       obtain ⟨rr,hr,hkk⟩:=H.out.drew.side;have HG:=zq (zuu (vb:= .slice (some ⟨wr.heap.size,0,none⟩) 1 1) (r:=r) (j:=j) (n:=n) (done:=tab) (W:=(wr.alloc (rqO r)).drew) (hkk _ _ (znl hr r)) hf1 hf2 hid3 hsr.good hsr.s hsr.time hc0 hc1 (by omega) hje HLT.out (by omega) HT.out (by omega) (by omega) (by omega));have HJ2:Hid (j+1=n+1+1→id<j+1):=zq (by have:=HJ.out;omega);have c0:wr.drew.cell? ⟨q,0,none⟩=some (.pointer (some ⟨x.nt,0,none⟩)):=zaa (hr.blkAt 4 rfl) 0 rfl;have c1:wr.drew.cell? ⟨q,1,none⟩=some (.pointer (some ⟨rn,0,none⟩)):=zaa (hr.blkAt 4 rfl) 1 rfl;obtain ⟨ao',cap',hv',hbc,-,-,-,h5⟩:=zcn (hr.get 5 rfl);simp only [Value.slice.injEq] at hv';obtain ⟨rfl,-,rfl⟩:=hv';obtain ⟨b,o,rfl,hbs,hcs⟩:=h5 (by omega);obtain ⟨q0,q1,q2,q3,q4,q5⟩:=zba hcs i r HRM.out;clear hcs h5 hbs hbc hr hkk hsr hc0 hc1 HT HJ H hje
       go_upto_region 19 with fail
       refine Held.wp_held [(q,0,[.pointer (some ⟨x.nt,0,none⟩),.pointer (some ⟨rn,0,none⟩)])] [(1,0)] [9] [] (by kernel_rfl) (by kernel_rfl) ⟨⟨c0,c1,trivial⟩,trivial⟩ ?_;simp only [Held.cutAt,Held.walk,List.take_succ_cons,List.take_zero,List.drop_succ_cons,List.drop_zero]
       go_wp2_with fail
       with_reducible refine HG.out.mono ?_
       rintro e w8 ⟨rfl,tab2,out2,L3,vp3,vt3,hT2,hpx,hl3,ho3,h8⟩;have HT2:=zq hT2;have HSU2:Hid (∀r∈rs,SumR L3 r):=zq (fun r hr=>(HSU.out r hr).px hpx);have H8:=zq (zhz h8);clear hT2 hpx h8 HG c0 c1 q0 q1 q2 q3 q4 q5 HSU
       go_wp2_with fail
       refine ⟨trivial,by rfl,⟨⟨rfl,.inr ⟨by kernel_rfl,by kernel_rfl⟩⟩,trivial⟩,?_⟩
       go_wp2_with fail
       go_roundw
       case rel=>exact ⟨n+1,j+1,tab2,out2,u1+1,L3,vp3,vt3,by go_num,by go_num,by omega,by omega,HJ2,by omega,by omega,by omega,HT2,HSU2,zq (by have:=H8.out;exact this)⟩
       case measure=>simp [intOf];omega
     ·have hlkF:decide ((n:Int)<(k:Int))=false:=by simp;omega
      obtain rfl:n=k:=by omega
      have HDN:Hid (DoneT f rs n (i+1) tab1):=zq (HD.out.next (by rw [HAT.out];exact HT.out));clear HT HJ HD
      go_wp2_with fail
      go_roundw
      case rel=>exact ⟨i+1,tab1,out1,u1,L2,vp2,vt2,by omega,by go_num,by omega,hL2,ho2,HDN,HSU,H⟩
      case measure=>simp [intOf];omega
   ·have hltF:decide ((i:Int)<(rs.length:Int))=false:=by simp;omega
    obtain rfl:i=rs.length:=by omega
    go_wp2_with fail
    go_meet
    exact ⟨tab,out,u,L1,vp1,vt1,by omega,HD,H⟩
 case rest=>
 have HGD:Hid (∀r∈rs,RqGood 2 r):=zq (fun r hr=>(HSU.out r hr).good);clear H7 HSU HRI;obtain ⟨tab,out,u,L1,vp1,vt1,hL1,HD,H⟩:=hcut;have HO:=zq (zl2 H.out);clear H
 go_wp2_with fail
 with_reducible refine HO.out.mono ?_
 rintro e w9 ⟨oa9,ok9,os9,rfl,-,h9⟩;have H9:Hid (NdIs W.heap.size W w9 x (prS f (id:Int) tab [] u) L1 [blk (q+1) (stdO f),blk q (twO x.nt rn),batR (.slice oa rs.length oc) rs]):=zq (h9.drop.drop.drop.drop.drop);clear h9 HO;obtain ⟨g,hg⟩: ∃g,g=(decide (f≤k∧0<k∧0<rs.length)&&decide (id≤f)):=⟨_,rfl⟩;have HT:=zq (pp_tick H9.out hf1 hf2 hid3 HD.out HGD.out (by omega) hg);have HGE:=zq hg;clear HD H9 hg
 go_wp2_with fail
 with_reducible refine HT.out.mono ?_
 rintro e w10 ⟨rfl,s2,l2,hE,hc,h10⟩;have HO2:=zq (zl2 h10);obtain ⟨s3,hs3⟩: ∃s3:Ns,s3= {s2 with out:=[]}:=⟨_,rfl⟩;rw [←hs3] at HO2;have HC3:Hid (s3.c=stdC f):=zq (by rw [hs3];exact hc);have HE:=zq hE;clear HT hE hc h10 hs3
 go_wp2_with fail
 with_reducible refine HO2.out.mono ?_
 rintro e w11 ⟨ob,ok,os,rfl,hos,h11⟩;have HOS:=zq hos;have H11:=zq h11;have hlen:os.length≤24:=by
  have:=HE.out.len hos;rw [this];cases g<;>simp<;>omega
 obtain ⟨rr,hr,-⟩:=H11.out.side;obtain ⟨ao',cap',hv',hokc,-⟩:=zae (k:=0) hr rfl;have hokI:(os.length:Int)≤(ok:Int):=by
  simp only [Value.slice.injEq] at hv';omega
 have g0:w11.cell? ⟨q+1,0,none⟩=some (.int .i64 f):=zaa (hr.blkAt 2 rfl) 0 rfl;obtain ⟨rdy,hrdy⟩: ∃rdy,rdy=decide (f≤k∧0<k∧0<rs.length):=⟨_,rfl⟩;rw [←hrdy] at HGE;have HRD:=zq hrdy;have HRL:Hid (rdy=true→0<rs.length):=zq (fun h=>by rw [hrdy] at h;exact (of_decide_eq_true h).2.2);clear hr h11 HO2 hos hv' hokc hrdy
 go_upto_region 25 with fail
 go_cut [19] (fun c wx=>c= .bool rdy∧Hid (NdIs W.heap.size W wx x s3 l2 (redR (.slice ob os.length ok) 2 os.length (os.flatMap sdC)::sdsR os::[blk (q+1) (stdO f),blk q (twO x.nt rn),batR (.slice oa rs.length oc) rs])))
 case first=>
  have hf0:(0:Int)≤(f:Int):=by omega
  have hk0:(0:Int)≤(k:Int):=by omega
  by_cases h1:f≤k
  ·have h1I:(f:Int)≤(k:Int):=by omega
   have h1J:(f:Int)+1≤(k:Int)+1:=by omega
   by_cases h2:0<k
   ·have h2I:(0:Int)<(k:Int):=by omega
    by_cases h3:0<rs.length
    ·have h3I:(0:Int)<(rs.length:Int):=by omega
     have HR:Hid (rdy=true):=zq (by rw [HRD.out];simp only [h1,h2,h3];rfl)
     go_wp2_with fail
     go_meet
     exact ⟨by rw [HR.out],H11⟩
    ·have h3I: ¬(0:Int)<(rs.length:Int):=by omega
     have h3J:decide ((0:Int)<(rs.length:Int))=false:=by simpa using h3I
     have HR:Hid (rdy=false):=zq (by rw [HRD.out];exact decide_eq_false (fun h=>h3 h.2.2))
     go_wp2_with fail
     go_meet
     exact ⟨by rw [HR.out],H11⟩
   ·exact absurd (show 0<k by omega) h2
  ·have h1I: ¬(f:Int)≤(k:Int):=by omega
   have h1J: ¬(f:Int)+1≤(k:Int)+1:=by omega
   have h1K:decide ((f:Int)≤(k:Int))=false:=by simpa using h1
   have h1L:decide ((f:Int)+1≤(k:Int)+1)=false:=decide_eq_false h1J;have HR:Hid (rdy=false):=zq (by rw [HRD.out];exact decide_eq_false (fun h=>h1 h.1));have hkl:(k:Int)<(f:Int):=by omega
   clear h1 h1I h1J h1K h1L hkf
   go_wp2_with fail
   go_meet
   exact ⟨by rw [HR.out],H11⟩
 case rest=>
 clear H11 g0 HRD;obtain ⟨rfl,H11⟩:=hcut
 go_wp2_with fail
 go_loopw [120] (fun nv wr=> ∃j:Nat,j≤os.length∧nv= .int .i64 j∧Hid (NdIs W.heap.size W wr x s3 l2 (redR (.slice ob os.length ok) 2 os.length (os.flatMap sdC)::sdsR os::[blk (q+1) (stdO f),blk q (twO x.nt rn),batR (.slice oa rs.length oc) rs]))) (fun nv _=>os.length-(intOf nv).toNat)
 case atStart=>exact ⟨0,by omega,rfl,H11⟩
 case round=>
  clear H11;obtain ⟨j,hj,rfl,H1⟩:=hrel;have hj0:(0:Int)≤(j:Int):=by omega
  by_cases hlt:j<os.length
  ·have hjI:(j:Int)<(os.length:Int):=by omega
   obtain ⟨hgt,sl,ho⟩:=HE.out.at HOS.out j hlt;obtain ⟨kd,hkd⟩: ∃kd:Int,kd=(if j<3*f then 3 else 4):=⟨_,rfl⟩;rw [←hkd] at ho;have hk34:kd=3∨kd=4:=by rw [hkd];split<;>simp
   obtain ⟨r1,hs1,-⟩:=H1.out.side;obtain ⟨ao,cap,hv,-,-,-,-,hcl⟩:=zae (k:=0) hs1 rfl;simp only [Value.slice.injEq] at hv;obtain ⟨b,o,hao,hbl,-⟩:=hcl (by omega);rw [←hv.1] at hao;subst hao;have hrd:=rd_sd (o:=os[j]) (List.getElem_mem hlt) (ss:=(redR (.slice (some ⟨b,o,none⟩) os.length ok) 2 os.length (os.flatMap sdC)::sdsR os::[blk (q+1) (stdO f),blk q (twO x.nt rn),batR (.slice oa rs.length oc) rs])) (by simp) hs1 (fun r hr=>by simp only [List.mem_append];exact .inl hr);obtain ⟨bo,bk,hbv,-,-⟩:=hrd.f;have hrd2:=hrd;rw [hbv] at hrd2;have HP1:=zq (zx4 H1.out.drew HC3.out hrd2 ho);have HP2:=zq (zx4 (H1.out.box (.cells #[.int .i64 0,.int .i64 0,.int .i64 0,.int .i64 0,.int .i64 0,.int .i64 0,.slice none 0 0,.slice none 0 0,.slice none 0 0,.slice none 0 0] 47 (0,0))).drew HC3.out (hrd2.sub (fun q hq=>List.mem_cons_of_mem _ hq)) ho);have HQ:Hid (∀(w':World) (hd:List Res),NdIs W.heap.size W w' x s3 l2 (hd++(redR (.slice (some ⟨b,o,none⟩) os.length ok) 2 os.length (os.flatMap sdC)::sdsR os::[blk (q+1) (stdO f),blk q (twO x.nt rn),batR (.slice oa rs.length oc) rs]))→OpD b (o+j*2+1) q f x.nt (.slice bo os[j].b.length bk) w'):=zq (fun w' hd h=>pp_cells h hlt hbv);generalize os[j].b.length=bl at*;have HE0:Hid (∀(w':World) (mm:Mm),NdIs W.heap.size W w' x s3 l2 (mmR mm (redR (.slice (some ⟨b,o,none⟩) os.length ok) 2 os.length (os.flatMap sdC)::sdsR os::[blk (q+1) (stdO f),blk q (twO x.nt rn),batR (.slice oa rs.length oc) rs]))→OpD b (o+j*2+1) q f x.nt (.slice bo bl bk) w'):=zq (fun w' mm h=>HQ.out w' [_,_,_,_,_,_] h);have HE1:Hid (∀(w':World) (mm:Mm),NdIs W.heap.size W w' x s3 l2 (mmR mm (blk wr.heap.size (.cells #[.int .i64 0,.int .i64 0,.int .i64 0,.int .i64 0,.int .i64 0,.int .i64 0,.slice none 0 0,.slice none 0 0,.slice none 0 0,.slice none 0 0] 47 (0,0))::(redR (.slice (some ⟨b,o,none⟩) os.length ok) 2 os.length (os.flatMap sdC)::sdsR os::[blk (q+1) (stdO f),blk q (twO x.nt rn),batR (.slice oa rs.length oc) rs])))→OpD b (o+j*2+1) q f x.nt (.slice bo bl bk) w'):=zq (fun w' mm h=>HQ.out w' [_,_,_,_,_,_,_] h);have HE2:Hid (∀(w':World) (mm:Mm) (q':Nat) (ob':Obj),NdIs W.heap.size W w' x s3 l2 (mmR mm (blk q' ob'::(redR (.slice (some ⟨b,o,none⟩) os.length ok) 2 os.length (os.flatMap sdC)::sdsR os::[blk (q+1) (stdO f),blk q (twO x.nt rn),batR (.slice oa rs.length oc) rs])))→OpD b (o+j*2+1) q f x.nt (.slice bo bl bk) w'):=zq (fun w' mm q' ob' h=>HQ.out w' [_,_,_,_,_,_,_] h);have d0:OpD b (o+j*2+1) q f x.nt (.slice bo bl bk) wr.drew:=HQ.out _ [] H1.out.drew;clear hv hcl hrd hrd2 ho hkd hs1 hbv
   go_upto_region 29 with fail
   go_cut [21,23] (fun mv ev wx=> ∃(e21:Nat) (mm:Mm),mv=ptrV e21∧ev= .int .i64 0∧Hid (mm.ms=crtM kd 0 id 1 (rs.take 2) id)∧Hid (NdIs W.heap.size W wx x s3 l2 (mmR mm (blk e21 (mmO mm)::(redR (.slice (some ⟨b,o,none⟩) os.length ok) 2 os.length (os.flatMap sdC)::sdsR os::[blk (q+1) (stdO f),blk q (twO x.nt rn),batR (.slice oa rs.length oc) rs])))))
   case first=>
    go_region_held3 (fun w'=>OpD b (o+j*2+1) q f x.nt (.slice bo bl bk) w')
     (first | (with_reducible exact d0) | (with_reducible exact e0) | (with_reducible exact opD_ad d0) | (with_reducible exact opD_ad e0) | (with_reducible exact e1) | (with_reducible exact zxy d0) | (with_reducible exact zxy e0))
     (first | (go_at_call 27;(with_reducible refine HP1.out.mono ?_);rintro e w3 ⟨mm,rfl,hmm,h3⟩;have e0:=HE0.out w3 mm h3;obtain ⟨kind,fm,view,inst,seq,res,a1,bs,c1,a2,vs,c2,a3,cts,c3,a4,pts,c4,rfl⟩:=ziq h3;have H3:=zq h3;clear h3) | (go_at_call 27;(with_reducible refine HP2.out.mono ?_);rintro e w3 ⟨mm,rfl,hmm,h3⟩;have e0:=HE1.out w3 mm h3;obtain ⟨kind,fm,view,inst,seq,res,a1,bs,c1,a2,vs,c2,a3,cts,c3,a4,pts,c4,rfl⟩:=ziq h3;have H3:=zq h3;clear h3;obtain ⟨r3,hs3,-⟩:=H3.out.side;have b0:=hs3.blkAt 6 rfl;have x0:=zaa b0 0 rfl;have z0:=zab b0 0;have x1:=zaa b0 1 rfl;have z1:=zab b0 1;have x2:=zaa b0 2 rfl;have z2:=zab b0 2;have x3:=zaa b0 3 rfl;have z3:=zab b0 3;have x4:=zaa b0 4 rfl;have z4:=zab b0 4;have x5:=zaa b0 5 rfl;have z5:=zab b0 5;have x6:=zaa b0 6 rfl;have z6:=zab b0 6;have x7:=zaa b0 7 rfl;have z7:=zab b0 7;have x8:=zaa b0 8 rfl;have z8:=zab b0 8;have x9:=zaa b0 9 rfl;have z9:=zab b0 9;have H4:=zq (nd_ten (v0:= .int .i64 kind) (v1:= .int .i64 fm) (v2:= .int .i64 view) (v3:= .int .i64 inst) (v4:= .int .i64 seq) (v5:= .int .i64 res) (v6:= .slice a1 bs.length c1) (v7:= .slice a2 vs.length c2) (v8:= .slice a3 cts.length c3) (v9:= .slice a4 pts.length c4) H3.out);have e1:=HE2.out _ _ _ _ H4.out;clear b0 hs3))
    ·have HZ:Hid (NdIs W.heap.size W (w3.alloc (mmO ⟨kind,fm,view,inst,seq,res,.slice a1 bs.length c1,bs,.slice a2 vs.length c2,vs,.slice a3 cts.length c3,cts,.slice a4 pts.length c4,pts⟩)) x s3 l2 (mmR ⟨kind,fm,view,inst,seq,res,.slice a1 bs.length c1,bs,.slice a2 vs.length c2,vs,.slice a3 cts.length c3,cts,.slice a4 pts.length c4,pts⟩ (blk w3.heap.size (mmO ⟨kind,fm,view,inst,seq,res,.slice a1 bs.length c1,bs,.slice a2 vs.length c2,vs,.slice a3 cts.length c3,cts,.slice a4 pts.length c4,pts⟩)::(redR (.slice (some ⟨b,o,none⟩) os.length ok) 2 os.length (os.flatMap sdC)::sdsR os::[blk (q+1) (stdO f),blk q (twO x.nt rn),batR (.slice oa rs.length oc) rs])))):=zq ((H3.out.box (mmO ⟨kind,fm,view,inst,seq,res,.slice a1 bs.length c1,bs,.slice a2 vs.length c2,vs,.slice a3 cts.length c3,cts,.slice a4 pts.length c4,pts⟩)).perm ((List.perm_append_comm (l₁:=[_]) (l₂:=[_,_,_,_,_,_])).append_right _))
     have HMM:=zq hmm;clear H3 d0 e0 HP1 HP2 HE0 HE1 HE2 HQ hmm
     go_wp2_with fail
     go_meet
     exact ⟨_,_,rfl,rfl,HMM,HZ⟩
    ·have HMM:=zq hmm
     clear H3 d0 e0 e1 HP1 HP2 HE0 HE1 HE2 HQ hmm x0 x1 x2 x3 x4 x5 x6 x7 x8 x9 z0 z1 z2 z3 z4 z5 z6 z7 z8 z9
     go_wp2_with fail
     go_meet
     exact ⟨_,_,rfl,rfl,HMM,H4⟩
   case rest=>
   clear d0 HP1 HP2 HE0 HE1 HE2 HQ H1;obtain ⟨e21,mm,rfl,rfl,HMM,H1⟩:=hcut;obtain ⟨kind,fm,view,inst,seq,res,a1,bs,c1,a2,vs,c2,a3,cts,c3,a4,pts,c4,rfl⟩:=ziq H1.out;have hm:=HMM.out;obtain rfl:kind=kd:=congrArg Ms.kind hm;obtain rfl:inst=(id:Int):=congrArg Ms.inst hm;obtain rfl:seq=1:=congrArg Ms.seq hm;obtain rfl:bs=rs.take 2:=congrArg Ms.rs hm;have HND:Hid (NdIs W.heap.size W wc x s3 l2 (redR (.slice (some ⟨b,o,none⟩) os.length ok) 2 os.length (os.flatMap sdC)::sdsR os::[blk (q+1) (stdO f),blk q (twO x.nt rn),batR (.slice oa rs.length oc) rs])):=zq ((zhz H1.out).drop);obtain ⟨rr,hr,-⟩:=H1.out.drew.side;have hb:=hr.blkAt 6 rfl;have x0:wc.cell? ⟨e21,0,none⟩=some (.int .i64 kind):=zaa hb 0 rfl;clear hm HMM;rcases hk34 with rfl | rfl
   ·have hrt:rdy=true∧0<rs.length:=by
     have h1:=HGE.out;rw [hgt] at h1;have h2:rdy=true:=((Bool.and_eq_true _ _).mp h1.symm).1;exact ⟨h2,HRL.out h2⟩
    obtain ⟨rfl,hrl⟩:=hrt;have x3:wc.cell? ⟨e21,3,none⟩=some (.int .i64 (id:Int)):=zaa hb 3 rfl;have x4:wc.cell? ⟨e21,4,none⟩=some (.int .i64 1):=zaa hb 4 rfl;have x6:wc.cell? ⟨e21,6,none⟩=some (.slice a1 (rs.take 2).length c1):=zaa hb 6 rfl;have g2:wc.cell? ⟨q+1,2,none⟩=some (.int .i64 2):=zaa (hr.blkAt 9 rfl) 2 rfl;obtain ⟨M,hM⟩: ∃M:Nat,M=min rs.length 2:=⟨_,rfl⟩;have hMI:min (rs.length:Int) 2=(M:Int):=by omega
    have hM0:(0:Int)≤(M:Int):=by omega
    have hMc:(M:Int)≤(oc:Int):=by omega
    have hb2:=zcn (hr.get 11 rfl);have hb1:Bat wc.drew (.slice a1 (rs.take 2).length c1) (rs.take 2):=zae (k:=5) hr rfl;have HSM:=zq (zwe _ _ (rs.take 2) (rs.take M) wc.drew (by rw [List.length_take];omega) (by rw [List.length_take];omega) hb1 (zsp hb2 rfl (k:=M) (by omega)));have htk:decide (rs.take 2=rs.take M)=true:=by
     rw [decide_eq_true_iff,hM];by_cases h:rs.length≤2
     ·rw [Nat.min_eq_left h,List.take_of_length_le h,List.take_of_length_le (Nat.le_refl _)]
     ·rw [Nat.min_eq_right (by omega)]
    rw [htk] at HSM;obtain ⟨ao',cap',hv',-,-,-,-,h5⟩:=hb2;simp only [Value.slice.injEq] at hv';obtain ⟨rfl,-,rfl⟩:=hv';obtain ⟨b',o',rfl,-,-⟩:=h5 hrl;clear hb hr hb1 h5 htk H1 hM;generalize (rs.take 2).length=tl at*
    go_upto_region 32 with fail
    refine Mix.wp_text2 (by kernel_rfl) (by kernel_rfl) ?_
    go_wp2_with fail
    with_reducible refine HSM.out.mono ?_
    rintro e w6 ⟨rfl,hu⟩;have HF:=zq (HND.out.drew.upd0 hu);clear hu HSM HND x0 x3 x4 x6 g2
    go_wp2_with fail
    refine ⟨by rfl,?_⟩
    go_wp2_with fail
    go_roundw
    case rel=>exact ⟨j+1,by omega,by go_num,HF⟩
    case measure=>simp [intOf];omega
   ·clear hb hr H1
    go_upto_region 32 with fail
    go_quiet (fail)
    go_wp2_with fail
    go_roundw
    case rel=>exact ⟨j+1,by omega,by go_num,zq (HND.out.drewN _)⟩
    case measure=>simp [intOf];omega
  ·obtain rfl:j=os.length:=by omega
   have hjF:decide ((os.length:Int)<(os.length:Int))=false:=by simp
   have HKI:=zq (pp_kinds HE.out HC3.out hf2 HOS.out H1.out);obtain ⟨rr,hr,-⟩:=H1.out.side;have hb:=hr.blkAt 2 rfl;have c0:wr.cell? ⟨q,0,none⟩=some (.pointer (some ⟨x.nt,0,none⟩)):=zaa (hr.blkAt 3 rfl) 0 rfl;have s0':wr.cell? ⟨q+1,0,none⟩=some (.int .i64 (f:Int)):=zaa hb 0 rfl;have s1':wr.cell? ⟨q+1,1,none⟩=some (.int .i64 2):=zaa hb 1 rfl;have s2':wr.cell? ⟨q+1,2,none⟩=some (.int .i64 2):=zaa hb 2 rfl;have s3':wr.cell? ⟨q+1,3,none⟩=some (.int .i64 4):=zaa hb 3 rfl;have s4':wr.cell? ⟨q+1,4,none⟩=some (.int .i64 64):=zaa hb 4 rfl;have s5':wr.cell? ⟨q+1,5,none⟩=some (.int .i64 8):=zaa hb 5 rfl;have s6':wr.cell? ⟨q+1,6,none⟩=some (.int .i64 8):=zaa hb 6 rfl;have s7':wr.cell? ⟨q+1,7,none⟩=some (.int .i64 8):=zaa hb 7 rfl;have s8':wr.cell? ⟨q+1,8,none⟩=some (.int .i64 1):=zaa hb 8 rfl;have s9':wr.cell? ⟨q+1,9,none⟩=some (.int .i64 2):=zaa hb 9 rfl;have s10':wr.cell? ⟨q+1,10,none⟩=some (.int .i64 12):=zaa hb 10 rfl;have s11':wr.cell? ⟨q+1,11,none⟩=some (.int .i64 8):=zaa hb 11 rfl;have s12':wr.cell? ⟨q+1,12,none⟩=some (.int .i64 6):=zaa hb 12 rfl;have s13':wr.cell? ⟨q+1,13,none⟩=some (.int .i64 2):=zaa hb 13 rfl;have s14':wr.cell? ⟨q+1,14,none⟩=some (.int .i64 6):=zaa hb 14 rfl;clear hb hr H1 hjF;have hjF:decide ((os.length:Int)<(os.length:Int))=false:=by simp
   go_wp2_with fail
   with_reducible refine HKI.out.mono ?_
   rintro e w12 ⟨rfl,h12⟩;have HU:Hid (Upd [] W w12):=zq (nd_upd h12);have H12:=zq h12;clear h12 HKI c0 s0' s1' s2' s3' s4' s5' s6' s7' s8' s9' s10' s11' s12' s13' s14'
   go_upto_region 36 with fail
   have HB:=heap_alloc_new w12 (.cells #[.int .i64 0,.int .i64 0,.int .i64 0,.int .i64 (kW f g),.int .i64 (kW f g),.int .i64 0,.int .i64 0,.int .i64 0,.int .i64 0,.int .i64 0,.int .i64 0] 84);have u3:(w12.alloc (.cells #[.int .i64 0,.int .i64 0,.int .i64 0,.int .i64 (kW f g),.int .i64 (kW f g),.int .i64 0,.int .i64 0,.int .i64 0,.int .i64 0,.int .i64 0,.int .i64 0] 84)).cell? ⟨w12.heap.size,3,none⟩=some (.int .i64 (kW f g)):=zaa HB 3 rfl;have u4:(w12.alloc (.cells #[.int .i64 0,.int .i64 0,.int .i64 0,.int .i64 (kW f g),.int .i64 (kW f g),.int .i64 0,.int .i64 0,.int .i64 0,.int .i64 0,.int .i64 0,.int .i64 0] 84)).cell? ⟨w12.heap.size,4,none⟩=some (.int .i64 (kW f g)):=zaa HB 4 rfl;have HU2:Hid (Upd [] W (w12.alloc (.cells #[.int .i64 0,.int .i64 0,.int .i64 0,.int .i64 (kW f g),.int .i64 (kW f g),.int .i64 0,.int .i64 0,.int .i64 0,.int .i64 0,.int .i64 0,.int .i64 0] 84))):=zq (HU.out.alloc _);obtain ⟨rr,hr,-⟩:=H12.out.side;have g0:(w12.alloc (.cells #[.int .i64 0,.int .i64 0,.int .i64 0,.int .i64 (kW f g),.int .i64 (kW f g),.int .i64 0,.int .i64 0,.int .i64 0,.int .i64 0,.int .i64 0,.int .i64 0] 84)).cell? ⟨q+1,0,none⟩=some (.int .i64 f):=zaq (zaa (hr.blkAt 2 rfl) 0 rfl);have hcase:(rdy=true∧id≤f∧g=true)∨(rdy=true∧f<id∧g=false)∨(rdy=false∧g=false):=by
    have h1:=HGE.out;by_cases h2:id≤f
    ·rw [decide_eq_true h2,Bool.and_true] at h1
     cases hr2:rdy with
     | true=>exact .inl ⟨rfl,h2,h1.trans hr2⟩
     | false=>exact .inr (.inr ⟨rfl,h1.trans hr2⟩)
    ·rw [decide_eq_false h2,Bool.and_false] at h1
     cases hr2:rdy with
     | true=>exact .inr (.inl ⟨rfl,by omega,h1⟩)
     | false=>exact .inr (.inr ⟨rfl,h1⟩)
   clear HB hr HU;generalize World.alloc w12 _=w13 at*;generalize w12.heap.size=e24 at*;rcases hcase with ⟨hr1,hi1,hg1⟩ | ⟨hr1,hi1,hg1⟩ | ⟨hr1,hg1⟩
   ·have v3:w13.cell? ⟨e24,3,none⟩=some (.int .i64 (3*(f:Int))):=by rw [u3,hg1];rfl
    have v4:w13.cell? ⟨e24,4,none⟩=some (.int .i64 (3*(f:Int))):=by rw [u4,hg1];rfl
    have hiI:(id:Int)≤(f:Int):=by omega
    have kk:((3*(f:Int))==3*(f:Int))=true:=by simp
    have HWk:=zq (zhi w13);clear H12 HGE HRL HE u3 u4 hg1 hi1;subst hr1
    go_wp2_with fail
    with_reducible refine (HNo.out _).mono ?_
    rintro e w' ⟨rfl,rfl⟩
    go_wp2_with fail
    with_reducible refine HWk.out.mono ?_
    rintro e w14 ⟨rfl,hu⟩;have HU3:=zq (HU2.out.trans hu);clear hu HWk HU2
    go_wp2_with fail
    go_ret
    exact ⟨rfl,HU3.out⟩
   ·have v3:w13.cell? ⟨e24,3,none⟩=some (.int .i64 0):=by rw [u3,hg1];rfl
    have v4:w13.cell? ⟨e24,4,none⟩=some (.int .i64 0):=by rw [u4,hg1];rfl
    have hiG:decide (id≤f)=false:=by simp;omega
    have hiF:decide ((id:Int)≤(f:Int))=false:=decide_eq_false (by omega);have hiN:(f:Int)<(id:Int):=by omega
    have HWk:=zq (zhi w13);clear H12 HGE HRL HE u3 u4 hg1 hi1;subst hr1
    go_wp2_with fail
    with_reducible refine HWk.out.mono ?_
    rintro e w14 ⟨rfl,hu⟩;have HU3:=zq (HU2.out.trans hu);clear hu HWk HU2
    go_wp2_with fail
    go_ret
    exact ⟨rfl,HU3.out⟩
   ·have v3:w13.cell? ⟨e24,3,none⟩=some (.int .i64 0):=by rw [u3,hg1];rfl
    have v4:w13.cell? ⟨e24,4,none⟩=some (.int .i64 0):=by rw [u4,hg1];rfl
    have HWk:=zq (zhi w13);clear H12 HGE HRL HE u3 u4 hg1;subst hr1
    go_wp2_with fail
    with_reducible refine HWk.out.mono ?_
    rintro e w14 ⟨rfl,hu⟩;have HU3:=zq (HU2.out.trans hu);clear hu HWk HU2
    go_wp2_with fail
    go_ret
    exact ⟨rfl,HU3.out⟩
end Go.Proofs.YtannckelmojkoaaGreat
