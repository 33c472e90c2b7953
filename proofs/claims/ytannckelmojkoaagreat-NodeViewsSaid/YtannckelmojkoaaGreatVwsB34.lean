/- Parts of the proof, one behind the other. -/
import Derived.Test.YtannckelmojkoaaGreatVwsB33
set_option maxHeartbeats 32000000
set_option maxRecDepth 100000
set_option linter.unusedVariables false
set_option linter.unusedSimpArgs false
namespace Go.Proofs.YtannckelmojkoaaGreat
open Go.RowKit Go.Heap
theorem views21_any (a0 a1 a2 a3 o0 o1 o2:Int) (W:World):
  Calls Tryz.prog 3 #[.int .i64 a0,.int .i64 a1,.int .i64 a2,.int .i64 a3,.agg #[.int .i64 o0,.int .i64 o1,.int .i64 o2]] W fun e w'=>e= .returned (.bool true)∧Upd [] W w':=by
 have hm0:=zf7 a0 4 (by omega);obtain ⟨f,hf⟩: ∃f:Nat,1+a0%4=f:=⟨(1+a0%4).toNat,by omega⟩;have hf1:1≤f:=by omega
 have hf2:f≤4:=by omega
 have hf1I:1≤(f:Int):=by omega
 have hf2I:(f:Int)≤4:=by omega
 have hm1:=zf7 a1 (3*(f:Int)+1) (by omega);have h0:=(Own.start (Below.refl W.heap.size W) (Nat.le_refl _)).box (opO3 o0 o1 o2);have HW1:=zq (fun w=>zb9 a1 (3*(f:Int)+1) w (by omega) (by omega));have HST:=zq (fun (w:World) (h:Own W.heap.size W w [blk W.heap.size (opO3 o0 o1 o2)])=>zwb a0 a1 f hf1 hf2 hf h);generalize a1%(3*(f:Int)+1)=idI at*;obtain ⟨id,hid⟩: ∃id:Nat,idI=(id:Int):=⟨idI.toNat,by omega⟩;subst hid;have hid3:id≤3*f:=by omega
 have HNo:=zq (fun w=>zel (f:Int) w hf1I hf2I);have HQu:=zq (fun w=>zf1 (f:Int) w hf1I hf2I);have HW2:=zq (fun w=>zb9 a2 12 w (by omega) (by omega));have hm2:=zf7 a2 12 (by omega);have HW3:=zq (fun w=>zb9 a3 5 w (by omega) (by omega));have hm3:=zf7 a3 5 (by omega);generalize a2%12=vI at*;generalize a3%5=sI at*;obtain ⟨view,hview⟩: ∃view:Int,1+vI=view:=⟨_,rfl⟩;obtain ⟨n,hn⟩: ∃n:Nat,1+sI=(n:Int):=⟨(1+sI).toNat,by omega⟩;have hv1:1≤view:=by omega
 have hv2:view≤12:=by omega
 have hn1:1≤n:=by omega
 have hn5:n≤5:=by omega
 have HPr:=zq (fun w=>zmn f view w hf1 hf2 (by omega) hv2);obtain ⟨k,hk⟩: ∃k:Int,k=zan f view 0:=⟨_,rfl⟩;rw [←hk] at HPr;have hk0:0≤k∧k≤3*(f:Int):=by
  rw [hk];unfold zan;rw [if_pos ⟨by omega,hv2,by omega,by omega⟩];have e1:=Int.emod_nonneg (view+0) (show (3*(f:Int)+1)≠0 by omega);have e2:=Int.emod_lt_of_pos (view+0) (show 0<(3*(f:Int)+1) by omega);omega
 obtain ⟨hk0,hk1⟩:=hk0;have HK:=zq hk;have H0:=zq h0;obtain ⟨i0,hi0,hz0,hz1,hz2⟩:=info_parts Tryz.infoPt2;clear hf hm0 h0 hm1 hk;go_enter Tryz.func3,Tryz.ntmps3
 go_upto_region 1 with fail
 generalize World.alloc W _=w0 at*;generalize he6:W.heap.size=e6 at*;have HE6:Hid (e6=W.heap.size):=zq he6.symm;clear he6;have HS:=zq (HST.out _ H0.out);clear HST H0
 go_wp2_with fail
 with_reducible refine HS.out.mono ?_
 rintro e w1 ⟨x,rn,rfl,h1⟩;clear HS;have h2:=(h1.box (twO x.nt rn)).box (stdO f);simp only [zav] at h2;have H2:=zq h2;clear h1 h2
 go_upto_region 4 with fail
 generalize World.alloc (World.alloc w1 _) _=w3 at*;generalize w1.heap.size=q at*;have H3:Hid (NdIs e6 W w3 x (newS (stdC f) (id:Int)) [] (rnR rn (.slice none 0 0) ⟨.slice none 0 0,[]⟩ [] [blk q (twO x.nt rn),blk (q+1) (stdO f),blk e6 (opO3 o0 o1 o2)])):=zq (by
  obtain ⟨rr,hr,hk⟩:=H2.out.side;exact hk _ _ ((((((hr.front 5 rfl rfl).front 1 rfl rfl).front 2 rfl rfl).front 5 rfl rfl).front 5 rfl rfl).front 5 rfl rfl))
 clear H2;obtain ⟨rr,hr,-⟩:=H3.out.side;have g0:w3.cell? ⟨q+1,0,none⟩=some (.int .i64 f):=zaa (hr.blkAt 4 rfl) 0 rfl;clear hr
 go_upto_region 5 with (first | ((with_reducible refine (HNo.out _).mono ?_);rintro e w' ⟨rfl,rfl⟩) | ((with_reducible refine (HW1.out _).mono ?_);rintro e w' ⟨rfl,rfl⟩))
 go_upto_region 6 with (first | ((with_reducible refine (HW2.out _).mono ?_);rintro e w' ⟨rfl,rfl⟩) | ((with_reducible refine (HW3.out _).mono ?_);rintro e w' ⟨rfl,rfl⟩))
 go_upto_region 7 with ((with_reducible refine (HPr.out _).mono ?_);rintro e w' ⟨rfl,rfl⟩)
 clear g0 HW1 HW2 HW3 HPr;by_cases hz:k=(id:Int)
 ·have hzB:(k==(id:Int))=true:=by rw [hz];simp
  have HWk:=zq (zlh w3);have hU:Hid (Upd [] W w3):=zq (vw_upd HE6.out H3.out);clear HK hk0 hk1
  go_wp2_with fail
  with_reducible refine HWk.out.mono ?_
  rintro e w4 ⟨rfl,hu⟩;have HU:=zq (hU.out.trans hu);clear hu HWk hU H3
  go_wp2_with fail
  go_ret
  exact ⟨rfl,HU.out⟩
 have hzB:(k==(id:Int))=false:=by rw [beq_eq_false_iff_ne];exact hz
 have HWa:=zq (fun w=>zb9 o1 64 w (by omega) (by omega));have HWb:=zq (fun w=>zb9 o2 99 w (by omega) (by omega));have hka:=zf7 o1 64 (by omega);have hkb:=zf7 o2 99 (by omega);generalize o1%64=key at*;generalize o2%99=val at*
 go_upto_region 9 with fail
 have d0:w3.drew.cell? ⟨e6,1,none⟩=some (.int .i64 o1)∧w3.drew.cell? ⟨e6,2,none⟩=some (.int .i64 o2):=by
  obtain ⟨rr,hr,-⟩:=H3.out.drew.side;exact ⟨zaa (hr.blkAt 5 rfl) 1 rfl,zaa (hr.blkAt 5 rfl) 2 rfl⟩
 go_cut [16] (fun t wx=> ∃e16:Nat,t=ptrV e16∧Hid (NdIs e6 W wx x (newS (stdC f) (id:Int)) [] (rnR rn (.slice none 0 0) ⟨.slice none 0 0,[]⟩ [] [blk e16 (rqO (vwRq key val)),blk q (twO x.nt rn),blk (q+1) (stdO f),blk e6 (opO3 o0 o1 o2)])))
 case first=>
  go_region_held3 (fun w'=>w'.cell? ⟨e6,1,none⟩=some (.int .i64 o1)∧w'.cell? ⟨e6,2,none⟩=some (.int .i64 o2))
   (first | (with_reducible exact d0) | (with_reducible exact vw_ad2 d0))
   (first
    | ((with_reducible refine (HWa.out _).mono ?_);rintro e w' ⟨rfl,rfl⟩)
    | ((with_reducible refine (HWb.out _).mono ?_);rintro e w' ⟨rfl,rfl⟩))
  all_goals clear d0
  all_goals go_wp2_with fail
  all_goals go_meet
  all_goals exact ⟨_,rfl,zq ((H3.out.box (rqO (vwRq key val))).drew.onSide (fun r hr=>hr.perm ((List.perm_append_comm (l₁:=[_]) (l₂:=[_,_,_])).append_right _)))⟩
 case rest=>
 have hgd:RqGood 2 (vwRq key val):=⟨by unfold okReq inW zc5;simp;omega,by omega⟩;clear H3 HWa HWb d0;obtain ⟨e16,rfl,H4⟩:=hcut;generalize wc=w4 at*;have HC:=zq (zzx (r:=vwRq key val) (view:=view-1) (seq:=(n:Int)) H4.out rfl rfl (by simp) hf1 hf2);have hcp: ∀(a1 a2:Option Addr) (c1 c2:Nat),Ct.cp ⟨view-1,0,(n:Int),.slice a1 1 c1,.slice a2 (2*f+1) c2,[rqS [] (vwRq key val)],(crtP 4 f 0 [] (view-1) 0 (n:Int) (vwRq key val)).1.vs⟩=(crtP 4 f 0 [] (view-1) 0 (n:Int) (vwRq key val)).1:=fun _ _ _ _=>rfl;have hok:=crt_ok (kind:=4) (f:=f) (skip:=0) (l:=[]) (view:=view-1) (inst:=0) (seq:=(n:Int)) hgd (by simp) hf1 hf2 (by omega) (by omega) (by omega) (by omega) (by omega) (by omega) (by omega) (by omega);have hpx:=crt_px 4 f 0 [] (view-1) 0 (n:Int) (vwRq key val);have hrs:=rqS_ok (l:=[]) hgd (by simp);have HC2:=zq (crt_cc (seq:=0) (r:=vwRq key val) hok (by show view-1=view-1;rfl) hf2);have hcs:(crtP 4 f 0 [] (view-1) 0 (n:Int) (vwRq key val)).1.inst=0∧(crtP 4 f 0 [] (view-1) 0 (n:Int) (vwRq key val)).1.seq=(n:Int):=⟨rfl,rfl⟩;obtain ⟨rr,hr,-⟩:=H4.out.side;have t0:w4.cell? ⟨q,0,none⟩=some (.pointer (some ⟨x.nt,0,none⟩)):=zaa (hr.blkAt 4 rfl) 0 rfl;have t1:w4.cell? ⟨q,1,none⟩=some (.pointer (some ⟨rn,0,none⟩)):=zaa (hr.blkAt 4 rfl) 1 rfl;have f0:w4.cell? ⟨q+1,0,none⟩=some (.int .i64 f):=zaa (hr.blkAt 5 rfl) 0 rfl;have hb:=hr.blkAt 3 rfl;have r0:w4.cell? ⟨e16,0,none⟩=some (.int .i64 1):=zaa hb 0 rfl;have r1:w4.cell? ⟨e16,1,none⟩=some (.int .i64 1):=zaa hb 1 rfl;have r2:w4.cell? ⟨e16,2,none⟩=some (.int .i64 1):=zaa hb 2 rfl;have r3:w4.cell? ⟨e16,3,none⟩=some (.int .i64 key):=zaa hb 3 rfl;have r4:w4.cell? ⟨e16,4,none⟩=some (.int .i64 val):=zaa hb 4 rfl;have r5:w4.cell? ⟨e16,5,none⟩=some (.int .i64 0):=zaa hb 5 rfl;have hw1:IntKind.i64.wrap (view-1)=view-1:=IntWalk.i64_in _ (by omega);obtain ⟨rS,hrS⟩: ∃rS,rS=rqS [] (vwRq key val):=⟨_,rfl⟩;rw [←hrS] at HC hok hrs hcp;obtain ⟨P,hP⟩: ∃P,P=crtP 4 f 0 [] (view-1) 0 (n:Int) (vwRq key val):=⟨_,rfl⟩;rw [←hP] at HC hok hcp hpx HC2 hcs;obtain ⟨c,L⟩:=P;simp only at HC hok hcp hpx HC2 hcs;have hLn:L.length≤20:=by have:=hpx.2;simp at this;omega
 have HRG:Hid (RqGood 2 rS):=zq hrs.1;have HCR:Hid (c.rs=[rS]):=zq hok.rs;have HCI:=zq hcs;have HCP:=zq hcp;clear hr hb H4 hgd hok hpx hrs hcs hrS hP hcp
 go_wp2_with fail
 with_reducible refine HC.out.mono ?_
 rintro e w5 ⟨a1,a2,c1,c2,vp,vt,rfl,h5⟩;obtain ⟨d,hd⟩: ∃d:Ct,d=⟨view-1,0,(n:Int),.slice a1 1 c1,.slice a2 (2*f+1) c2,[rS],c.vs⟩:=⟨_,rfl⟩;rw [←hd] at h5;have HDC:Hid (d.cp=c):=zq (by rw [hd];exact HCP.out a1 a2 c1 c2);have HDR:Hid (d.rs=[rS]∧d.vb= .slice a1 1 c1):=zq (by rw [hd];exact ⟨rfl,rfl⟩);have h6:=(h5.box (ctO (view-1) 0 (n:Int) (.slice a1 1 c1) (.slice a2 (2*f+1) c2))).box (nvwO k view (.slice none 0 0));simp only [zav] at h6;have H6:=zq h6;have HDD:=zq hd;clear h5 h6 hd HC HCP t0 t1 f0 r0 r1 r2 r3 r4 r5
 go_upto_block 0 with fail
 have H7:Hid (NdIs e6 W ((w5.alloc (ctO (view-1) 0 (n:Int) (.slice a1 1 c1) (.slice a2 (2*f+1) c2))).alloc (nvwO k view (.slice none 0 0))) x (newS (stdC f) (id:Int)) L (rnR rn vp vt L [ownR 49 4 (.slice none 0 0) ([]:List Pt).length (([]:List Pt).flatMap zaj),ptsR [],blk (w5.heap.size+1) (nvwO k view (.slice none 0 0)),blk w5.heap.size (ctO (view-1) 0 (n:Int) (.slice a1 1 c1) (.slice a2 (2*f+1) c2)),ctsR [d],blk q (twO x.nt rn),blk (q+1) (stdO f)])):=zq (H6.out.onSide (fun r hr=>by
  have k1:=(hr.dropAt 9 (by simp)).dropAt 6 (by simp);have k2:Own _ _ _ (ptsR []::_):=k1.mkPts (by simp);have k3:=k2.row0 (E:=49) (sz:=4);exact k3.perm ((List.perm_append_comm (l₁:=[_,_,_,_]) (l₂:=[_,_,_])).append_right _)))
 clear H6;generalize World.alloc (World.alloc w5 _) _=w6 at*;generalize w5.heap.size+1=e18 at*;generalize w5.heap.size=e17 at*
 go_wp2_with fail
 go_loopw [19] (fun iv wr=> ∃(i:Nat) (pts:List Pt) (pa:Option Addr) (pc:Nat) (L1:Nt) (vp1:Value) (vt1:Rn),i≤2*f+1∧iv= .int .i64 i∧pts.length=i∧L1.length≤20+10*i∧Hid (PsOk f L1 view c i (pts.map Pt.pa))∧Hid (CertsC f L1 view [c])∧Hid (NdIs e6 W wr x (newS (stdC f) (id:Int)) L1 (rnR rn vp1 vt1 L1 [ownR 49 4 (.slice pa pts.length pc) pts.length (pts.flatMap zaj),ptsR pts,blk e18 (nvwO k view (.slice pa pts.length pc)),blk e17 (ctO (view-1) 0 (n:Int) (.slice a1 1 c1) (.slice a2 (2*f+1) c2)),ctsR [d],blk q (twO x.nt rn),blk (q+1) (stdO f)]))) (fun iv _=>2*f+1-(intOf iv).toNat)
 case atStart=>exact ⟨0,[],none,0,L,vp,vt,by omega,rfl,rfl,by omega,zq (.nil _ _ _ _),HC2,H7⟩
 case round=>
  clear H7 HC2;obtain ⟨i,pts,pa,pc,L1,vp1,vt1,hi,rfl,hpi,hL1,HPS,HC3,H⟩:=hrel;have hiN:(0:Int)≤(i:Int):=by omega
  have HPI:=zq hpi;clear hpi;by_cases hlt:i<2*f+1
  ·have hltI:(i:Int)<2*(f:Int)+1:=by omega
   obtain ⟨rr,hr,-⟩:=H.out.side;have g0:wr.cell? ⟨q+1,0,none⟩=some (.int .i64 f):=zaa (hr.blkAt 9 rfl) 0 rfl;have hb:=hr.blkAt 6 rfl;have y0:wr.cell? ⟨e17,0,none⟩=some (.int .i64 (view-1)):=zaa hb 0 rfl;have y1:wr.cell? ⟨e17,1,none⟩=some (.int .i64 0):=zaa hb 1 rfl;have y2:wr.cell? ⟨e17,2,none⟩=some (.int .i64 (n:Int)):=zaa hb 2 rfl;have y3:wr.cell? ⟨e17,3,none⟩=some (.slice a1 1 c1):=zaa hb 3 rfl;have y4:wr.cell? ⟨e17,4,none⟩=some (.slice a2 (2*f+1) c2):=zaa hb 4 rfl;clear hr hb
   go_wp2_with fail
   with_reducible refine (HQu.out _).mono ?_
   rintro e w' ⟨rfl,rfl⟩
   go_upto_if 89 with fail
   generalize hbd:((i:Int)==(f:Int))=bd;have HBD:=zq hbd;clear hbd
   go_cut [20] (fun v wx=> ∃(cts:List Ct) (ao:Option Addr) (cc:Nat),v= .slice ao cts.length cc∧Hid (cts=if i=f then [d] else [])∧Hid (NdIs e6 W wx x (newS (stdC f) (id:Int)) L1 (rnR rn vp1 vt1 L1 (redR (.slice ao cts.length cc) 5 cts.length (cts.flatMap zag)::ctsR cts::[ownR 49 4 (.slice pa pts.length pc) pts.length (pts.flatMap zaj),ptsR pts,blk e18 (nvwO k view (.slice pa pts.length pc)),blk e17 (ctO (view-1) 0 (n:Int) (.slice a1 1 c1) (.slice a2 (2*f+1) c2)),ctsR [d],blk q (twO x.nt rn),blk (q+1) (stdO f)]))))
   case first=>
    cases bd with
    | false=>
     have HIF:Hid (([]:List Ct)=if i=f then [d] else []):=zq (by
      have:=HBD.out;rw [beq_eq_false_iff_ne] at this;rw [if_neg (by omega)])
     go_wp2_with fail
     go_meet
     exact ⟨[],none,0,rfl,HIF,zq (H.out.onSide (fun r hr=>by
      have k1:Own _ _ _ (ctsR []::_):=hr.mkCts (by simp);exact (zbz 5 k1).perm ((List.perm_append_comm (l₁:=[_,_]) (l₂:=[_,_,_])).append_right _)))⟩
    | true=>
     have HIF:Hid ([d]=if i=f then [d] else []):=zq (by
      have:=HBD.out;rw [beq_iff_eq] at this;rw [if_pos (by omega)])
     go_wp2_with fail
     go_meet
     exact ⟨[d],some ⟨_,0,none⟩,1,rfl,HIF,zq (by
      obtain ⟨r,hr,hk⟩:=H.out.side;have k1:=zvk (d:=d) hr 7 rfl;rw [HDD.out] at k1⊢;exact hk _ _ (k1.perm ((List.perm_append_comm (l₁:=[_,_]) (l₂:=[_,_,_])).append_right _)))⟩
   case rest=>
   obtain ⟨cts,ao,cc,rfl,HIF,H1⟩:=hcut;clear H y0 y1 y2 y3 y4 g0 HBD;have HCM:Hid (cts.map Ct.cp=if i=f then [c] else []):=zq (by
    rw [HIF.out];by_cases e:i=f
    ·rw [if_pos e,if_pos e,List.map_singleton,HDC.out]
    ·rw [if_neg e,if_neg e]
     rfl)
   have hc1:cts.length≤1:=by
    rw [HIF.out];split<;>simp
   have HC4:Hid (CertsC f L1 view (cts.map Ct.cp)):=zq (by
    rw [HCM.out];split
    ·exact HC3.out
    ·exact .nil _ _ _)
   have hpo:=part_ok (l:=L1) (view:=view) (fm:=(i:Int)) (cs:=cts.map Ct.cp) (by omega) hf1 hf2 hv1 hv2 hiN (by omega) HC4.out;rw [HCM.out] at hpo;have HP:=zq (nd_part (f:=f) (view:=view) (fm:=(i:Int)) H1.out.drew (by omega) hf1 hf2 (by omega) (by omega) hiN (by omega) (by omega));rw [HCM.out] at HP;generalize partP f 0 L1 view (i:Int) (if i=f then [c] else [])=PP at*;obtain ⟨P,L2⟩:=PP;simp only at HP hpo;have HPS2:Hid (PsOk f L2 view c (i+1) (pts.map Pt.pa++[P])):=zq (HPS.out.add hpo.2.1 hpo.1);have HVL:Hid (P.vs.length=2*f+1):=zq hpo.1.hvs.len;have HC5:Hid (CertsC f L2 view [c]):=zq (HC3.out.px hpo.2.1);have hL2:L2.length≤20+10*(i+1):=by have:=hpo.2.2;omega
   clear HPS HC3 HC4 hpo HCM HIF hL1;obtain ⟨rr,hr,-⟩:=H1.out.side;have t9:wc.drew.cell? ⟨e18,9,none⟩=some (.slice pa pts.length pc):=zaa (H1.out.drew.side.choose_spec.1.blkAt 7 rfl) 9 rfl;have t0:wc.drew.cell? ⟨q,0,none⟩=some (.pointer (some ⟨x.nt,0,none⟩)):=zaa (hr.blkAt 10 rfl) 0 rfl;have t1:wc.drew.cell? ⟨q,1,none⟩=some (.pointer (some ⟨rn,0,none⟩)):=zaa (hr.blkAt 10 rfl) 1 rfl;have f0:wc.drew.cell? ⟨q+1,0,none⟩=some (.int .i64 f):=zaa (hr.blkAt 11 rfl) 0 rfl;clear hr H1
   go_upto_region 18 with fail
   refine Held.wp_held [(e18,9,[.slice pa pts.length pc]),(q,0,[.pointer (some ⟨x.nt,0,none⟩),.pointer (some ⟨rn,0,none⟩)]),(q+1,0,[.int .i64 f])] [(1,0),(2,1),(4,2)] [12] [(9,true),(2,true)] (by kernel_rfl) (by kernel_rfl) ⟨⟨t9,trivial⟩,⟨t0,t1,trivial⟩,⟨f0,trivial⟩,trivial⟩ ?_;simp only [Held.cutAt,Held.walk,List.take_succ_cons,List.take_zero,List.drop_succ_cons,List.drop_zero]
   go_wp2_with fail
   with_reducible refine HP.out.mono ?_
   rintro e w8 ⟨p,b2,d2,vp2,vt2,rfl,hp,hpp,h8⟩;clear HP t9 t0 t1 f0;obtain ⟨r8,hs8,hk8⟩:=h8.side;have u9:w8.cell? ⟨e18,9,none⟩=some (.slice pa pts.length pc):=zaa (hs8.blkAt 8 rfl) 9 rfl;have u0:w8.cell? ⟨q,0,none⟩=some (.pointer (some ⟨x.nt,0,none⟩)):=zaa (hs8.blkAt 11 rfl) 0 rfl;have u1:w8.cell? ⟨q,1,none⟩=some (.pointer (some ⟨rn,0,none⟩)):=zaa (hs8.blkAt 11 rfl) 1 rfl;have uf:w8.cell? ⟨q+1,0,none⟩=some (.int .i64 f):=zaa (hs8.blkAt 12 rfl) 0 rfl;have HX:=zq (hs8.box (.cells #[.int .i64 (i:Int),.slice b2 (2*f+1) d2,.slice ao cts.length cc,.int .i64 P.sl] 49 (0,0)));have HN:=zq (heap_alloc_new w8 (.cells #[.int .i64 (i:Int),.slice b2 (2*f+1) d2,.slice ao cts.length cc,.int .i64 P.sl] 49 (0,0)));have HK:=zq hk8;have HPE:=zq hp;have HPA:=zq hpp;have HA9:Hid (pts.length≤8):=zq (by have:=HPI.out;omega);have HCL:Hid (cts.length≤1):=zq hc1;clear hs8 hk8 h8 hp hpp
   go_wp2_with fail
   refine ⟨⟨⟨u9,trivial⟩,⟨u0,u1,trivial⟩,⟨uf,trivial⟩,trivial⟩,?_⟩
   go_wp2_with (at_builtin;refine za7 rfl (.tmp 93) (.tmp 101) 45 rfl 49 i0 (.agg #[.int .i64 0,.slice none 0 0,.slice none 0 0,.int .i64 0]) 4 64 Tryz.underlying45 hi0 hz0 hz1 hz2 rfl (by decide) HX.out 7 (.slice pa pts.length pc) pts.length (pts.flatMap zaj) rfl rfl w8.heap.size #[.int .i64 (i:Int),.slice b2 (2*f+1) d2,.slice ao cts.length cc,.int .i64 P.sl] 49 (0,0) rfl HN.out rfl (by simp [Value.oneCell']) (by have:=HA9.out;unfold maxLen;omega) (by have:=HA9.out;omega) ?_)
   intro g2 cap2 w9 h9;have h10:Own e6 W w9 (blk w8.heap.size (.cells #[.int .i64 (i:Int),.slice b2 (2*f+1) d2,.slice ao cts.length cc,.int .i64 P.sl] 49 (0,0))::redR p.vv 2 p.vs.length (zaf p.vs)::redR p.cv 5 p.cts.length (p.cts.flatMap zag)::ctsR p.cts::rnR rn vp2 vt2 L2 (ownR 49 4 (.slice (some ⟨g2,0,none⟩) (pts.length+1) cap2) (pts.length+1) (pts.flatMap zaj++[.int .i64 (i:Int),.slice b2 (2*f+1) d2,.slice ao cts.length cc,.int .i64 P.sl])::ptsR pts::blk e18 (nvwO k view (.slice pa pts.length pc))::blk e17 (ctO (view-1) 0 (n:Int) (.slice a1 1 c1) (.slice a2 (2*f+1) c2))::ctsR [d]::blk q (twO x.nt rn)::blk (q+1) (stdO f)::[r8])):=h9;have u9:w9.cell? ⟨e18,9,none⟩=some (.slice pa pts.length pc):=zaa (h10.blkAt 9 rfl) 9 rfl;have u0:w9.cell? ⟨q,0,none⟩=some (.pointer (some ⟨x.nt,0,none⟩)):=zaa (h10.blkAt 12 rfl) 0 rfl;have u1:w9.cell? ⟨q,1,none⟩=some (.pointer (some ⟨rn,0,none⟩)):=zaa (h10.blkAt 12 rfl) 1 rfl;have uf:w9.cell? ⟨q+1,0,none⟩=some (.int .i64 f):=zaa (h10.blkAt 13 rfl) 0 rfl;have z9:=zab (h10.blkAt 9 rfl) 9;have H10:=zq h10;clear h9 h10 HX HN
   go_wp2_with fail
   refine ⟨⟨⟨u9,trivial⟩,⟨u0,u1,trivial⟩,⟨uf,trivial⟩,trivial⟩,?_⟩
   go_wp2_with fail
   refine ⟨trivial,by rfl,⟨⟨rfl,.inl ⟨by kernel_rfl,rfl⟩⟩,⟨rfl,.inr ⟨by kernel_rfl,by kernel_rfl⟩⟩,⟨rfl,.inl ⟨by kernel_rfl,rfl⟩⟩,trivial⟩,?_⟩;have HF:Hid (NdIs e6 W (w9.setCell ⟨e18,9,none⟩ (.slice (some ⟨g2,0,none⟩) (pts.length+1) cap2)) x (newS (stdC f) (id:Int)) L2 (rnR rn vp2 vt2 L2 [ownR 49 4 (.slice (some ⟨g2,0,none⟩) (pts++[p]).length cap2) (pts++[p]).length ((pts++[p]).flatMap zaj),ptsR (pts++[p]),blk e18 (nvwO k view (.slice (some ⟨g2,0,none⟩) (pts++[p]).length cap2)),blk e17 (ctO (view-1) 0 (n:Int) (.slice a1 1 c1) (.slice a2 (2*f+1) c2)),ctsR [d],blk q (twO x.nt rn),blk (q+1) (stdO f)])):=zq (by
    have hpe:=HPE.out;have hcells:[p].flatMap zaj=[.int .i64 (i:Int),.slice b2 (2*f+1) d2,.slice ao cts.length cc,.int .i64 P.sl]:=by rw [hpe];rfl
    have hvn:p.vs.length≤100000:=by
     have e:=congrArg (fun z=>z.vs.length) HPA.out;have:=HVL.out;simp only [Pt.pa] at e;omega
    have hcn:p.cts.length≤100000:=by
     rw [hpe];have:=HCL.out;show cts.length≤_;omega
    rw [List.length_append,List.flatMap_append,hcells,List.length_singleton];have k1:=H10.out;have k2:Own _ _ _ (ptsR (pts++[p])::_):=k1.mkPts (fun c hc=>by
     rcases List.mem_append.1 hc with hc | hc
     ·exact zpp k1 8 rfl c hc
     ·rw [List.mem_singleton] at hc
      subst hc;exact ⟨k1.redFr 1 rfl,hvn,k1.redFr 2 rfl,hcn,zkd k1 3 rfl⟩)
    have k3:=k2.front 10 rfl rfl;have k4:=Own.storeTo k3 9 (.slice (some ⟨g2,0,none⟩) (pts.length+1) cap2) (o':=nvwO k view (.slice (some ⟨g2,0,none⟩) (pts.length+1) cap2)) rfl;have k5:=((((k4.dropAt 10 (by simp)).dropAt 2 (by simp)).dropAt 2 (by simp)).dropAt 2 (by simp)).dropAt 2 (by simp);exact HK.out _ (rnR rn vp2 vt2 L2 [_,_,_,_,_,_,_]) (k5.swap.perm ((List.perm_append_comm (l₁:=[_,_]) (l₂:=[_,_,_,_])).append_right _)))
   have HPS3:Hid (PsOk f L2 view c (i+1) ((pts++[p]).map Pt.pa)):=zq (by
    rw [List.map_append,List.map_singleton,HPA.out];exact HPS2.out)
   have HPI2:Hid ((pts++[p]).length=i+1):=zq (by rw [List.length_append,HPI.out];rfl);clear H10 HK HPE u9 u0 u1 uf z9 HPS2 HPA HVL HA9 HCL HPI;generalize w9.setCell _ _=w10 at*
   go_wp2_with fail
   go_roundw
   case rel=>exact ⟨i+1,pts++[p],some ⟨g2,0,none⟩,cap2,L2,vp2,vt2,by omega,by go_num,HPI2.out,hL2,HPS3,HC5,HF⟩
   case measure=>simp [intOf];omega
  ·obtain rfl:i=2*f+1:=by omega
   have hltF:decide (((2*f+1:Nat):Int)<2*(f:Int)+1)=false:=by simp
   obtain ⟨rr,hr,-⟩:=H.out.side;have g0:wr.cell? ⟨q+1,0,none⟩=some (.int .i64 f):=zaa (hr.blkAt 9 rfl) 0 rfl;have t0:wr.cell? ⟨q,0,none⟩=some (.pointer (some ⟨x.nt,0,none⟩)):=zaa (hr.blkAt 8 rfl) 0 rfl;have t1:wr.cell? ⟨q,1,none⟩=some (.pointer (some ⟨rn,0,none⟩)):=zaa (hr.blkAt 8 rfl) 1 rfl;have hb:=hr.blkAt 5 rfl;have m0:wr.cell? ⟨e18,0,none⟩=some (.int .i64 8):=zaa hb 0 rfl;have m1:wr.cell? ⟨e18,1,none⟩=some (.int .i64 k):=zaa hb 1 rfl;have m2:wr.cell? ⟨e18,2,none⟩=some (.int .i64 view):=zaa hb 2 rfl;have m3:wr.cell? ⟨e18,3,none⟩=some (.int .i64 0):=zaa hb 3 rfl;have m4:wr.cell? ⟨e18,4,none⟩=some (.int .i64 0):=zaa hb 4 rfl;have m5:wr.cell? ⟨e18,5,none⟩=some (.int .i64 0):=zaa hb 5 rfl;have m6:wr.cell? ⟨e18,6,none⟩=some (.slice none 0 0):=zaa hb 6 rfl;have m7:wr.cell? ⟨e18,7,none⟩=some (.slice none 0 0):=zaa hb 7 rfl;have m8:wr.cell? ⟨e18,8,none⟩=some (.slice none 0 0):=zaa hb 8 rfl;have m9:wr.cell? ⟨e18,9,none⟩=some (.slice pa pts.length pc):=zaa hb 9 rfl;have H8:Hid (NdIs e6 W wr x (newS (stdC f) (id:Int)) L1 (mmR (nvMm k view (.slice pa pts.length pc) pts) (rnR rn vp1 vt1 L1 [blk e18 (nvwO k view (.slice pa pts.length pc)),blk e17 (ctO (view-1) 0 (n:Int) (.slice a1 1 c1) (.slice a2 (2*f+1) c2)),ctsR [d],blk q (twO x.nt rn),blk (q+1) (stdO f)]))):=zq (H.out.onSide (fun r hr=>by
    have k1:Own _ _ _ (ownR 49 4 (.slice pa pts.length pc) pts.length (pts.flatMap zaj)::ptsR pts::_):=hr.perm ((List.perm_append_comm (l₁:=[_,_,_]) (l₂:=[_,_])).append_right _);have k2:=zbz 2 (zbz 6 (Own.toRed k1));have k3:Own _ _ _ (ctsR []::_):=k2.mkCts (by simp);exact (zbz 5 k3).perm ((List.perm_append_comm (l₁:=[_,_,_,_]) (l₂:=[_,_])).append_right _)))
   have HG:=zq (give_nv (n:=n) (r:=rS) H8.out HPS.out HCI.out.1 HCI.out.2 HCR.out hn1 (by omega) HRG.out (by omega) hf1 hf2 hid3 hv1 hv2 HK.out hk0 hk1);clear hr hb H H8 HPS HC3
   go_wp2_with fail
   with_reducible refine (HQu.out _).mono ?_
   rintro e w' ⟨rfl,rfl⟩
   go_wp2_with fail
   with_reducible refine HG.out.mono ?_
   rintro e w11 ⟨rfl,s',l',hc',hv',hon,hout,h11⟩;have H11:=zq h11;have HOV:=zq hout;have HC':=zq hc';have HV:Hid (Calls Tryz.prog 24 #[ptrV x.p] w11 fun e w'=>e= .returned (.int .i64 view)∧w11=w'):=zq (by rw [←hv'];exact znx h11);have HI:Hid (Calls Tryz.prog 25 #[ptrV x.p,.int .i64 0] w11 fun e w'=>e= .returned (.bool true)∧Upd [] w11 w'):=zq (by rw [←hon];exact zfg h11);have hvb:(view !=view)=false:=by simp
   clear h11 hout hc' hv' hon HG t0 t1 g0 m0 m1 m2 m3 m4 m5 m6 m7 m8 m9 HPI hltF
   go_wp2_with fail
   with_reducible refine HV.out.mono ?_
   rintro e w' ⟨rfl,rfl⟩
   go_wp2_with fail
   with_reducible refine HI.out.mono ?_
   rintro e w12 ⟨rfl,hu⟩;have H12:=zq (H11.out.upd0 hu);clear hu HV HI H11 hvb;have HO:=zq (zru H12.out);obtain ⟨s3,hs3⟩: ∃s3:Ns,s3= {s' with out:=[]}:=⟨_,rfl⟩;rw [←hs3] at HO;have HC4:Hid (s3.c=stdC f):=zq (by rw [hs3];exact HC'.out);clear H12 hs3
   go_wp2_with fail
   with_reducible refine HO.out.mono ?_
   rintro e w13 ⟨ob,okc,os,rfl,hos,h13⟩;clear HO;have hlen:os.length=3*f*(n+1):=by
    rw [←HOV.out.len,←hos,List.length_map]
   have HLN:=zq hlen;have HOS:=zq hos;have hos9:os.length≤1000:=by
    have e:3*f*(n+1)≤12*6:=Nat.mul_le_mul (by omega) (by omega);omega
   obtain ⟨rr,hr,-⟩:=h13.side;obtain ⟨ao',cap',hv',hokc,-⟩:=zad (k:=0) hr rfl;have hokI:(os.length:Int)≤(okc:Int):=by
    simp only [Value.slice.injEq] at hv';omega
   clear hr hv' hokc;have H14:Hid (NdIs e6 W (w13.alloc (cntO (cntV f 0))) x s3 l' (redR (.slice ob os.length okc) 2 os.length (os.flatMap sdC)::sdsR os::[blk (q+1) (stdO f),blk q (twO x.nt rn),blk w13.heap.size (cntO (cntV f 0)),blk e17 (ctO (view-1) 0 (n:Int) (.slice a1 1 c1) (.slice a2 (2*f+1) c2)),ctsR [d]])):=zq ((h13.box (cntO (cntV f 0))).onSide (fun r hr=>by
    have k1:=((hr.dropAt 3 (by simp)).front 5 rfl rfl).front 6 rfl rfl;exact k1.perm ((List.perm_append_comm (l₁:=[_,_,_]) (l₂:=[_,_])).append_right _)))
   have hcz:cntO (cntV f 0)= .cells #[.int .i64 0,.int .i64 0,.int .i64 0,.int .i64 0,.int .i64 0,.int .i64 0,.int .i64 0,.int .i64 0,.int .i64 0,.int .i64 0,.int .i64 0,.int .i64 0,.int .i64 0,.int .i64 0,.int .i64 0,.int .i64 0,.int .i64 0] 56 (0,0):=by rw [zua];rfl
   have HW14:Hid (∀g:World,w13.alloc (.cells #[.int .i64 0,.int .i64 0,.int .i64 0,.int .i64 0,.int .i64 0,.int .i64 0,.int .i64 0,.int .i64 0,.int .i64 0,.int .i64 0,.int .i64 0,.int .i64 0,.int .i64 0,.int .i64 0,.int .i64 0,.int .i64 0,.int .i64 0] 56 (0,0))=g→w13.alloc (cntO (cntV f 0))=g):=zq (fun g hg=>by rw [hcz];exact hg);clear h13 hcz hos hlen
   go_upto_region 24 with fail
   generalize hw14:World.alloc w13 _=w14;rw [HW14.out _ hw14] at H14;clear hw14 HW14;generalize w13.heap.size=e22 at*
   go_wp2_with fail
   go_loopw [121] (fun nv wr=> ∃j:Nat,j≤os.length∧nv= .int .i64 j∧Hid (NdIs e6 W wr x s3 l' (redR (.slice ob os.length okc) 2 os.length (os.flatMap sdC)::sdsR os::[blk (q+1) (stdO f),blk q (twO x.nt rn),blk e22 (cntO (cntV f j)),blk e17 (ctO (view-1) 0 (n:Int) (.slice a1 1 c1) (.slice a2 (2*f+1) c2)),ctsR [d]]))) (fun nv _=>os.length-(intOf nv).toNat)
   case atStart=>exact ⟨0,by omega,rfl,H14⟩
   case round=>
    clear H14;obtain ⟨j,hj,rfl,H1⟩:=hrel;have hj0:(0:Int)≤(j:Int):=by omega
    by_cases hlt:j<os.length
    ·have hjI:(j:Int)<(os.length:Int):=by omega
     obtain ⟨M,sl,ho,hM⟩:=HOV.out.at HOS.out j hlt;have HJN:Hid (j<3*f*(n+1)):=zq (by have:=HLN.out;omega);obtain ⟨r1,hs1,-⟩:=H1.out.side;obtain ⟨ao,cap,hv,-,-,-,-,hcl⟩:=zad (k:=0) hs1 rfl;simp only [Value.slice.injEq] at hv;obtain ⟨b,o,hao,hbl,-⟩:=hcl (by omega);rw [←hv.1] at hao;subst hao;have hrd:=rd_sd (o:=os[j]) (List.getElem_mem hlt) (ss:=(redR (.slice (some ⟨b,o,none⟩) os.length okc) 2 os.length (os.flatMap sdC)::sdsR os::[blk (q+1) (stdO f),blk q (twO x.nt rn),blk e22 (cntO (cntV f j)),blk e17 (ctO (view-1) 0 (n:Int) (.slice a1 1 c1) (.slice a2 (2*f+1) c2)),ctsR [d]])) (by simp) hs1 (fun r hr=>by simp only [List.mem_append];exact .inl hr);obtain ⟨bo,bk,hbv,-,-⟩:=hrd.f;have hrd2:=hrd;rw [hbv] at hrd2;have HP1:=zq (zxv H1.out.drew HC4.out hrd2 ho);have HP2:=zq (zxv (H1.out.box (.cells #[.int .i64 0,.int .i64 0,.int .i64 0,.int .i64 0,.int .i64 0,.int .i64 0,.slice none 0 0,.slice none 0 0,.slice none 0 0,.slice none 0 0] 47 (0,0))).drew HC4.out (hrd2.sub (fun q hq=>List.mem_cons_of_mem _ hq)) ho);have HQ:Hid (∀(w':World) (hd:List Res),NdIs e6 W w' x s3 l' (hd++(redR (.slice (some ⟨b,o,none⟩) os.length okc) 2 os.length (os.flatMap sdC)::sdsR os::[blk (q+1) (stdO f),blk q (twO x.nt rn),blk e22 (cntO (cntV f j)),blk e17 (ctO (view-1) 0 (n:Int) (.slice a1 1 c1) (.slice a2 (2*f+1) c2)),ctsR [d]]))→OpD b (o+j*2+1) q f x.nt (.slice bo os[j].b.length bk) w'):=zq (fun w' hd h=>pp_cells h hlt hbv);generalize os[j].b.length=bl at*;have HE0:Hid (∀(w':World) (mm:Mm),NdIs e6 W w' x s3 l' (mmR mm (redR (.slice (some ⟨b,o,none⟩) os.length okc) 2 os.length (os.flatMap sdC)::sdsR os::[blk (q+1) (stdO f),blk q (twO x.nt rn),blk e22 (cntO (cntV f j)),blk e17 (ctO (view-1) 0 (n:Int) (.slice a1 1 c1) (.slice a2 (2*f+1) c2)),ctsR [d]]))→OpD b (o+j*2+1) q f x.nt (.slice bo bl bk) w'):=zq (fun w' mm h=>HQ.out w' [_,_,_,_,_,_] h);have HE1:Hid (∀(w':World) (mm:Mm),NdIs e6 W w' x s3 l' (mmR mm (blk wr.heap.size (.cells #[.int .i64 0,.int .i64 0,.int .i64 0,.int .i64 0,.int .i64 0,.int .i64 0,.slice none 0 0,.slice none 0 0,.slice none 0 0,.slice none 0 0] 47 (0,0))::(redR (.slice (some ⟨b,o,none⟩) os.length okc) 2 os.length (os.flatMap sdC)::sdsR os::[blk (q+1) (stdO f),blk q (twO x.nt rn),blk e22 (cntO (cntV f j)),blk e17 (ctO (view-1) 0 (n:Int) (.slice a1 1 c1) (.slice a2 (2*f+1) c2)),ctsR [d]])))→OpD b (o+j*2+1) q f x.nt (.slice bo bl bk) w'):=zq (fun w' mm h=>HQ.out w' [_,_,_,_,_,_,_] h);have HE2:Hid (∀(w':World) (mm:Mm) (q':Nat) (ob':Obj),NdIs e6 W w' x s3 l' (mmR mm (blk q' ob'::(redR (.slice (some ⟨b,o,none⟩) os.length okc) 2 os.length (os.flatMap sdC)::sdsR os::[blk (q+1) (stdO f),blk q (twO x.nt rn),blk e22 (cntO (cntV f j)),blk e17 (ctO (view-1) 0 (n:Int) (.slice a1 1 c1) (.slice a2 (2*f+1) c2)),ctsR [d]])))→OpD b (o+j*2+1) q f x.nt (.slice bo bl bk) w'):=zq (fun w' mm q' ob' h=>HQ.out w' [_,_,_,_,_,_,_] h);have d0:OpD b (o+j*2+1) q f x.nt (.slice bo bl bk) wr:=HQ.out _ [] H1.out;have HM:=zq hM;clear hv hcl hrd hrd2 ho hs1 hbv hM
     go_upto_region 27 with fail
     have d0:OpD b (o+j*2+1) q f x.nt (.slice bo bl bk) wr.drew:=d0
     go_cut [24,26] (fun mv ev wx=> ∃(e24:Nat) (mm:Mm),mv=ptrV e24∧ev= .int .i64 0∧Hid (mm.ms=M)∧Hid (NdIs e6 W wx x s3 l' (mmR mm (blk e24 (mmO mm)::(redR (.slice (some ⟨b,o,none⟩) os.length okc) 2 os.length (os.flatMap sdC)::sdsR os::[blk (q+1) (stdO f),blk q (twO x.nt rn),blk e22 (cntO (cntV f j)),blk e17 (ctO (view-1) 0 (n:Int) (.slice a1 1 c1) (.slice a2 (2*f+1) c2)),ctsR [d]])))))
     case first=>
      go_region_held3 (fun w'=>OpD b (o+j*2+1) q f x.nt (.slice bo bl bk) w')
       (first | (with_reducible exact d0) | (with_reducible exact e0) | (with_reducible exact zz1 d0) | (with_reducible exact zz1 e0) | (with_reducible exact e1) | (with_reducible exact zxo d0) | (with_reducible exact zxo e0))
       (first | (go_at_call 27;(with_reducible refine HP1.out.mono ?_);rintro e w3 ⟨mm,rfl,hmm,h3⟩;have e0:=HE0.out w3 mm h3;obtain ⟨kind,fm,vw,inst,sq,res,b1,bs,g1,b2,vs,g2,b3,ctz,g3,b4,ptz,g4,rfl⟩:=zmb h3;have H3:=zq h3;clear h3) | (go_at_call 27;(with_reducible refine HP2.out.mono ?_);rintro e w3 ⟨mm,rfl,hmm,h3⟩;have e0:=HE1.out w3 mm h3;obtain ⟨kind,fm,vw,inst,sq,res,b1,bs,g1,b2,vs,g2,b3,ctz,g3,b4,ptz,g4,rfl⟩:=zmb h3;have H3:=zq h3;clear h3;obtain ⟨r3,hs3,-⟩:=H3.out.side;have b0:=hs3.blkAt 6 rfl;have x0:=zaa b0 0 rfl;have z0:=zab b0 0;have x1:=zaa b0 1 rfl;have z1:=zab b0 1;have x2:=zaa b0 2 rfl;have z2:=zab b0 2;have x3:=zaa b0 3 rfl;have z3:=zab b0 3;have x4:=zaa b0 4 rfl;have z4:=zab b0 4;have x5:=zaa b0 5 rfl;have z5:=zab b0 5;have x6:=zaa b0 6 rfl;have z6:=zab b0 6;have x7:=zaa b0 7 rfl;have z7:=zab b0 7;have x8:=zaa b0 8 rfl;have z8:=zab b0 8;have x9:=zaa b0 9 rfl;have z9:=zab b0 9;have H4:=zq (nd_ten (v0:= .int .i64 kind) (v1:= .int .i64 fm) (v2:= .int .i64 vw) (v3:= .int .i64 inst) (v4:= .int .i64 sq) (v5:= .int .i64 res) (v6:= .slice b1 bs.length g1) (v7:= .slice b2 vs.length g2) (v8:= .slice b3 ctz.length g3) (v9:= .slice b4 ptz.length g4) H3.out);have e1:=HE2.out _ _ _ _ H4.out;clear b0 hs3))
      ·have HZ:Hid (NdIs e6 W (w3.alloc (mmO ⟨kind,fm,vw,inst,sq,res,.slice b1 bs.length g1,bs,.slice b2 vs.length g2,vs,.slice b3 ctz.length g3,ctz,.slice b4 ptz.length g4,ptz⟩)) x s3 l' (mmR ⟨kind,fm,vw,inst,sq,res,.slice b1 bs.length g1,bs,.slice b2 vs.length g2,vs,.slice b3 ctz.length g3,ctz,.slice b4 ptz.length g4,ptz⟩ (blk w3.heap.size (mmO ⟨kind,fm,vw,inst,sq,res,.slice b1 bs.length g1,bs,.slice b2 vs.length g2,vs,.slice b3 ctz.length g3,ctz,.slice b4 ptz.length g4,ptz⟩)::(redR (.slice (some ⟨b,o,none⟩) os.length okc) 2 os.length (os.flatMap sdC)::sdsR os::[blk (q+1) (stdO f),blk q (twO x.nt rn),blk e22 (cntO (cntV f j)),blk e17 (ctO (view-1) 0 (n:Int) (.slice a1 1 c1) (.slice a2 (2*f+1) c2)),ctsR [d]])))):=zq ((H3.out.box (mmO ⟨kind,fm,vw,inst,sq,res,.slice b1 bs.length g1,bs,.slice b2 vs.length g2,vs,.slice b3 ctz.length g3,ctz,.slice b4 ptz.length g4,ptz⟩)).perm ((List.perm_append_comm (l₁:=[_]) (l₂:=[_,_,_,_,_,_])).append_right _))
       have HMM:=zq hmm;clear H3 d0 e0 HP1 HP2 HE0 HE1 HE2 HQ hmm
       go_wp2_with fail
       go_meet
       exact ⟨_,_,rfl,rfl,HMM,HZ⟩
      ·have HMM:=zq hmm
       clear H3 d0 e0 e1 HP1 HP2 HE0 HE1 HE2 HQ hmm x0 x1 x2 x3 x4 x5 x6 x7 x8 x9 z0 z1 z2 z3 z4 z5 z6 z7 z8 z9
       go_wp2_with fail
       go_meet
       exact ⟨_,_,rfl,rfl,HMM,H4⟩
     case rest=>
     clear d0 HP1 HP2 HE0 HE1 HE2 HQ H1;obtain ⟨e24,mm,rfl,rfl,HMM,H1⟩:=hcut;obtain ⟨kind,fm,vw,inst,sq,res,b1,bs,g1,b2,vs,g2,b3,ctz,g3,b4,ptz,g4,rfl⟩:=zmb H1.out;have hm:=HMM.out;obtain ⟨rr,hr,-⟩:=H1.out.side;have hb:=hr.blkAt 6 rfl;have x0:wc.cell? ⟨e24,0,none⟩=some (.int .i64 kind):=zaa hb 0 rfl;rcases HM.out with ⟨hj3,hMk⟩ | ⟨hj3,hMe⟩
     ·obtain rfl:kind=7:=by
       have e:=congrArg Ms.kind hm;exact e.trans hMk
      have HND:Hid (NdIs e6 W wc x s3 l' (redR (.slice (some ⟨b,o,none⟩) os.length okc) 2 os.length (os.flatMap sdC)::sdsR os::[blk (q+1) (stdO f),blk q (twO x.nt rn),blk e22 (cntO (cntV f (j+1))),blk e17 (ctO (view-1) 0 (n:Int) (.slice a1 1 c1) (.slice a2 (2*f+1) c2)),ctsR [d]])):=zq (by
       rw [zt8 hf1 hj3];exact (zkk H1.out).drop)
      clear hr hb hm HMM HM hMk H1
      go_wp2_with fail
      go_roundw
      case rel=>exact ⟨j+1,by omega,by go_num,HND⟩
      case measure=>simp [intOf];omega
     ·rw [hMe] at hm
      obtain rfl:kind=4:=congrArg Ms.kind hm;obtain rfl:view=vw:=(congrArg Ms.view hm).symm;obtain ⟨kk,hkk⟩: ∃kk,kk=j/(3*f):=⟨_,rfl⟩;rw [←hkk] at hm;obtain rfl:sq=(kk:Int):=congrArg Ms.seq hm;have hbs:bs=if kk=n then [rS] else []:=congrArg Ms.rs hm
      have hkn:kk≤n:=by
       have h1:=HJN.out;rw [hkk];exact Nat.le_of_lt_succ (Nat.div_lt_of_lt_mul h1)
      have hk00:(0:Int)≤(kk:Int):=by omega
      have hk17:(kk:Int)<17:=by omega
      have hk17N:kk<17:=by omega
      have hb22:=hr.blkAt 11 rfl;have x4:wc.cell? ⟨e24,4,none⟩=some (.int .i64 (kk:Int)):=zaa hb 4 rfl;have s0:wc.cell? ⟨e22,kk,none⟩=some (.int .i64 ((cvN f j kk:Nat):Int)):=by
       rw [znf hb22 (by rw [ziz];exact hk17N),zw5 f j kk hk17N]
      have z0:=zab hb22 kk;have hcv:cvN f j kk≤12:=by
       unfold cvN;split
       ·omega
       ·exact Nat.le_trans (Nat.min_le_left _ _) (by omega)
      have hcvI:((cvN f j kk:Nat):Int)+1≤9223372036854775807:=by omega
      have hcv0:(0:Int)≤((cvN f j kk:Nat):Int):=by omega
      have H2:Hid (NdIs e6 W (wc.setCell ⟨e22,kk,none⟩ (.int .i64 (((cvN f j kk:Nat):Int)+1))) x s3 l' (mmR ⟨4,fm,view,inst,(kk:Int),res,.slice b1 bs.length g1,bs,.slice b2 vs.length g2,vs,.slice b3 ctz.length g3,ctz,.slice b4 ptz.length g4,ptz⟩ (blk e24 (mmO ⟨4,fm,view,inst,(kk:Int),res,.slice b1 bs.length g1,bs,.slice b2 vs.length g2,vs,.slice b3 ctz.length g3,ctz,.slice b4 ptz.length g4,ptz⟩)::(redR (.slice (some ⟨b,o,none⟩) os.length okc) 2 os.length (os.flatMap sdC)::sdsR os::[blk (q+1) (stdO f),blk q (twO x.nt rn),blk e22 (cntO (cntV f (j+1))),blk e17 (ctO (view-1) 0 (n:Int) (.slice a1 1 c1) (.slice a2 (2*f+1) c2)),ctsR [d]])))):=zq (by
       obtain ⟨r,hr2,hk2⟩:=H1.out.side;have k1:=Own.storeTo (hr2.front 11 rfl rfl) kk (.int .i64 (((cvN f j kk:Nat):Int)+1)) (o':=cntO (cntV f (j+1))) (by rw [zyp,zt9 hf1 hj3,←hkk]);exact hk2 _ _ (k1.back 11 (by simp) rfl))
      generalize cvN f j kk=cv at*;have HBS:=zq hbs;have HKN:=zq hkn;clear hr hb hb22 hm HMM HM hMe H1 hkk hbs hcv HJN
      go_upto_region 32 with fail
      generalize wc.setCell _ _=w15 at*;clear x0 x4 s0 z0 hcvI hcv0 hj3;obtain ⟨rr,hr,-⟩:=H2.out.side;have hb:=hr.blkAt 6 rfl;have x2:w15.cell? ⟨e24,2,none⟩=some (.int .i64 view):=zaa hb 2 rfl;have x4:w15.cell? ⟨e24,4,none⟩=some (.int .i64 (kk:Int)):=zaa hb 4 rfl;have x6:w15.cell? ⟨e24,6,none⟩=some (.slice b1 bs.length g1):=zaa hb 6 rfl;have y3:w15.cell? ⟨e17,3,none⟩=some (.slice a1 1 c1):=zaa (hr.blkAt 12 rfl) 3 rfl;have hvb:(view !=view)=false:=by simp
      have HND:Hid (NdIs e6 W w15 x s3 l' (redR (.slice (some ⟨b,o,none⟩) os.length okc) 2 os.length (os.flatMap sdC)::sdsR os::[blk (q+1) (stdO f),blk q (twO x.nt rn),blk e22 (cntO (cntV f (j+1))),blk e17 (ctO (view-1) 0 (n:Int) (.slice a1 1 c1) (.slice a2 (2*f+1) c2)),ctsR [d]])):=zq ((zkk H2.out).drop);by_cases hkk:kk=n
      ·subst hkk
       have hbs:bs=[rS]:=by rw [HBS.out,if_pos rfl]
       have hb1:Bat w15 (.slice b1 bs.length g1) bs:=zad (k:=5) hr rfl;have hb2:=(zkd hr 13 rfl d (List.mem_singleton.2 rfl)).b.bat;rw [HDR.out.2] at hb2;have HSM:=zq (zv5 _ _ bs d.rs w15 (by rw [hbs];simp) (by rw [HDR.out.1];simp) hb1 hb2);have hsb:decide (bs=d.rs)=true:=by rw [decide_eq_true_iff,hbs,HDR.out.1]
       rw [hsb] at HSM;have hkb:((kk:Int)==(kk:Int))=true:=by simp
       have hkc:((kk:Int) !=(kk:Int))=false:=by simp
       clear hr hb hb1 hb2 hsb hbs HBS;generalize bs.length=tl at*
       go_wp2_with fail
       with_reducible refine HSM.out.mono ?_
       rintro e w16 ⟨rfl,hu⟩;have H3:=zq (H2.out.upd0 hu);have HF:=zq (HND.out.upd0 hu);clear hu HSM HND x2 x4 x6 y3;obtain ⟨rr,hr,-⟩:=H3.out.side;have x4:w16.cell? ⟨e24,4,none⟩=some (.int .i64 (kk:Int)):=zaa (hr.blkAt 6 rfl) 4 rfl;clear hr H2 H3
       go_wp2_with fail
       go_roundw
       case rel=>exact ⟨j+1,by omega,by go_num,HF⟩
       case measure=>simp [intOf];omega
      ·have hbs:bs.length=0:=by rw [HBS.out,if_neg hkk];rfl
       have htl: ¬0<bs.length:=by omega
       have hkb:((kk:Int)==(n:Int))=false:=by rw [beq_eq_false_iff_ne];omega
       have hkc:((kk:Int) !=(n:Int))=true:=by simp;omega
       clear hr hb hbs H2 HBS y3 hkk;generalize bs.length=tl at*
       go_wp2_with fail
       go_roundw
       case rel=>exact ⟨j+1,by omega,by go_num,HND⟩
       case measure=>simp [intOf];omega
    ·obtain rfl:j=os.length:=by omega
     have hjF:decide ((os.length:Int)<(os.length:Int))=false:=by simp
     clear HOV HOS
     go_wp2_with fail
     go_loopw [27] (fun kv w'=> ∃kk:Nat,1≤kk∧kk≤17∧kv= .int .i64 kk∧w'=wr) (fun kv _=>17-(intOf kv).toNat)
     case atStart=>exact ⟨1,by omega,by omega,rfl,rfl⟩
     case round=>
      obtain ⟨kk,hkk1,hkk2,rfl,rfl⟩:=hrel;have hkk0:(0:Int)≤(kk:Int):=by omega
      by_cases hlt2:kk≤16
      ·have hltI:(kk:Int)≤16:=by omega
       have hk17:(kk:Int)<17:=by omega
       obtain ⟨rr,hr,-⟩:=H1.out.side;have s0:wr.cell? ⟨e22,kk,none⟩=some (.int .i64 ((cvN f os.length kk:Nat):Int)):=by
        rw [znf (hr.blkAt 4 rfl) (by rw [ziz];omega),zw5 f os.length kk (by omega)]
       rw [HLN.out,cv_end hf1] at s0;have g0:wr.cell? ⟨q+1,0,none⟩=some (.int .i64 f):=zaa (hr.blkAt 2 rfl) 0 rfl;clear hr;by_cases hkn:kk≤n
       ·rw [if_pos ⟨hkk1,hkn⟩] at s0
        have hknI:(kk:Int)≤(n:Int):=by omega
        have s1:wr.cell? ⟨e22,kk,none⟩=some (.int .i64 (3*(f:Int))):=by rw [s0];congr 2<;>omega
        have hwe:((3*(f:Int)) !=3*(f:Int))=false:=by simp
        clear s0
        go_wp2_with fail
        with_reducible refine (HNo.out _).mono ?_
        rintro e w' ⟨rfl,rfl⟩
        go_wp2_with fail
        go_roundw
        case rel=>exact ⟨kk+1,by omega,by omega,by go_num,by trivial⟩
        case measure=>simp [intOf];omega
       ·rw [if_neg (by omega)] at s0
        have hknF:decide ((kk:Int)≤(n:Int))=false:=by simp;omega
        have s1:wr.cell? ⟨e22,kk,none⟩=some (.int .i64 0):=s0;clear s0
        go_wp2_with fail
        go_roundw
        case rel=>exact ⟨kk+1,by omega,by omega,by go_num,by trivial⟩
        case measure=>simp [intOf];omega
      ·have hltF:decide ((kk:Int)≤16)=false:=by simp;omega
       have HWk:=zq (zlh wr);have HU:Hid (Upd [] W wr):=zq (vw_upd HE6.out H1.out);clear H1
       go_wp2_with fail
       with_reducible refine HWk.out.mono ?_
       rintro e w17 ⟨rfl,hu⟩;have HU2:=zq (HU.out.trans hu);clear hu HWk HU
       go_wp2_with fail
       go_ret
       exact ⟨rfl,HU2.out⟩
end Go.Proofs.YtannckelmojkoaaGreat
