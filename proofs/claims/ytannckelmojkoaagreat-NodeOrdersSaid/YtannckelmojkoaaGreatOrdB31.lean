/- Parts of the proof, one behind the other. -/
import Derived.Test.YtannckelmojkoaaGreatOrdB30
set_option maxHeartbeats 32000000
set_option maxRecDepth 100000
set_option linter.unusedVariables false
set_option linter.unusedSimpArgs false
namespace Go.Proofs.YtannckelmojkoaaGreat
open Go.RowKit Go.Heap
theorem ztd: ∀l:List Td,(∀t∈l,0≤t.r.client∧t.r.client<4)→l.length≤l.countP (fun t=>t.r.client==0)+l.countP (fun t=>t.r.client==1)+l.countP (fun t=>t.r.client==2)+l.countP (fun t=>t.r.client==3)
 | [],_=>by simp
 | t::l,h=>by
  have ih:=ztd l (fun t ht=>h t (by simp [ht]))
  obtain ⟨h1,h2⟩:=h t (by simp)
  simp only [List.countP_cons,List.length_cons]
  rcases (by omega:t.r.client=0∨t.r.client=1∨t.r.client=2∨t.r.client=3) with e | e | e | e<;>rw [e]<;>simp<;>omega
theorem zx8 {cl:Int} {l:List Td} (h:TabOk cl l) (hc:cl≤4):l.length≤16:=by
 have:=ztd l (fun t ht=>by have:=h.c t ht;omega)
 have h0:=h.n 0
 have h1:=h.n 1
 have h2:=h.n 2
 have h3:=h.n 3
 omega
theorem zpz {cl:Int} {l:List Td} {r:Rq} {t:Int} (h:TabOk cl l) (e:zbj l r=some t):0≤t∧t≤1048576:=by
 unfold zbj at e
 cases hg:l[tabK l r]? with
 | none=>rw [hg] at e;simp at e
 | some q=>
  rw [hg] at e
  simp only at e
  split at e
  ·simp only [Option.some.injEq] at e
   have:=h.c q (List.mem_of_getElem? hg)
   subst e
   exact ⟨this.2.2.2.1,this.2.2.2.2⟩
  ·simp at e
theorem ztc {cl:Int} {l:List Td} (h:TabOk cl l) (c t:Int):TabOk cl (za2 l c t):=
 ⟨fun q hq=>h.c q (List.mem_filter.1 hq).1,fun c'=>Nat.le_trans ((List.filter_sublist).countP_le) (h.n c')⟩
section
variable {B:Nat} {w0 w W W':World} {ss rs:List Res} {x:Np} {s s':Ns} {l l':Nt}
theorem zrj (h:NdIs B w0 W x s l ss) (c t:Int):
  Calls Tryz.prog 272 #[ptrV x.tb,.int .i64 c,.int .i64 t] W fun e w'=>(∃n:Int,e= .returned (.int .i64 n))∧NdIs B w0 w' x {s with tab:=za2 s.tab c t} l ss:=by
 obtain ⟨v,rr,cc,d,g⟩:=h.lens 2 (by omega) (by omega)
 have hok:=h.ok
 have d1:Own B w0 W (blk x.tb (tabOb s.c.f s.c.cl v.tv)::tdR v.tv s.tab::(ss++rr)):=Own.open d
 refine (ztf d1 (fun q hq=>(hok.tab.c q hq).2.2.1) (Nat.le_trans (zx8 hok.tab hok.c.cl2) (by omega)) c t).mono ?_
 rintro e w' ⟨he,v',ho⟩
 exact ⟨⟨_,he⟩,g w' {s with tab:=za2 s.tab c t} {v with tv:=v'} ss (joinR (tabL x.tb s.c.f s.c.cl v' (za2 s.tab c t))) {hok with tab:=ztc hok.tab c t} {cc with} rfl (Own.shut (rs:=tabL x.tb s.c.f s.c.cl v' (za2 s.tab c t)) ho)⟩
theorem zjc {k:Nat} {ao:Option Addr} {bcap:Nat} {bs:List Rq} (h:NdIs B w0 W x s l (batR (.slice ao bs.length bcap) bs::ss)) (hk:k<s.c.f+1) (hb:bs.length≤4) (hm:(s.mt.getD k (0,0)).1+bs.length≤4*((s.ins.getD k noIn).l.countP (·.done):Nat)) (hn:l.length≤800000000) (ho:s.out.length≤800000000):
  Calls Tryz.prog 241 #[ptrV x.p,.int .i64 k,.slice ao bs.length bcap] W fun e w'=>e= .returned (.tuple #[])∧NdIs B w0 w' x (doneS k bs (s,l)).1 (doneS k bs (s,l)).2 (batR (.slice ao bs.length bcap) bs::ss):=by
 obtain ⟨fin,hfin⟩: ∃fin,fin=doneS k bs (s,l):=⟨_,rfl⟩
 obtain ⟨sg,hsg⟩: ∃sg:Ns,sg= {s with mt:=zd8 s k bs}:=⟨_,rfl⟩
 have HFIN:Hid (fin=if k≠0 then (sg,l) else if 16≤(runGo 16 (sg,l)).1.run then ({(runGo 16 (sg,l)).1 with stop:=true},(runGo 16 (sg,l)).2) else runGo 16 (sg,l)):=Lib.hid (by rw [hfin,hsg];unfold doneS;simp only;rw [zq4])
 rw [←hfin]
 have HR0:Hid (RunG sg l 16 (sg,l)):=Lib.hid (by have:=h.ok.run0;rw [hsg];exact ⟨rfl,by simp only;omega,by simp only;omega,by simp only;omega⟩)
 have H0:=Lib.hid h
 have HGM:=Lib.hid (fun j=>zup (s:=s) (k:=k) (rs:=bs) j)
 have HMM:=Lib.hid hm
 have HSG:=Lib.hid hsg
 have hf2:=h.ok.c.f2
 have hbi:(bs.length:Int)≤4:=by omega
 have hno0:=h.ok.now0
 have hno1:=h.ok.now1
 clear h hfin hm hsg
 go_enter Tryz.func241,Tryz.ntmps241
 go_upto_block 0 with fail
 go_cut [] (fun wx=>Hid (NdIs B w0 wx x sg l (batR (.slice ao bs.length bcap) bs::ss)))
 case first=>
  go_wp2_with fail
  go_loopw [16] (fun n wr=> ∃j:Nat,j≤bs.length∧n= .int .i64 j∧Hid (NdIs B w0 wr x {s with mt:=zd8 s k (bs.take j)} l (batR (.slice ao bs.length bcap) bs::ss))) (fun n _=>bs.length-(intOf n).toNat)
  case atStart=>exact ⟨0,by omega,rfl,Lib.hid H0.out⟩
  case round=>
   clear H0
   obtain ⟨j,hj,rfl,H1⟩:=hrel
   by_cases hlt:j<bs.length
   ·have hjI:(j:Int)<(bs.length:Int):=by omega
    have hj0:(0:Int)≤(j:Int):=by omega
    obtain ⟨r0,hs,-⟩:=H1.out.side
    obtain ⟨ao',cap',hv',hbc,-,-,-,h5⟩:=zfr (hs.get 0 rfl)
    simp only [Value.slice.injEq] at hv'
    obtain ⟨rfl,-,rfl⟩:=hv'
    obtain ⟨b,o,rfl,hbs,hcs⟩:=h5 (by omega)
    obtain ⟨q0,q1,q2,q3,q4,q5⟩:=zc9 hcs j bs[j] (by simp)
    have hbcI:(bs.length:Int)≤(bcap:Int):=by omega
    clear hcs h5 hbs hs hbc
    have hgm:zd8 s k (bs.take (j+1))=match zbj s.tab bs[j] with | some t=>zcr k (s.now-t) (zd8 s k (bs.take j)) | none=>zd8 s k (bs.take j):=zig hlt
    have HGS:=Lib.hid hgm
    have hmj:((zd8 s k (bs.take j)).getD k (0,0)).1+1≤4*((s.ins.getD k noIn).l.countP (·.done):Nat):=by have:=HGM.out j;have:=HMM.out;omega
    have HMJ:=Lib.hid hmj
    clear hgm hmj
    generalize zd8 s k (bs.take j)=M at*
    generalize bs[j]=r at*
    obtain ⟨client,time,kind,key,val,sl⟩:=r
    simp only at q0 q1 q2 q3 q4 q5
    have hrt: ∀t,zbj s.tab ⟨client,time,kind,key,val,sl⟩=some t→0≤t∧t≤1048576:=fun t e=>zpz H1.out.ok.tab e
    have HRT:=Lib.hid hrt
    clear hrt
    have H2:=Lib.hid (H1.out.box (rqBox ⟨client,time,kind,key,val,sl⟩))
    go_upto_region 3 with fail
    generalize wr.heap.size=e0 at*
    generalize wr.alloc _=w2 at*
    obtain ⟨r2,hs2,-⟩:=H2.out.drew.side
    obtain ⟨b0,b1,b2,b3,b4,b5⟩:=zf1 (hs2.blkAt 0 rfl)
    have c19:=H2.out.drew.cell 19 rfl (by decide)
    obtain ⟨tv,htb⟩:=H2.out.drew.tbAt
    have HS:=Lib.hid (zp0 htb (Nat.le_trans (zx8 H2.out.ok.tab H2.out.ok.c.cl2) (by omega)) ⟨client,time,kind,key,val,sl⟩)
    simp only at HS
    obtain ⟨ts,hts⟩: ∃ts,ts=zbj s.tab ⟨client,time,kind,key,val,sl⟩:=⟨_,rfl⟩
    rw [←hts] at HS HGS HRT
    clear hts
    clear q0 q1 q2 q3 q4 q5 hs2 htb H1
    refine Mix.wp_text2 (by kernel_rfl) (by kernel_rfl) ?_
    go_wp2_with fail
    refine HS.out.mono ?_
    rintro e w3 ⟨rfl,hu⟩
    have H3:=Lib.hid ((H2.out.drew.upd0 hu).drop)
    clear hu HS b0 b1 b2 b3 b4 b5 c19 H2
    cases ts with
    | none=>
     have HF:Hid (NdIs B w0 w3 x {s with mt:=zd8 s k (bs.take (j+1))} l (batR (.slice (some ⟨b,o,none⟩) bs.length bcap) bs::ss)):=Lib.hid (by rw [HGS.out];exact H3.out)
     clear H3 HGS
     go_wp2_with fail
     refine ⟨by rfl,?_⟩
     go_wp2_with fail
     go_roundw
     case rel=>exact ⟨j+1,by omega,by go_num,HF⟩
     case measure=>simp [intOf];omega
    | some t=>
     obtain ⟨ht0,ht1⟩:=HRT.out t rfl
     have hwr:IntKind.i64.wrap (s.now-t)=s.now-t:=IntWalk.i64_in _ (by omega)
     simp only [Option.getD_some,Option.isSome_some]
     go_wp2_with fail
     refine ⟨by rfl,?_⟩
     go_upto_region 5 with fail
     have c23:=H3.out.drew.cell 23 rfl (by decide)
     have c17:=H3.out.drew.cell 17 rfl (by decide)
     have HNOW:=Lib.hid (zvb H3.out.drew)
     have HADD:=Lib.hid (zzv H3.out.drew k (by exact hk) (s.now-t) (by omega) HMJ.out)
     clear H3
     refine Held.wp_held [(x.p,23,[ptrV x.mt])] [(3,0)] [12] [(10,true),(3,false)] (by kernel_rfl) (by kernel_rfl) ⟨⟨c23,trivial⟩,trivial⟩ ?_
     simp only [Held.cutAt,Held.walk,List.take_succ_cons,List.take_zero,List.drop_succ_cons,List.drop_zero]
     go_wp2_with fail
     refine HNOW.out.mono ?_
     rintro e w' ⟨rfl,rfl⟩
     go_wp2_with fail
     refine ⟨⟨⟨c23,trivial⟩,trivial⟩,?_⟩
     go_wp2_with fail
     refine HADD.out.mono ?_
     rintro e w5 ⟨⟨bb,rfl⟩,h5⟩
     have HF:Hid (NdIs B w0 w5 x {s with mt:=zd8 s k (bs.take (j+1))} l (batR (.slice (some ⟨b,o,none⟩) bs.length bcap) bs::ss)):=Lib.hid (by rw [HGS.out];exact h5)
     clear h5 HADD HNOW c23 c17 HGS
     go_wp2_with fail
     refine ⟨trivial,?_⟩
     go_wp2_with fail
     refine ⟨trivial,by rfl,⟨⟨rfl,.inl ⟨by kernel_rfl,rfl⟩⟩,trivial⟩,?_⟩
     go_wp2_with fail
     go_roundw
     case rel=>exact ⟨j+1,by omega,by go_num,HF⟩
     case measure=>simp [intOf];omega
   ·have hjI:decide ((j:Int)<(bs.length:Int))=false:=by simp;omega
    have HF:Hid (NdIs B w0 wr x sg l (batR (.slice ao bs.length bcap) bs::ss)):=Lib.hid (by rw [HSG.out];rw [List.take_of_length_le (by omega)] at H1;exact H1.out)
    clear H1
    go_wp2_with fail
    go_meet
    exact HF
 case rest=>
  clear H0
  have H1:=hcut
  clear hcut
  by_cases hk0:k=0
  ·subst hk0
   have e1:fin=if 16≤(runGo 16 (sg,l)).1.run then ({(runGo 16 (sg,l)).1 with stop:=true},(runGo 16 (sg,l)).2) else runGo 16 (sg,l):=by rw [HFIN.out,if_neg (by simp)]
   have HF1:=Lib.hid e1
   clear e1 HFIN
   go_wp2_with fail
   go_loopg [] 16 (fun m wr=> ∃p:NSt,Hid (RunG sg l m p)∧(0≤p.1.run∧p.1.run≤16)∧Hid (NdIs B w0 wr x p.1 p.2 (batR (.slice ao bs.length bcap) bs::ss)))
   case atStart=>exact ⟨(sg,l),HR0,⟨H1.out.ok.run0,H1.out.ok.run1⟩,H1⟩
   case round=>
    clear H1 HR0
    obtain ⟨p,HR,hr,H1⟩:=hrel
    obtain ⟨s1,l1⟩:=p
    simp only at hr H1
    obtain ⟨hr0,hr1⟩:=hr
    obtain ⟨i,hi,-⟩:=H1.out.iAt (k:=0) (by omega)
    have HI:=Lib.hid hi
    have HIA:Hid (∀ {s':Ns} {l':Nt} {ss':List Res} {w':World},NdIs B w0 w' x s' l' ss'→w'.cell? ⟨x.ib,0,none⟩=some (ptrV i)):=Lib.hid (fun h=>h.instAt 0 hi)
    have HD:=Lib.hid (fun N=>nd_done (H1.out.drewN N) 0 (by omega) hi)
    have hcap:=H1.out.caps.1
    have HSM:=Lib.hid H1.out.runSm
    have HBKE:=Lib.hid H1.out.ok.bke
    have c28:=H1.out.cell 28 rfl (by decide)
    have c18:=H1.out.cell 18 rfl (by decide)
    have ci:=HIA.out H1.out
    have hdl:doneI (insAt s1 0)≤16:=Nat.le_trans zw9 (by rw [H1.out.insLen];omega)
    clear hi
    by_cases hlt:s1.run<doneI (insAt s1 0)
    ·have HLT:=Lib.hid hlt
     have hd:decide (s1.run<(doneI (insAt s1 0):Int))=true:=by simp [hlt]
     have hcI:(0:Int)<(s1.c.f:Int)+1:=by omega
     have hr15:s1.run≤15:=by omega
     clear hlt
     go_wp2_with fail
     go_quiet ((go_at_call 156;exact zbi (HD.out _)))
     have H2:=Lib.hid (H1.out.drewN nq)
     clear c28 c18 ci HD H1
     generalize wr.drewN nq=w2 at*
     have c28:=H2.out.cell 28 rfl (by decide)
     have z28:=H2.out.fz 28
     go_upto_region 10 with fail
     have H3:=Lib.hid (H2.out.putRun (s1.run+1) (by omega) (by omega))
     clear c28 z28 H2
     generalize World.setCell _ _ _=w3 at*
     obtain ⟨s2,hs2⟩: ∃s2:Ns,s2= {s1 with run:=s1.run+1}:=⟨_,rfl⟩
     rw [←hs2] at H3
     have HS2:=Lib.hid hs2
     have hcf:s2.c.f=s1.c.f:=by rw [hs2]
     have hrn:s2.run=s1.run+1:=by rw [hs2]
     have HIS:Hid (insAt s2 0=insAt s1 0):=Lib.hid (by rw [hs2];rfl)
     have d0:InAt x.p x.ib x.ic s1.c.f i (s1.run+1) w3.drew:=by have:=H3.out.drew.inAt HI.out;rw [hcf,hrn] at this;exact this
     have hq1:x.p≠w3.heap.size:=Nat.ne_of_lt (World.block_lt_of_cell? _ _ d0.1)
     have hq2:x.ib≠w3.heap.size:=Nat.ne_of_lt (World.block_lt_of_cell? _ _ d0.2.1)
     clear hs2
     go_cut [10] (fun p10 wx=> ∃(e1:Nat) (view inst seq:Int) (a1:Option Addr) (k1:Nat) (bt:List Rq) (a2:Option Addr) (k2:Nat) (vs:Vs),p10= .pointer (some ⟨e1,0,none⟩)∧Hid (bt=(runC s1).rs)∧Hid (NdIs B w0 wx x s2 l1 (blk e1 (ctO view inst seq (.slice a1 bt.length k1) (.slice a2 vs.length k2))::batR (.slice a1 bt.length k1) bt::batR (.slice ao bs.length bcap) bs::ss)))
     case first=>
      have HC1:=Lib.hid (ze4 H3.out.drew 0 (by omega) HI.out (s1.run+1))
      have HC2:=Lib.hid (ze4 (H3.out.box (ctO 0 0 0 (.slice none 0 0) (.slice none 0 0))).drew 0 (by omega) HI.out (s1.run+1))
      rw [HIS.out] at HC1 HC2
      go_region_held3 (fun w'=>InAt x.p x.ib x.ic s1.c.f i (s1.run+1) w')
       (first | (with_reducible exact d0) | (with_reducible exact e0) | (with_reducible exact zg8 d0) | (with_reducible exact zg8 e0) | (with_reducible exact e1) | (with_reducible exact zxi d0) | (with_reducible exact zxi e0) | (with_reducible exact zuv hq1 hq2 e0))
       ((go_at_call 110;first
        | ((with_reducible refine HC1.out.mono ?_);rintro e w4 ⟨c,rfl,hc,⟨a1,k1,a2,k2,hb1,hv1⟩,h4⟩;have e0:InAt x.p x.ib x.ic s1.c.f i (s1.run+1) w4:=(by have:=h4.inAt HI.out;rw [hcf,hrn] at this;exact this);obtain ⟨view,inst,seq,vb,vv,bt,vs⟩:=c;simp only at hb1 hv1;subst hb1 hv1;have HCC:=Lib.hid hc;have H4:=Lib.hid h4;clear h4 hc)
        | ((with_reducible refine HC2.out.mono ?_);rintro e w4 ⟨c,rfl,hc,⟨a1,k1,a2,k2,hb1,hv1⟩,h4⟩;have e0:InAt x.p x.ib x.ic s1.c.f i (s1.run+1) w4:=(by have:=h4.inAt HI.out;rw [hcf,hrn] at this;exact this);obtain ⟨view,inst,seq,vb,vv,bt,vs⟩:=c;simp only at hb1 hv1;subst hb1 hv1;have HCC:=Lib.hid hc;have H4:=Lib.hid h4;obtain ⟨r3,hs3,-⟩:=h4.side;have b3:=hs3.blkAt 2 rfl;have x0:=zaa b3 0 rfl;have z0:=zac b3 0;have x1:=zaa b3 1 rfl;have z1:=zac b3 1;have x2:=zaa b3 2 rfl;have z2:=zac b3 2;have x3:=zaa b3 3 rfl;have z3:=zac b3 3;have x4:=zaa b3 4 rfl;have z4:=zac b3 4;clear h4 hc hs3 b3)))
      all_goals go_wp2_with fail
      all_goals go_meet
      ·exact ⟨_,view,inst,seq,a1,k1,bt,a2,k2,vs,rfl,Lib.hid (congrArg Cp.rs HCC.out),Lib.hid ((H4.out.box (ctO view inst seq (.slice a1 bt.length k1) (.slice a2 vs.length k2))).perm ((List.perm_append_comm (l₁:=[_,_]) (l₂:=[_])).append_right _)).drop⟩
      ·exact ⟨_,view,inst,seq,a1,k1,bt,a2,k2,vs,rfl,Lib.hid (congrArg Cp.rs HCC.out),Lib.hid ((nd_five (H4.out.perm ((List.perm_append_comm (l₁:=[_,_]) (l₂:=[_])).append_right _))).perm ((List.perm_append_comm (l₁:=[_,_]) (l₂:=[_])).append_right _)).drop⟩
     case rest=>
      clear d0 hq1 hq2 H3
      obtain ⟨e1,view,inst,seq,a1,k1,bt,a2,k2,vs,rfl,HBT,H4⟩:=hcut
      go_upto_region 11 with fail
      have hb4:bt.length≤4:=by
       rw [HBT.out]
       exact HSM.out
      have c22:=H4.out.drew.cell 22 rfl (by decide)
      obtain ⟨r5,hs5,-⟩:=H4.out.drew.side
      have y3:=zaa (hs5.blkAt 0 rfl) 3 rfl
      have hes:s2.bk.es=s1.bk.es∧s2.bk=s1.bk:=by rw [HS2.out];exact ⟨rfl,rfl⟩
      have HRN:=Lib.hid (nd_run (H4.out.drew.perm (.swap _ _ _)) hb4 (by
       have h1:=zeo s2.bk bt
       have h2:=HBKE.out
       rw [List.length_append,hes.1,hrn]
       omega))
      clear hs5
      refine Mix.wp_text2 (by kernel_rfl) (by kernel_rfl) ?_
      go_wp2_with fail
      refine HRN.out.mono ?_
      rintro e w5 ⟨vo,rfl,h5⟩
      have h6:=((h5.perm ((List.perm_append_comm (l₁:=[_]) (l₂:=[_,_])).append_right _)).drop).drop
      obtain ⟨r6,hs6,-⟩:=h6.side
      obtain ⟨a6,k6,rfl⟩:=zd3 (zak (hs6.get 0 rfl))
      have hel:(runL s2.bk bt).2.length≤4:=Nat.le_trans (zeo s2.bk bt) hb4
      have HCL:Hid (∀e∈(runL s2.bk bt).2,0≤e.rq.client∧e.rq.client≤1000):=Lib.hid (fun e he=>by
       have h1:=(zoh s2.bk bt).2 e he
       have h2:=h6.ok.bkc
       have h3:=h6.ok.c.cl2
       have h4:(runL s2.bk bt).1.clients=s2.bk.clients:=(zoh s2.bk bt).1
       simp only at h2 h3
       rw [h4] at h2
       omega)
      have HO3:Hid (s2.out.length≤800000064∧l1.length≤800000064):=Lib.hid (by
       have h1:=HR.out.on
       have h2:=HR.out.ln
       rw [HS2.out]
       simp only at h1 h2⊢
       omega)
      have HEND:Hid ((runL s2.bk bt).2.foldl zdw (({s2 with bk:=(runL s2.bk bt).1}:Ns),l1)=zf2 (s1,l1)):=Lib.hid (by
       rw [zgr,HBT.out,HS2.out])
      have HSTP:=Lib.hid (HR.out.step HLT.out (by omega) HSM.out)
      have H6:=Lib.hid h6
      have HS3:Hid (∃s3:Ns,s3= {s2 with bk:=(runL s2.bk bt).1}):=Lib.hid ⟨_,rfl⟩
      obtain ⟨s3,hs3⟩:=HS3.out
      rw [←hs3] at H6 HEND
      have ho3:s3.out.length≤800000064:=by rw [hs3];exact HO3.out.1
      have HO4:=Lib.hid ho3
      generalize (runL s2.bk bt).2=ens at*
      clear h5 h6 hs6 HRN H4 c22 y3 hes hs3 HS3 ho3 HBT HS2 HBKE HSM HLT HR HIS
      go_wp2_with fail
      refine ⟨by rfl,?_⟩
      go_wp2_with fail
      go_loopw [87] (fun j wr=> ∃k:Nat,k≤ens.length∧j= .int .i64 k∧Hid (NdIs B w0 wr x ((ens.take k).foldl zdw (s3,l1)).1 ((ens.take k).foldl zdw (s3,l1)).2 (enR (.slice a6 ens.length k6) ens::batR (.slice ao bs.length bcap) bs::ss))) (fun j _=>ens.length-(intOf j).toNat)
      case atStart=>exact ⟨0,by omega,rfl,H6⟩
      case round=>
       clear H6
       obtain ⟨k,hk,rfl,H7⟩:=hrel
       by_cases hlt:k<ens.length
       ·have hkI:(k:Int)<(ens.length:Int):=by omega
        have hk0:(0:Int)≤(k:Int):=by omega
        obtain ⟨o,l',t',hst,h2,h3⟩:=zid (ens.take k) (s3,l1)
        have htk:(ens.take (k+1)).foldl zdw (s3,l1)=zdw ((ens.take k).foldl zdw (s3,l1)) ens[k]:=by
         rw [List.take_add_one,List.getElem?_eq_getElem hlt,List.foldl_append];rfl
        have hce:=HCL.out ens[k] (List.getElem_mem hlt)
        obtain ⟨r7,hs7,-⟩:=H7.out.side
        obtain ⟨ao',cap',hv',hkc,-,-,-,h5⟩:=zxv (l:=ens) hs7 0 rfl
        simp only [Value.slice.injEq] at hv'
        obtain ⟨rfl,-,rfl⟩:=hv'
        obtain ⟨b,o',rfl,-,hcs⟩:=h5 (by omega)
        have hkc':(ens.length:Int)≤(k6:Int):=by omega
        have hln:(ens.take k).length≤4:=by rw [List.length_take];omega
        rw [hst] at htk H7
        simp only at htk H7 h3
        rw [zug] at htk
        have hso:({s3 with out:=s3.out++o,tab:=t'}:Ns).out.length≤900000000:=by have:=HO4.out;simp only [List.length_append];omega
        generalize ({s3 with out:=s3.out++o,tab:=t'}:Ns)=s4 at*
        obtain ⟨q0,q1,q2,q3,q4,q5,q6⟩:=zue hcs k ens[k] (by simp)
        have hl':l'.length≤900000000:=by have:=HO3.out.2;omega
        have HTK:=Lib.hid htk
        generalize ens[k]=ek at*
        obtain ⟨⟨client,time,kind,key,val,sl⟩,res⟩:=ek
        simp only at q0 q1 q2 q3 q4 q5 q6 hce HTK
        have hbx:=H7.out.box (enBox ⟨⟨client,time,kind,key,val,sl⟩,res⟩)
        have HRP:=Lib.hid (zrp (c:=client) (t:=time) (r:=res) hbx hce.1 hce.2 hl' hso)
        obtain ⟨r8,hs8,-⟩:=hbx.side
        obtain ⟨x0,x1,x2,x3,x4,x5,x6⟩:=zg2 (hs8.blkAt 0 rfl)
        have HT5:Hid ((ze6 (s4,l') client time res).1.tab=s4.tab):=Lib.hid (by rw [zjo])
        generalize ze6 (s4,l') client time res=p5 at*
        clear hst htk hs7 hcs h5 hbx hs8 hso hl' hln
        go_wp2_with fail
        refine HRP.out.mono ?_
        rintro e w8 ⟨rfl,h8⟩
        have H8:=Lib.hid h8
        generalize wr.heap.size=e0 at*
        obtain ⟨r9,hs9,-⟩:=h8.drew.side
        obtain ⟨y0,y1,-,-,-,-,-⟩:=zg2 (hs9.blkAt 0 rfl)
        have c19:=h8.drew.cell 19 rfl (by decide)
        have HDR:=Lib.hid (zrj h8.drew client time)
        clear h8 hs9 HRP q0 q1 q2 q3 q4 q5 q6 x0 x1 x2 x3 x4 x5 x6 H7 H8
        go_upto_region 15 with fail
        refine Mix.wp_text2 (by kernel_rfl) (by kernel_rfl) ?_
        go_wp2_with fail
        refine HDR.out.mono ?_
        rintro e w10 ⟨⟨nn,rfl⟩,h10⟩
        rw [HT5.out] at h10
        have H10:=Lib.hid h10.drop
        clear h10 HDR y0 y1 c19
        go_wp2_with fail
        refine ⟨by rfl,?_⟩
        go_wp2_with fail
        go_roundw
        case rel=>exact ⟨k+1,by omega,by go_num,Lib.hid (by rw [HTK.out];exact H10.out)⟩
        case measure=>simp [intOf];omega
       ·have hke:k=ens.length:=by omega
        subst hke
        have hkI:decide ((ens.length:Int)<(ens.length:Int))=false:=by simp
        rw [List.take_length,HEND.out] at H7
        obtain ⟨m',hm',HR'⟩:=HSTP.out
        have HR2:=Lib.hid HR'
        have H8:=Lib.hid H7.out.drop
        have hrr:0≤(zf2 (s1,l1)).1.run∧(zf2 (s1,l1)).1.run≤16:=⟨H7.out.ok.run0,H7.out.ok.run1⟩
        have HRR:=Lib.hid hrr
        have HM:=Lib.hid hm'
        clear H7 HEND HSTP hm' HR' hrr
        generalize zf2 (s1,l1)=p' at*
        go_wp2_with fail
        go_roundg m'
        case measure=>have:=HM.out;omega
        case rel=>exact ⟨p',HR2,HRR.out,H8⟩
    ·have hd:decide (s1.run<(doneI (insAt s1 0):Int))=false:=by simp;omega
     have HNL:=Lib.hid hlt
     clear hlt
     go_wp2_with fail
     go_quiet ((go_at_call 156;exact zbi (HD.out _)))
     have H2:=Lib.hid (H1.out.drewN nq)
     clear c28 c18 ci HD H1
     generalize wr.drewN nq=w2 at*
     have c28:=H2.out.cell 28 rfl (by decide)
     have c33:=H2.out.cell 33 rfl (by decide)
     have z33:=H2.out.fz 33
     have e2:runGo 16 (sg,l)=(s1,l1):=by rw [HR.out.go,zsw (p:=(s1,l1)) (by have:=HNL.out;simp only;omega)]
     have HE2:=Lib.hid e2
     clear e2 HNL HR
     by_cases h16:16≤s1.run
     ·have HF:Hid (NdIs B w0 (w2.setCell ⟨x.p,33,none⟩ (.bool true)) x fin.1 fin.2 (batR (.slice ao bs.length bcap) bs::ss)):=Lib.hid (by
       rw [HF1.out,HE2.out,if_pos h16]
       exact H2.out.putStop true)
      have hd2:decide (16≤s1.run)=true:=by simp [h16]
      clear HF1 HE2 h16
      go_wp2_with fail
      refine bodyPost_end (results_none rfl _ _ _) rfl ?_
      exact ⟨rfl,HF.out⟩
     ·have HF:Hid (NdIs B w0 w2 x fin.1 fin.2 (batR (.slice ao bs.length bcap) bs::ss)):=Lib.hid (by
       rw [HF1.out,HE2.out,if_neg h16]
       exact H2.out)
      have hd2:decide (16≤s1.run)=false:=by simp;omega
      clear HF1 HE2 h16
      go_wp2_with fail
      refine bodyPost_end (results_none rfl _ _ _) rfl ?_
      exact ⟨rfl,HF.out⟩
  ·have e1:fin=(sg,l):=by rw [HFIN.out,if_pos hk0]
   subst e1
   have hkb:((k:Int) !=0)=true:=by simp;omega
   clear hk0 HFIN
   go_wp2_with fail
   refine bodyPost_ret (v:= .tuple #[]) (results_none rfl _ _ _) rfl ?_
   exact ⟨rfl,H1.out⟩
end
theorem zs1 (l:List (List Int)) (k j:Nat) (v:Int):(setRow l k j v).length=l.length:=by simp [setRow]
theorem zs2 {l:List (List Int)} {k j:Nat} {v:Int} {n:Nat} (h: ∀r∈l,r.length=n): ∀r∈setRow l k j v,r.length=n:=by
 intro r hr
 unfold setRow at hr
 obtain ⟨i,hi,rfl⟩:=List.getElem_of_mem hr
 have hi:i<l.length:=by simpa using hi
 rw [List.getElem_modify]
 split
 ·rw [List.length_set];exact h _ (List.getElem_mem hi)
 ·exact h _ (List.getElem_mem hi)
theorem ztu {bs:List Nat} {l:List (List Int)} {k j:Nat} {v:Int} {c:Nat} (hk:k<l.length) (hb:bs[k]?=some c):(bs.zip l).set k (c,(l[k]).set j v)=bs.zip (setRow l k j v):=by
 obtain ⟨hb1,hb2⟩:=List.getElem?_eq_some_iff.1 hb
 refine List.ext_getElem (by simp [setRow]) (fun i h1 h2=> ?_)
 unfold setRow at h2⊢
 rw [List.getElem_set,List.getElem_zip,List.getElem_zip,List.getElem_modify]
 split
 ·rename_i e;subst e;rw [hb2]
 ·rfl
theorem own_row {B:Nat} {w0 W:World} {ss:List Res} {b:Nat} {bs:List Nat} {l:List (List Int)} (h:Own B w0 W (nrL b bs l++ss)) (hl:bs.length=l.length) (k:Nat) (hk:k<l.length):
  ∃c,bs[k]?=some c∧W.cell? ⟨b,k,none⟩=some (nrV c)∧(∀j,W.frozen? ⟨c,j,none⟩=false)∧(∀j (hj:j<l[k].length),W.cell? ⟨c,j,none⟩=some (.int .i64 l[k][j]))∧
   ∀j v,Own B w0 (W.setCell ⟨c,j,none⟩ (.int .i64 v)) (nrL b bs (setRow l k j v)++ss):=by
 have hkb:k<bs.length:=by omega
 have hkz:k<(bs.zip l).length:=by simp;omega
 have h1:Own B w0 W (nrR (bs.zip l)[k]::([segR b 69 (bs.map nrV)]++(((bs.zip l).eraseIdx k).map nrR++ss))):=Own.pick (hd:=[segR b 69 (bs.map nrV)]) (f:=nrR) (l:=bs.zip l) (ss:=ss) h k hkz
 have e:(bs.zip l)[k]=(bs[k],l[k]):=by simp
 rw [e] at h1
 obtain ⟨-,q2,q3⟩:=zcw h1.head
 refine ⟨bs[k],by simp [hkb],?_,q3,fun j hj=> ?_,fun j v=> ?_⟩
 ·have:=(zcw (h.get 0 rfl)).2.1 k (by simp;omega)
  rw [this];simp [hkb]
 ·rw [q2 j (by simp [intC];exact hj)];simp [intC,hj]
 ·have h2:=h1.put j (.int .i64 v)
  have e2:(intC l[k]).set j (.int .i64 v)=intC (l[k].set j v):=by unfold intC;rw [List.map_set]
  rw [e2] at h2
  have h3:=Own.unpick (hd:=[segR b 69 (bs.map nrV)]) (f:=nrR) (x:=(bs[k],l[k].set j v)) (ss:=ss) (l:=bs.zip l) k hkz h2
  rw [ztu hk (by simp [hkb])] at h3
  exact h3
section
variable {B:Nat} {w0 w W W':World} {ss rs:List Res} {x:Np} {s s':Ns} {l l':Nt} {k i:Nat} {vb:Value} {bs:List Rq}
theorem NdIs.comRow (h:NdIs B w0 W x s l ss) (hk:k<s.c.f+1): ∃c,W.cell? ⟨x.co,k,none⟩=some (nrV c)∧(∀j,W.frozen? ⟨c,j,none⟩=false)∧(∀j,j<17→W.cell? ⟨c,j,none⟩=some (.int .i64 (rowAt s.com k j)))∧
  ∀j v,NdIs B w0 (W.setCell ⟨c,j,none⟩ (.int .i64 v)) x {s with com:=setRow s.com k j v} l ss:=by
 have hok:=h.ok
 obtain ⟨v,rr,c,d,g⟩:=h.lens 11 (by omega) (by omega)
 have hkl:k<s.com.length:=by rw [hok.com];exact hk
 obtain ⟨q,h1,h2,h3,h4,h5⟩:=own_row (Own.open (rs:=nrL x.co x.cos s.com) d) (by rw [c.cos,hok.com]) k hkl
 have hlen:=hok.com2 _ (List.getElem_mem hkl)
 refine ⟨q,h2,h3,fun j hj=> ?_,fun j u=> ?_⟩
 ·rw [h4 j (by omega)]
  unfold rowAt
  simp [List.getD_eq_getElem?_getD,hkl,hlen,hj]
 ·exact g _ {s with com:=setRow s.com k j u} v ss (joinR (nrL x.co x.cos (setRow s.com k j u))) {hok with com:=by simp only [zs1];exact hok.com,com2:=zs2 hok.com2} {c with} rfl (Own.shut (rs:=nrL x.co x.cos (setRow s.com k j u)) (h5 j u))
abbrev batMm (kind view inst seq:Int) (v:Value) (rs:List Rq):Mm:=⟨kind,0,view,inst,seq,0,v,rs,.slice none 0 0,[],.slice none 0 0,[],.slice none 0 0,[]⟩
theorem zvo {kind view inst seq:Int} {v:Value} {bs:List Rq} (h:Own B w0 W (batR v bs::rs)):Own B w0 W (mmR (batMm kind view inst seq v bs) (batR v bs::rs)):=by
 have h0:Own B w0 W (redR v 6 bs.length (bs.flatMap za8)::batR v bs::rs):=h.copy (by rw [zlx];exact List.mem_cons_self) rfl
 have h1:=zdn 2 h0
 have h2:Own B w0 W (ctsR []::_):=h1.mkCts (by simp)
 have h3:=zdn 5 h2
 have h4:Own B w0 W (ptsR []::_):=h3.mkPts (by simp)
 exact zdn 4 h4
theorem zyf {kind view inst seq:Int} {v:Value} {bs:List Rq} (hb:bs.length≤4):MmOk (batMm kind view inst seq v bs):=⟨by simp;omega,by simp,by simp,by simp⟩
theorem zil {a1:Option Addr} {c1:Nat} {kind seq:Int} (h:NdIs B w0 W x s l (batR (.slice a1 bs.length c1) bs::ss)) (hk:k<s.c.f+1) (hb:bs.length≤4) (hn:l.length≤900000000) (ho:s.out.length≤900000000):
  Calls Tryz.prog 221 #[ptrV x.p,.int .i64 kind,.int .i64 k,.int .i64 seq,.slice a1 bs.length c1] W fun e w'=>e= .returned (.tuple #[])∧NdIs B w0 w' x (zdu kind k seq bs (s,l)).1 (zdu kind k seq bs (s,l)).2 (batR (.slice a1 bs.length c1) bs::ss):=by
 have hcap:=h.caps.1
 obtain ⟨i,hi,-⟩:=h.iAt hk
 obtain ⟨fin,hfin⟩: ∃fin,fin=zdu kind k seq bs (s,l):=⟨_,rfl⟩
 have HFIN:Hid (fin=(zbp (sendS (s,l) (balM' kind s.view k seq bs)).1 k (voteI (insAt (sendS (s,l) (balM' kind s.view k seq bs)).1 k) kind seq (sendS (s,l) (balM' kind s.view k seq bs)).1.id (sendN (s,l) (balM' kind s.view k seq bs)) bs),(sendS (s,l) (balM' kind s.view k seq bs)).2)):=Lib.hid (by rw [hfin];rfl)
 rw [←hfin]
 have HSE:=Lib.hid (zvf (m:=batMm kind s.view k seq (.slice a1 bs.length c1) bs) (h.onSide (ss':=mmR (batMm kind s.view k seq (.slice a1 bs.length c1) bs) (batR (.slice a1 bs.length c1) bs::ss)) (fun r hr=>zvo (rs:=ss++[r]) hr)) (zyf hb) hn ho)
 have c29:=h.cell 29 rfl (by decide)
 rw [show (batMm kind s.view k seq (.slice a1 bs.length c1) bs).ms=balM' kind s.view k seq bs from rfl] at HSE
 obtain ⟨o,hso,-,-⟩:=zk9 (s,l) (balM' kind s.view k seq bs)
 generalize sendS (s,l) (balM' kind s.view k seq bs)=p1 at*
 generalize sendN (s,l) (balM' kind s.view k seq bs)=sn at*
 obtain ⟨s1,l1⟩:=p1
 simp only [Prod.mk.injEq] at hso
 have hcf:s1.c.f=s.c.f:=by rw [hso.1]
 simp only at HSE HFIN
 have HI:=Lib.hid hi
 have hk0:(0:Int)≤(k:Int):=by omega
 have hkI:(k:Int)<(s1.c.f:Int)+1:=by omega
 have hcI:(s1.c.f:Int)+1≤(x.ic:Int):=by omega
 clear h hfin hso hi
 go_enter Tryz.func221,Tryz.ntmps221
 go_wp2_with fail
 refine HSE.out.mono ?_
 rintro e w2 ⟨rfl,h2⟩
 have h3:NdIs B w0 w2 x s1 l1 (batR (.slice a1 bs.length c1) bs::ss):=h2.drop.drop.drop.drop.drop.drop
 have d18:=h3.drew.cell 18 rfl (by decide)
 have d15:=h3.drew.cell 15 rfl (by decide)
 have di:=h3.drew.instAt k HI.out
 have HV:=Lib.hid (zxn h3.drew (by omega) HI.out hb kind seq s1.id sn)
 clear h2 h3 HSE c29
 go_upto_region 1 with fail
 refine Mix.wp_text2 (by kernel_rfl) (by kernel_rfl) ?_
 go_wp2_with fail
 with_reducible refine HV.out.mono ?_
 rintro e w4 ⟨rfl,h4⟩
 have HF:Hid (NdIs B w0 w4 x fin.1 fin.2 (batR (.slice a1 bs.length c1) bs::ss)):=Lib.hid (by rw [HFIN.out];exact h4)
 clear h4 HV d18 d15 di HFIN
 go_wp2_with fail
 refine ⟨by rfl,?_⟩
 go_wp2_with fail
 refine bodyPost_end (results_none rfl _ _ _) rfl ?_
 exact ⟨rfl,HF.out⟩
end
structure KeepN (a b:Ns):Prop where
 c:b.c=a.c
 id:b.id=a.id
 now:b.now=a.now
 vo:b.vo=a.vo
 gd:b.gd=a.gd
 pts:b.pts=a.pts
 view:b.view=a.view
 voted:b.voted=a.voted
 used:b.used=a.used
 bad:b.bad=a.bad
 stale:b.stale=a.stale
 shut:b.shut=a.shut
 full:b.full=a.full
theorem KeepN.refl (a:Ns):KeepN a a:=by constructor<;>rfl
theorem KeepN.trans {a b d:Ns} (h:KeepN a b) (g:KeepN b d):KeepN a d:=⟨g.c.trans h.c,g.id.trans h.id,g.now.trans h.now,g.vo.trans h.vo,g.gd.trans h.gd,g.pts.trans h.pts,g.view.trans h.view,g.voted.trans h.voted,g.used.trans h.used,g.bad.trans h.bad,g.stale.trans h.stale,g.shut.trans h.shut,g.full.trans h.full⟩
structure Grow (n:Nat) (p q:NSt):Prop where
 out:q.1.out.length≤p.1.out.length+n
 nt:q.2.length≤p.2.length+n
 k:KeepN p.1 q.1
theorem Grow.refl (p:NSt):Grow 0 p p:=⟨Nat.le_refl _,Nat.le_refl _,.refl _⟩
theorem Grow.trans {n m:Nat} {p q r:NSt} (h:Grow n p q) (g:Grow m q r):Grow (n+m) p r:=
 ⟨by have:=h.out;have:=g.out;omega,by have:=h.nt;have:=g.nt;omega,h.k.trans g.k⟩
theorem Grow.mono {n m:Nat} {p q:NSt} (h:Grow n p q) (hm:n≤m):Grow m p q:=⟨by have:=h.out;omega,by have:=h.nt;omega,h.k⟩
theorem zut (p:NSt) (m:Ms) (hf:p.1.c.f≤4):Grow 13 p (sendS p m):=by
 obtain ⟨o,e,h1,h2⟩:=zk9 p m
 refine ⟨?_,by omega,by rw [e];constructor<;>rfl⟩
 rw [e]
 simp only [List.length_append]
 omega
theorem zih (kind:Int) (k:Nat) (seq:Int) (rs:List Rq) (p:NSt) (hf:p.1.c.f≤4):Grow 13 p (zdu kind k seq rs p):=by
 obtain ⟨h1,h2,h3⟩:=zut p (balM' kind p.1.view k seq rs) hf
 exact ⟨h1,h2,h3.trans (by constructor<;>rfl)⟩
theorem zpj {st:In} {seq:Int} (h:prepI st seq=none):za6 st seq=st:=by
 unfold za6
 rw [h]
 split<;>simp_all
theorem zqo {st:In} {seq:Int} (h:commI st seq=none):zbc st seq=st:=by
 unfold zbc
 rw [h]
 split<;>simp_all
theorem pl_seq {st:In} {seq:Int} {p:Pl} (h:plAt st seq=some p):1≤seq∧seq≤16:=by
 unfold plAt idx at h
 split at h
 ·assumption
 ·simp at h
theorem prep_seq {st:In} {seq:Int} {c:Cp} (h:prepI st seq=some c):1≤seq∧seq≤16:=by
 unfold prepI at h
 cases hp:plAt st seq with
 | none=>rw [hp] at h;simp at h
 | some p=>exact pl_seq hp
theorem zkb {α:Type} (p:α→Bool) (g:α→α) (hg: ∀a,p (g a)=true): ∀(l:List α) (k:Nat) (a:α),l[k]?=some a→p a=false→l.countP p+1≤(l.modify k g).countP p
 | [],k,a,h,_=>by simp at h
 | b::l,0,a,h,ha=>by
  simp only [List.getElem?_cons_zero,Option.some.injEq] at h
  subst h
  simp only [List.modify_zero_cons,List.countP_cons,ha,hg]
  simp
 | b::l,k+1,a,h,ha=>by
  simp only [List.modify_succ_cons,List.countP_cons]
  have:=zkb p g hg l k a (by simpa using h) ha
  omega
theorem zqn {st:In} {seq:Int} {c:Cp} (h:commI st seq=some c):st.l.countP (·.done)+1≤(zbc st seq).l.countP (·.done):=by
 have h':=h
 unfold commI at h'
 unfold zbc
 cases hi:idx seq with
 | none=>unfold plAt at h';rw [hi] at h';simp at h'
 | some k=>
  rw [h]
  have hp:plAt st seq=st.l[k]?:=by unfold plAt;rw [hi];rfl
  rw [hp] at h'
  cases hq:st.l[k]? with
  | none=>rw [hq] at h';simp at h'
  | some p=>
   rw [hq] at h'
   simp only at h'
   split at h'
   ·simp at h'
   ·rename_i hd
    exact zkb (·.done) (fun p=> {p with done:=true,dw:=c}) (fun _=>rfl) _ _ _ hq (by simpa using hd)
theorem zs0 {s:Ns} {k:Nat} {st:In} (h:k<s.ins.length):insAt (zbp s k st) k=st:=by unfold insAt zbp;simp [List.getD_eq_getElem?_getD,h]
theorem zew {s:Ns} {k:Nat} (h:k<s.ins.length):zbp s k (insAt s k)=s:=by
 rw [zbo s k h]
 unfold zbp
 rw [set_self]
def look1 (k:Nat) (seq:Int) (p:NSt):NSt:=match prepI (insAt p.1 k) seq with
 | some c=>zdu 5 k seq c.rs ({zbp p.1 k (za6 (insAt p.1 k) seq) with com:=setRow p.1.com k seq.toNat (p.1.view+1)},p.2)
 | none=>p
def look2 (k:Nat) (seq:Int) (p:NSt):NSt:=match commI (insAt p.1 k) seq with
 | some c=>doneS k c.rs (zbp p.1 k (zbc (insAt p.1 k) seq),p.2)
 | none=>p
theorem zy6 (k:Nat) (seq:Int) (p:NSt):lookS k seq p=look2 k seq (look1 k seq p):=rfl
theorem zq5 (k:Nat) (seq:Int) (p:NSt) (hf:p.1.c.f≤4):Grow 13 p (look1 k seq p):=by
 unfold look1
 split
 ·have:=zih 5 k seq (by assumption:Cp).rs ({zbp p.1 k (za6 (insAt p.1 k) seq) with com:=setRow p.1.com k seq.toNat (p.1.view+1)},p.2) hf
  exact ⟨this.out,this.nt,KeepN.trans (by constructor<;>rfl) this.k⟩
 ·exact (Grow.refl p).mono (by omega)
section
variable {B:Nat} {w0 w W W':World} {ss rs:List Res} {x:Np} {s s':Ns} {l l':Nt} {k i:Nat} {vb:Value} {bs:List Rq}
theorem zim {seq:Int} (h:NdIs B w0 W x s l ss) (hk:k<s.c.f+1) (hn:l.length≤700000000) (ho:s.out.length≤700000000):
  Calls Tryz.prog 222 #[ptrV x.p,.int .i64 k,.int .i64 seq] W fun e w'=>e= .returned (.tuple #[])∧NdIs B w0 w' x (lookS k seq (s,l)).1 (lookS k seq (s,l)).2 ss:=by
 have hcap:=h.caps
 have hkc:=h.caps.2.2.2.2.1
 have hki:k<s.ins.length:=by rw [h.ok.ins];exact hk
 obtain ⟨i,hi,-⟩:=h.iAt hk
 have HI:=Lib.hid hi
 have HSM:Hid (InSm (insAt s k)):=Lib.hid (by rw [zbo s k hki];exact (h.ok.insk k hki).2.2.2)
 have HV:=Lib.hid (And.intro h.ok.view0 h.ok.view1)
 have HG:=Lib.hid (zq5 k seq (s,l) h.ok.c.f2)
 rw [zy6]
 obtain ⟨p1,hp1⟩: ∃p1,p1=look1 k seq (s,l):=⟨_,rfl⟩
 obtain ⟨fin,hfin⟩: ∃fin,fin=look2 k seq p1:=⟨_,rfl⟩
 rw [←hp1] at HG⊢
 rw [←hfin]
 have HP1:=Lib.hid hp1
 have HFIN:=Lib.hid hfin
 have H0:=Lib.hid h
 have c18:=h.cell 18 rfl (by decide)
 have ci:=h.instAt k hi
 have HPR:=Lib.hid (zpa h hk hi seq)
 obtain ⟨ok,hok⟩: ∃ok,ok=(prepI (insAt s k) seq).isSome:=⟨_,rfl⟩
 rw [←hok] at HPR
 have HOK:=Lib.hid hok
 clear hok
 have hk0:(0:Int)≤(k:Int):=by omega
 have hkI:(k:Int)<(s.c.f:Int)+1:=by omega
 have hcI:(s.c.f:Int)+1≤(x.ic:Int):=by omega
 have hcK:(s.c.f:Int)+1≤(x.cok:Int):=by omega
 clear h hp1 hfin hi hcap
 go_enter Tryz.func222,Tryz.ntmps222
 go_wp2_with fail
 with_reducible refine HPR.out.mono ?_
 rintro e w2 ⟨c,rfl,hc,h2⟩
 obtain ⟨a1,k1,e1⟩:=hc.vb
 obtain ⟨a2,k2,e2⟩:=hc.vv
 have HCP:=Lib.hid hc.cp
 have HCN:=Lib.hid hc.vn
 clear hc HPR c18 ci
 obtain ⟨view,inst,sq,vb,vv,bs,vs⟩:=c
 simp only at e1 e2 HCN
 subst e1 e2
 have H3:=Lib.hid (h2.box (ctO view inst sq (.slice a1 bs.length k1) (.slice a2 vs.length k2)))
 clear h2
 go_upto_if 22 with fail
 generalize w2.heap.size=e0 at*
 generalize w2.alloc _=w3 at*
 go_cut [] (fun wx=>Hid (NdIs B w0 wx x p1.1 p1.2 ss))
 case first=>
  cases ok with
  | false=>
   have hpr:prepI (insAt s k) seq=none:=by have:=HOK.out;cases h:prepI (insAt s k) seq with | none=>rfl | some c=>rw [h] at this;simp at this
   have HF:Hid (NdIs B w0 w3 x p1.1 p1.2 ss):=Lib.hid (by
    have h4:=H3.out.drop.drop.drop
    rw [zpj hpr,zew hki] at h4
    rw [HP1.out];unfold look1;simp only;rw [hpr];exact h4)
   clear H3 HCP HP1 hpr HOK
   go_wp2_with fail
   go_meet
   exact HF
  | true=>
   obtain ⟨c0,hpr⟩: ∃c0,prepI (insAt s k) seq=some c0:=Option.isSome_iff_exists.1 HOK.out.symm
   obtain ⟨q1,q2⟩:=prep_seq hpr
   obtain ⟨sn,hsn⟩: ∃sn:Nat,seq=sn:=⟨seq.toNat,by omega⟩
   have hrs:bs=c0.rs:=by have:=HCP.out;rw [hpr] at this;exact congrArg Cp.rs this
   have hb4:bs.length≤4:=by rw [hrs];exact zxy HSM.out hpr
   have HE:Hid (p1=zdu 5 k seq bs ({zbp s k (za6 (insAt s k) seq) with com:=setRow s.com k seq.toNat (s.view+1)},l)):=Lib.hid (by rw [HP1.out];unfold look1;simp only;rw [hpr,hrs])
   clear hrs hpr HP1 HCP HOK
   subst hsn
   rw [Int.toNat_natCast] at HE
   obtain ⟨q,y1,z1,y2,hput⟩:=H3.out.comRow (k:=k) hk
   have hsn0:(0:Int)≤(sn:Int):=by omega
   have hsnI:(sn:Int)<17:=by omega
   have c27:w3.cell? ⟨x.p,27,none⟩=some (slI x.co (s.c.f+1) x.cok):=H3.out.cell 27 rfl (by decide)
   have c29:w3.cell? ⟨x.p,29,none⟩=some (.int .i64 s.view):=H3.out.cell 29 rfl (by decide)
   have hvw:IntKind.i64.wrap (s.view+1)=s.view+1:=IntWalk.i64_in _ (by have:=HV.out;omega)
   have y3:w3.drew.cell? ⟨q,sn,none⟩=some (.int .i64 (rowAt s.com k sn)):=y2 sn (by omega)
   have z3:w3.drew.frozen? ⟨q,sn,none⟩=false:=z1 sn
   obtain ⟨s2,hs2⟩: ∃s2:Ns,s2= {zbp s k (za6 (insAt s k) sn) with com:=setRow s.com k sn (s.view+1)}:=⟨_,rfl⟩
   rw [←hs2] at HE
   have H4:Hid (NdIs B w0 (w3.setCell ⟨q,sn,none⟩ (.int .i64 (s.view+1))).drew x s2 l (blk e0 (ctO view inst sq (.slice a1 bs.length k1) (.slice a2 vs.length k2))::batR (.slice a1 bs.length k1) bs::redR (.slice a2 vs.length k2) 2 vs.length (zan vs)::ss)):=Lib.hid (by rw [hs2];exact (hput sn (s.view+1)).drew)
   have hk2:k<s2.c.f+1:=by rw [hs2];exact hk
   have ho2:s2.out.length≤900000000:=by rw [hs2];exact Nat.le_trans ho (by omega)
   clear hs2
   have y1':w3.cell? ⟨x.co,k,none⟩=some (nrV q):=y1
   clear hput z1 y2 y1 H3
   go_wp2_with fail
   go_region
   all_goals
    generalize World.drew (World.setCell _ _ _)=w4 at*
    obtain ⟨r4,hs4,-⟩:=H4.out.side
    have y4:=zaa (hs4.blkAt 0 rfl) 3 rfl
    have HB:=Lib.hid (zil (kind:=5) (seq:=sn) (H4.out.perm (.swap _ _ _)) hk2 hb4 (by omega) ho2)
    rw [←HE.out] at HB
    clear hs4 H4 HE y1' y3 z3 c27 c29
    go_wp2_with fail
    with_reducible refine HB.out.mono ?_
    rintro e w5 ⟨rfl,h5⟩
    have HF:=Lib.hid h5.drop.drop.drop
    clear h5 HB y4
    go_wp2_with fail
    go_meet
    exact HF
 case rest=>
  have H1:=hcut
  clear hcut H3 H0 HCP HOK HP1 HSM HCN
  obtain ⟨g1,g2,g3⟩:=HG.out
  have g3:=g3.c
  obtain ⟨s1,l1⟩:=p1
  simp only at g1 g2 g3 H1 HFIN
  have hk1:k<s1.c.f+1:=by rw [g3];exact hk
  have hki1:k<s1.ins.length:=by rw [H1.out.ok.ins];exact hk1
  have d18:wc.cell? ⟨x.p,18,none⟩=some (slI x.ib (s.c.f+1) x.ic):=by have:=H1.out.cell 18 rfl (by decide);rw [g3] at this;exact this
  have di:=H1.out.instAt k HI.out
  have HCM:=Lib.hid (zri H1.out hk1 HI.out seq)
  have HSM1:Hid (InSm (insAt s1 k)):=Lib.hid (by rw [zbo s1 k hki1];exact (H1.out.ok.insk k hki1).2.2.2)
  obtain ⟨ok2,hok2⟩: ∃ok2,ok2=(commI (insAt s1 k) seq).isSome:=⟨_,rfl⟩
  rw [←hok2] at HCM
  have HOK2:=Lib.hid hok2
  have HMT:Hid ((s1.mt.getD k (0,0)).1≤4*((insAt s1 k).l.countP (·.done):Nat)):=Lib.hid (by
   have hml:k<s1.mt.length:=by rw [H1.out.ok.mt];exact hk1
   have:=(H1.out.ok.mtn k hml hki1).2.1
   rw [zbo s1 k hki1]
   simpa [List.getD_eq_getElem?_getD,hml] using this)
  have HCF:=Lib.hid g3
  clear hok2 H1 g3
  go_wp2_with fail
  with_reducible refine HCM.out.mono ?_
  rintro e w6 ⟨c,rfl,hc,h6⟩
  obtain ⟨a1,k1,e1⟩:=hc.vb
  obtain ⟨a2,k2,e2⟩:=hc.vv
  have HCP:=Lib.hid hc.cp
  clear hc HCM d18 di
  obtain ⟨view,inst,sq,vb,vv,bs,vs⟩:=c
  simp only at e1 e2
  subst e1 e2
  have H7:=Lib.hid (h6.box (ctO view inst sq (.slice a1 bs.length k1) (.slice a2 vs.length k2)))
  clear h6
  go_upto_if 55 with fail
  generalize w6.heap.size=e1 at*
  generalize w6.alloc _=w7 at*
  cases ok2 with
  | false=>
   have hcm:commI (insAt s1 k) seq=none:=by have:=HOK2.out;cases h:commI (insAt s1 k) seq with | none=>rfl | some c=>rw [h] at this;simp at this
   have HF:Hid (NdIs B w0 w7 x fin.1 fin.2 ss):=Lib.hid (by
    have h4:=H7.out.drop.drop.drop
    rw [zqo hcm,zew hki1] at h4
    rw [HFIN.out];unfold look2;simp only;rw [hcm];exact h4)
   clear H7 HCP HFIN hcm HOK2 HMT HCF HSM1
   go_wp2_with fail
   refine bodyPost_end (results_none rfl _ _ _) rfl ?_
   exact ⟨rfl,HF.out⟩
  | true=>
   obtain ⟨c0,hcm⟩: ∃c0,commI (insAt s1 k) seq=some c0:=Option.isSome_iff_exists.1 HOK2.out.symm
   have hrs:bs=c0.rs:=by have:=HCP.out;rw [hcm] at this;exact congrArg Cp.rs this
   have hb4:bs.length≤4:=by rw [hrs];exact zw6 HSM1.out hcm
   have HE:Hid (fin=doneS k bs (zbp s1 k (zbc (insAt s1 k) seq),l1)):=Lib.hid (by rw [HFIN.out];unfold look2;simp only;rw [hcm,hrs])
   have hdn:=zqn hcm
   have hmt:=HMT.out
   obtain ⟨r7,hs7,-⟩:=H7.out.side
   have y4:=zaa (hs7.blkAt 0 rfl) 3 rfl
   have HC:=Lib.hid (zjc (k:=k) (H7.out.perm (.swap _ _ _)) (by exact hk1) hb4 (by
    have e:(zbp s1 k (zbc (insAt s1 k) seq)).ins.getD k noIn=zbc (insAt s1 k) seq:=zs0 hki1
    rw [e]
    show (s1.mt.getD k (0,0)).1+_≤_
    omega) (by omega) (by show s1.out.length≤_;omega))
   rw [←HE.out] at HC
   clear hs7 H7 HE hdn hmt HMT hcm hrs HCP HFIN HOK2 HSM1 HCF
   go_wp2_with fail
   with_reducible refine HC.out.mono ?_
   rintro e w8 ⟨rfl,h8⟩
   have HF:=Lib.hid h8.drop.drop.drop
   clear h8 HC y4
   go_wp2_with fail
   refine bodyPost_end (results_none rfl _ _ _) rfl ?_
   exact ⟨rfl,HF.out⟩
end
end Go.Proofs.YtannckelmojkoaaGreat
