/- Parts of the proof, one behind the other. -/
import Derived.Test.YtannckelmojkoaaGreatOrdB31
set_option maxHeartbeats 32000000
set_option maxRecDepth 100000
set_option linter.unusedVariables false
set_option linter.unusedSimpArgs false
namespace Go.Proofs.YtannckelmojkoaaGreat
open Go.RowKit Go.Heap
theorem preI_no {st:In} {seq:Int} {rs:List Rq} (h:preB st seq=false):preI st seq rs=st:=by
 unfold preI
 split
 ·rfl
 ·rw [h];rfl
theorem upd_same {st:In} {k:Nat} {g:Pl→Pl} (h: ∀p,st.l[k]?=some p→g p=p):st.upd k g=st:=by
 have e:st.l.modify k g=st.l:=by
  refine List.ext_getElem? (fun j=> ?_)
  rw [List.getElem?_modify]
  split
  ·rename_i e;subst e
   cases hq:st.l[k]? with
   | none=>rfl
   | some p=>exact congrArg some (h p hq)
  ·simp
 unfold In.upd
 rw [e]
theorem voteI_no {st:In} {kind seq node sl:Int} {rs:List Rq} (h:voteB st kind seq node=false):voteI st kind seq node sl rs=st:=by
 unfold voteB plAt at h
 unfold voteI
 cases hi:idx seq with
 | none=>rfl
 | some k=>
  rw [hi] at h
  simp only [Option.bind_some] at h
  simp only
  split
  ·rename_i hon
   refine upd_same (fun p hp=> ?_)
   rw [hp] at h
   simp only [hon,Bool.true_and] at h
   unfold voteS
   rw [h]
   rfl
  ·rfl
theorem znd {l:Nt} {bt cl:Int} {rs:List Rq} (h:zbh l bt cl rs=true) (hb:bt≤4):rs.length≤4:=by
 unfold zbh at h
 simp only [Bool.and_eq_true,decide_eq_true_eq] at h
 omega
section
variable {B:Nat} {w0 w W W':World} {ss rs:List Res} {x:Np} {s s':Ns} {l l':Nt} {k i:Nat}
theorem zko {seq:Int} (h:NdIs B w0 W x s l ss) (hk:k<s.c.f+1) (hn:l.length≤600000000) (ho:s.out.length≤600000000):
  Calls Tryz.prog 161 #[ptrV x.p,.int .i64 k,.int .i64 seq] W fun e w'=>e= .returned (.tuple #[])∧NdIs B w0 w' x (zez k seq (s,l)).1 (zez k seq (s,l)).2 ss:=by
 have hcap:=h.caps.1
 have hki:k<s.ins.length:=by rw [h.ok.ins];exact hk
 obtain ⟨i,hi,-⟩:=h.iAt hk
 have HSM:Hid ((zbq (insAt s k) seq).1.length≤4):=Lib.hid (zt7 (by rw [zbo s k hki];exact (h.ok.insk k hki).2.2.2) seq)
 obtain ⟨fin,hfin⟩: ∃fin,fin=zez k seq (s,l):=⟨_,rfl⟩
 have HFIN:Hid (fin=lookS k seq (zdu 4 k seq (zbq (insAt s k) seq).1 (s,l))):=Lib.hid (by rw [hfin];rfl)
 rw [←hfin]
 have HG:=Lib.hid (zih 4 k seq (zbq (insAt s k) seq).1 (s,l) h.ok.c.f2)
 have c18:=h.cell 18 rfl (by decide)
 have ci:=h.instAt k hi
 have HCH:=Lib.hid (zva h hk hi seq)
 have HK:=Lib.hid hk
 have hk0:(0:Int)≤(k:Int):=by omega
 have hkI:(k:Int)<(s.c.f:Int)+1:=by omega
 have hcI:(s.c.f:Int)+1≤(x.ic:Int):=by omega
 generalize (zbq (insAt s k) seq).1=bs at*
 generalize (zbq (insAt s k) seq).2=is at*
 clear h hfin hi hcap
 go_enter Tryz.func161,Tryz.ntmps161
 go_wp2_with fail
 with_reducible refine HCH.out.mono ?_
 rintro e w2 ⟨a1,c1,rfl,h2⟩
 have HB:=Lib.hid (zil (kind:=4) (seq:=seq) h2 HK.out HSM.out (by omega) (by omega))
 clear h2 HCH c18 ci
 go_wp2_with fail
 with_reducible refine HB.out.mono ?_
 rintro e w3 ⟨rfl,h3⟩
 have h4:=h3.drop
 have hg:=HG.out
 generalize zdu 4 k seq bs (s,l)=p1 at*
 obtain ⟨s1,l1⟩:=p1
 obtain ⟨g1,g2,g3⟩:=hg
 have g3:=g3.c
 simp only at g1 g2 g3 h4
 have HL:=Lib.hid (zim (k:=k) (seq:=seq) h4 (by rw [g3];exact HK.out) (by omega) (by omega))
 rw [←HFIN.out] at HL
 clear h3 h4 HB hkI hcI HG HSM HK g1 g2 g3
 go_wp2_with fail
 with_reducible refine HL.out.mono ?_
 rintro e w5 ⟨rfl,h5⟩
 have HF:=Lib.hid h5
 clear h5 HL
 go_wp2_with fail
 refine bodyPost_end (results_none rfl _ _ _) rfl ?_
 exact ⟨rfl,HF.out⟩
theorem zzz {m:Mm} (h:NdIs B w0 W x s l (mmR m ss)) (hm0:0≤m.inst) (hm1:m.inst≤s.c.f) (hmn:m.rs.length≤100000) (hn:l.length≤600000000) (ho:s.out.length≤600000000):
  Calls Tryz.prog 177 #[ptrV x.p,.agg (mmA m)] W fun e w'=>e= .returned (.int .i64 (zcj m.ms (s,l)).1)∧NdIs B w0 w' x (zcj m.ms (s,l)).2.1 (zcj m.ms (s,l)).2.2 (mmR m ss):=by
 obtain ⟨r0,hs0,-⟩:=h.side
 have hbv:Reads W m.vb 6 m.rs.length (m.rs.flatMap za8):=zae (k:=5) hs0 rfl
 obtain ⟨a1,c1,e1⟩: ∃a c,m.vb= .slice a m.rs.length c:=let ⟨a,c,e,_⟩:=hbv;⟨a,c,e⟩
 obtain ⟨k,hinst⟩: ∃k:Nat,m.inst=k:=⟨m.inst.toNat,by omega⟩
 obtain ⟨kind,fm,view,inst,seq,res,vb,rs,vv,vs,vc,cts,vp,pts⟩:=m
 simp only at hbv e1 hinst hm0 hm1 hmn
 subst hinst e1
 have hk:k<s.c.f+1:=by omega
 have hki:k<s.ins.length:=by rw [h.ok.ins];exact hk
 have hcap:=h.caps.1
 have hok:=h.ok.c
 obtain ⟨i,hi,-⟩:=h.iAt hk
 obtain ⟨mm,hmm⟩: ∃mm:Mm,mm=⟨kind,fm,view,k,seq,res,.slice a1 rs.length c1,rs,vv,vs,vc,cts,vp,pts⟩:=⟨_,rfl⟩
 obtain ⟨fin,hfin⟩: ∃fin,fin=zcj mm.ms (s,l):=⟨_,rfl⟩
 have HFIN:Hid (fin=if !zbh l s.c.bt s.c.cl rs then (3,(s,l)) else if view≠s.view∨ !preB (insAt s k) seq then (1,(s,l)) else (0,zez k seq (zbp s k (preI (insAt s k) seq rs),l))):=Lib.hid (by rw [hfin,hmm];rfl)
 rw [←hmm] at h⊢
 rw [←hfin]
 have H0:=Lib.hid (h.box (mmO mm))
 have hb0:=heap_alloc_new W (mmO mm)
 have y0:(W.alloc (mmO mm)).cell? ⟨W.heap.size,0,none⟩=some (.int .i64 kind):=zaa hb0 0 (by rw [hmm];rfl)
 have y1:(W.alloc (mmO mm)).cell? ⟨W.heap.size,1,none⟩=some (.int .i64 fm):=zaa hb0 1 (by rw [hmm];rfl)
 have y2:(W.alloc (mmO mm)).cell? ⟨W.heap.size,2,none⟩=some (.int .i64 view):=zaa hb0 2 (by rw [hmm];rfl)
 have y3:(W.alloc (mmO mm)).cell? ⟨W.heap.size,3,none⟩=some (.int .i64 k):=zaa hb0 3 (by rw [hmm];rfl)
 have y4:(W.alloc (mmO mm)).cell? ⟨W.heap.size,4,none⟩=some (.int .i64 seq):=zaa hb0 4 (by rw [hmm];rfl)
 have y6:(W.alloc (mmO mm)).cell? ⟨W.heap.size,6,none⟩=some (.slice a1 rs.length c1):=zaa hb0 6 (by rw [hmm];rfl)
 have hua:Upd [] W (W.alloc (mmO mm)):=(Upd.refl [] W).alloc _
 have HBT:=Lib.hid (zia (most:=s.c.bt) (cl:=s.c.cl) H0.out.drew.ntAt h.nok hok.cl2 (hbv.upd hua.drew (by simp)) hmn)
 have c1':=H0.out.drew.cell 1 rfl (by decide)
 have c2':=H0.out.drew.cell 2 rfl (by decide)
 have c16:=H0.out.drew.cell 16 rfl (by decide)
 have HI:=Lib.hid hi
 have HMM:=Lib.hid hmm
 have hbt4:=hok.bt2
 have hk0:(0:Int)≤(k:Int):=by omega
 have hkI:(k:Int)<(s.c.f:Int)+1:=by omega
 have hcI:(s.c.f:Int)+1≤(x.ic:Int):=by omega
 clear hs0 h hfin hcap hok hua hbv hmn hi hb0
 rw [show Value.agg (mmA mm)= .agg (mmA ⟨kind,fm,view,k,seq,res,.slice a1 rs.length c1,rs,vv,vs,vc,cts,vp,pts⟩) from by rw [hmm]]
 rw [show mmO mm= .cells (mmA ⟨kind,fm,view,k,seq,res,.slice a1 rs.length c1,rs,vv,vs,vc,cts,vp,pts⟩) 47 (0,0) from by rw [hmm]] at y0 y1 y2 y3 y4 y6 H0 HBT c1' c2' c16
 clear hmm
 go_enter Tryz.func177,Tryz.ntmps177
 go_upto_region 1 with fail
 generalize W.heap.size=e0 at*
 generalize W.alloc _=w1 at*
 refine Mix.wp_text2 (by kernel_rfl) (by kernel_rfl) ?_
 go_wp2_with fail
 with_reducible refine HBT.out.mono ?_
 rintro e w2 ⟨rfl,hu⟩
 have H2:=Lib.hid (H0.out.drew.upd0 hu)
 clear hu HBT H0 y0 y1 y2 y3 y4 y6 c1' c2' c16
 obtain ⟨bp,hbp⟩: ∃bp,bp=zbh l s.c.bt s.c.cl rs:=⟨_,rfl⟩
 rw [←hbp] at HFIN⊢
 cases bp with
 | false=>
  have e1:fin=(3,(s,l)):=HFIN.out
  subst e1
  have HF:=Lib.hid H2.out.drop
  clear HFIN H2 hbp
  go_wp2_with fail
  refine ⟨by rfl,?_⟩
  go_wp2_with fail
  go_ret
  exact ⟨rfl,HF.out⟩
 | true=>
  have hb4:rs.length≤4:=znd hbp.symm hbt4
  have e1:fin=if view≠s.view∨ !preB (insAt s k) seq then (1,(s,l)) else (0,zez k seq (zbp s k (preI (insAt s k) seq rs),l)):=HFIN.out
  have HF1:=Lib.hid e1
  clear e1 HFIN hbp
  go_wp2_with fail
  refine ⟨by rfl,?_⟩
  go_upto_region 3 with fail
  have hblk: ∃r:Res,Own B w0 w2.drew ((blk e0 (.cells (mmA ⟨kind,fm,view,k,seq,res,.slice a1 rs.length c1,rs,vv,vs,vc,cts,vp,pts⟩) 47 (0,0))::mmR mm ss)++[r]):=let ⟨r,hs,_⟩:=H2.out.drew.side;⟨r,hs⟩
  obtain ⟨r2,hs2⟩:=hblk
  have y0:=zaa (hs2.blkAt 0 rfl) 0 rfl
  have y1:=zaa (hs2.blkAt 0 rfl) 1 rfl
  have y2:=zaa (hs2.blkAt 0 rfl) 2 rfl
  have y3:=zaa (hs2.blkAt 0 rfl) 3 rfl
  have y4:=zaa (hs2.blkAt 0 rfl) 4 rfl
  have y6:=zaa (hs2.blkAt 0 rfl) 6 rfl
  have c18:=H2.out.drew.cell 18 rfl (by decide)
  have c29:=H2.out.drew.cell 29 rfl (by decide)
  have ci:=H2.out.drew.instAt k HI.out
  clear hs2
  by_cases hvw:view=s.view
  ·have hne:(view !=s.view)=false:=by simp [hvw]
   have HP:=Lib.hid (nd_pre (H2.out.drew.onSide (ss':=batR (.slice a1 rs.length c1) rs::blk e0 (.cells (mmA ⟨kind,fm,view,k,seq,res,.slice a1 rs.length c1,rs,vv,vs,vc,cts,vp,pts⟩) 47 (0,0))::mmR mm ss) (fun r hr=>hr.copy (by rw [HMM.out,zlx];simp) rfl)) hk HI.out hb4 seq)
   obtain ⟨ok,hok⟩: ∃ok,ok=preB (insAt s k) seq:=⟨_,rfl⟩
   rw [←hok] at HP
   have HOK:=Lib.hid hok
   have HVW:=Lib.hid hvw
   clear hok hvw H2
   refine Mix.wp_text2 (by kernel_rfl) (by kernel_rfl) ?_
   go_wp2_with fail
   with_reducible refine HP.out.mono ?_
   rintro e w3 ⟨rfl,h3⟩
   have H3:=Lib.hid h3.drop
   clear h3 HP y0 y1 y2 y3 y4 y6 c18 c29 ci
   cases ok with
   | false=>
    have e1:fin=(1,(s,l)):=by rw [HF1.out,←HOK.out];simp
    have HF:Hid (NdIs B w0 w3 x s l (mmR mm ss)):=Lib.hid (by
     have h4:=H3.out.drop
     rw [preI_no HOK.out.symm,zew hki] at h4
     exact h4)
    subst e1
    clear H3 HF1 HOK HVW
    go_wp2_with fail
    refine ⟨by rfl,?_⟩
    go_wp2_with fail
    go_ret
    exact ⟨rfl,HF.out⟩
   | true=>
    have e1:fin=(0,zez k seq (zbp s k (preI (insAt s k) seq rs),l)):=by rw [HF1.out,←HOK.out];simp [HVW.out]
    obtain ⟨p2,hp2⟩: ∃p2,p2=zez k seq (zbp s k (preI (insAt s k) seq rs),l):=⟨_,rfl⟩
    rw [←hp2] at e1
    have HA:=Lib.hid (zko (k:=k) (seq:=seq) H3.out hk (by omega) (by show s.out.length≤_;omega))
    rw [←hp2] at HA
    have hblk: ∃r:Res,Own B w0 w3 ((blk e0 (.cells (mmA ⟨kind,fm,view,k,seq,res,.slice a1 rs.length c1,rs,vv,vs,vc,cts,vp,pts⟩) 47 (0,0))::mmR mm ss)++[r]):=let ⟨r,hs,_⟩:=H3.out.side;⟨r,hs⟩
    obtain ⟨r3,hs3⟩:=hblk
    have z3:=zaa (hs3.blkAt 0 rfl) 3 rfl
    have z4:=zaa (hs3.blkAt 0 rfl) 4 rfl
    subst e1
    clear H3 HF1 HOK HVW hp2 hs3
    go_wp2_with fail
    refine ⟨by rfl,?_⟩
    go_wp2_with fail
    with_reducible refine HA.out.mono ?_
    rintro e w4 ⟨rfl,h4⟩
    have HF:=Lib.hid h4.drop
    clear h4 HA z3 z4
    go_wp2_with fail
    go_ret
    exact ⟨rfl,HF.out⟩
  ·have hne:(view !=s.view)=true:=by simp [hvw]
   have e1:fin=(1,(s,l)):=by rw [HF1.out,if_pos (.inl hvw)]
   subst e1
   have HF:=Lib.hid H2.out.drew.drop
   clear HF1 H2 hvw
   refine Mix.wp_text2 (by kernel_rfl) (by kernel_rfl) ?_
   go_wp2_with fail
   refine ⟨by rfl,?_⟩
   go_wp2_with fail
   go_ret
   exact ⟨rfl,HF.out⟩
theorem zvh {m:Mm} {sl:Int} (h:NdIs B w0 W x s l (mmR m ss)) (hm0:0≤m.inst) (hm1:m.inst≤s.c.f) (hmn:m.rs.length≤100000) (hn:l.length≤600000000) (ho:s.out.length≤600000000):
  Calls Tryz.prog 178 #[ptrV x.p,.agg (mmA m),.int .i64 sl] W fun e w'=>e= .returned (.int .i64 (zf5 m.ms sl (s,l)).1)∧NdIs B w0 w' x (zf5 m.ms sl (s,l)).2.1 (zf5 m.ms sl (s,l)).2.2 (mmR m ss):=by
 obtain ⟨r0,hs0,-⟩:=h.side
 have hbv:Reads W m.vb 6 m.rs.length (m.rs.flatMap za8):=zae (k:=5) hs0 rfl
 obtain ⟨a1,c1,e1⟩: ∃a c,m.vb= .slice a m.rs.length c:=let ⟨a,c,e,_⟩:=hbv;⟨a,c,e⟩
 obtain ⟨k,hinst⟩: ∃k:Nat,m.inst=k:=⟨m.inst.toNat,by omega⟩
 obtain ⟨kind,fm,view,inst,seq,res,vb,rs,vv,vs,vc,cts,vp,pts⟩:=m
 simp only at hbv e1 hinst hm0 hm1 hmn
 subst hinst e1
 have hk:k<s.c.f+1:=by omega
 have hki:k<s.ins.length:=by rw [h.ok.ins];exact hk
 have hcap:=h.caps.1
 have hok:=h.ok.c
 obtain ⟨i,hi,-⟩:=h.iAt hk
 obtain ⟨mm,hmm⟩: ∃mm:Mm,mm=⟨kind,fm,view,k,seq,res,.slice a1 rs.length c1,rs,vv,vs,vc,cts,vp,pts⟩:=⟨_,rfl⟩
 obtain ⟨fin,hfin⟩: ∃fin,fin=zf5 mm.ms sl (s,l):=⟨_,rfl⟩
 have HFIN:Hid (fin=if !zbh l s.c.bt s.c.cl rs then (3,(s,l)) else if view≠s.view∨ !voteB (insAt s k) kind seq fm then (1,(s,l)) else (0,lookS k seq (zbp s k (voteI (insAt s k) kind seq fm sl rs),l))):=Lib.hid (by rw [hfin,hmm];rfl)
 rw [←hmm] at h⊢
 rw [←hfin]
 have H0:=Lib.hid (h.box (mmO mm))
 have hb0:=heap_alloc_new W (mmO mm)
 have y0:(W.alloc (mmO mm)).cell? ⟨W.heap.size,0,none⟩=some (.int .i64 kind):=zaa hb0 0 (by rw [hmm];rfl)
 have y1:(W.alloc (mmO mm)).cell? ⟨W.heap.size,1,none⟩=some (.int .i64 fm):=zaa hb0 1 (by rw [hmm];rfl)
 have y2:(W.alloc (mmO mm)).cell? ⟨W.heap.size,2,none⟩=some (.int .i64 view):=zaa hb0 2 (by rw [hmm];rfl)
 have y3:(W.alloc (mmO mm)).cell? ⟨W.heap.size,3,none⟩=some (.int .i64 k):=zaa hb0 3 (by rw [hmm];rfl)
 have y4:(W.alloc (mmO mm)).cell? ⟨W.heap.size,4,none⟩=some (.int .i64 seq):=zaa hb0 4 (by rw [hmm];rfl)
 have y6:(W.alloc (mmO mm)).cell? ⟨W.heap.size,6,none⟩=some (.slice a1 rs.length c1):=zaa hb0 6 (by rw [hmm];rfl)
 have hua:Upd [] W (W.alloc (mmO mm)):=(Upd.refl [] W).alloc _
 have HBT:=Lib.hid (zia (most:=s.c.bt) (cl:=s.c.cl) H0.out.drew.ntAt h.nok hok.cl2 (hbv.upd hua.drew (by simp)) hmn)
 have c1':=H0.out.drew.cell 1 rfl (by decide)
 have c2':=H0.out.drew.cell 2 rfl (by decide)
 have c16:=H0.out.drew.cell 16 rfl (by decide)
 have HI:=Lib.hid hi
 have HMM:=Lib.hid hmm
 have hbt4:=hok.bt2
 have hk0:(0:Int)≤(k:Int):=by omega
 have hkI:(k:Int)<(s.c.f:Int)+1:=by omega
 have hcI:(s.c.f:Int)+1≤(x.ic:Int):=by omega
 clear hs0 h hfin hcap hok hua hbv hmn hi hb0
 rw [show Value.agg (mmA mm)= .agg (mmA ⟨kind,fm,view,k,seq,res,.slice a1 rs.length c1,rs,vv,vs,vc,cts,vp,pts⟩) from by rw [hmm]]
 rw [show mmO mm= .cells (mmA ⟨kind,fm,view,k,seq,res,.slice a1 rs.length c1,rs,vv,vs,vc,cts,vp,pts⟩) 47 (0,0) from by rw [hmm]] at y0 y1 y2 y3 y4 y6 H0 HBT c1' c2' c16
 clear hmm
 go_enter Tryz.func178,Tryz.ntmps178
 go_upto_region 1 with fail
 generalize W.heap.size=e0 at*
 generalize W.alloc _=w1 at*
 refine Mix.wp_text2 (by kernel_rfl) (by kernel_rfl) ?_
 go_wp2_with fail
 with_reducible refine HBT.out.mono ?_
 rintro e w2 ⟨rfl,hu⟩
 have H2:=Lib.hid (H0.out.drew.upd0 hu)
 clear hu HBT H0 y0 y1 y2 y3 y4 y6 c1' c2' c16
 obtain ⟨bp,hbp⟩: ∃bp,bp=zbh l s.c.bt s.c.cl rs:=⟨_,rfl⟩
 rw [←hbp] at HFIN⊢
 cases bp with
 | false=>
  have e1:fin=(3,(s,l)):=HFIN.out
  subst e1
  have HF:=Lib.hid H2.out.drop
  clear HFIN H2 hbp
  go_wp2_with fail
  refine ⟨by rfl,?_⟩
  go_wp2_with fail
  go_ret
  exact ⟨rfl,HF.out⟩
 | true=>
  have hb4:rs.length≤4:=znd hbp.symm hbt4
  have e1:fin=if view≠s.view∨ !voteB (insAt s k) kind seq fm then (1,(s,l)) else (0,lookS k seq (zbp s k (voteI (insAt s k) kind seq fm sl rs),l)):=HFIN.out
  have HF1:=Lib.hid e1
  clear e1 HFIN hbp
  go_wp2_with fail
  refine ⟨by rfl,?_⟩
  go_upto_region 3 with fail
  have hblk: ∃r:Res,Own B w0 w2.drew ((blk e0 (.cells (mmA ⟨kind,fm,view,k,seq,res,.slice a1 rs.length c1,rs,vv,vs,vc,cts,vp,pts⟩) 47 (0,0))::mmR mm ss)++[r]):=let ⟨r,hs,_⟩:=H2.out.drew.side;⟨r,hs⟩
  obtain ⟨r2,hs2⟩:=hblk
  have y0:=zaa (hs2.blkAt 0 rfl) 0 rfl
  have y1:=zaa (hs2.blkAt 0 rfl) 1 rfl
  have y2:=zaa (hs2.blkAt 0 rfl) 2 rfl
  have y3:=zaa (hs2.blkAt 0 rfl) 3 rfl
  have y4:=zaa (hs2.blkAt 0 rfl) 4 rfl
  have y6:=zaa (hs2.blkAt 0 rfl) 6 rfl
  have c18:=H2.out.drew.cell 18 rfl (by decide)
  have c29:=H2.out.drew.cell 29 rfl (by decide)
  have ci:=H2.out.drew.instAt k HI.out
  clear hs2
  by_cases hvw:view=s.view
  ·have hne:(view !=s.view)=false:=by simp [hvw]
   have HP:=Lib.hid (zxn (H2.out.drew.onSide (ss':=batR (.slice a1 rs.length c1) rs::blk e0 (.cells (mmA ⟨kind,fm,view,k,seq,res,.slice a1 rs.length c1,rs,vv,vs,vc,cts,vp,pts⟩) 47 (0,0))::mmR mm ss) (fun r hr=>hr.copy (by rw [HMM.out,zlx];simp) rfl)) hk HI.out hb4 kind seq fm sl)
   obtain ⟨ok,hok⟩: ∃ok,ok=voteB (insAt s k) kind seq fm:=⟨_,rfl⟩
   rw [←hok] at HP
   have HOK:=Lib.hid hok
   have HVW:=Lib.hid hvw
   clear hok hvw H2
   refine Mix.wp_text2 (by kernel_rfl) (by kernel_rfl) ?_
   go_wp2_with fail
   with_reducible refine HP.out.mono ?_
   rintro e w3 ⟨rfl,h3⟩
   have H3:=Lib.hid h3.drop
   clear h3 HP y0 y1 y2 y3 y4 y6 c18 c29 ci
   cases ok with
   | false=>
    have e1:fin=(1,(s,l)):=by rw [HF1.out,←HOK.out];simp
    have HF:Hid (NdIs B w0 w3 x s l (mmR mm ss)):=Lib.hid (by
     have h4:=H3.out.drop
     rw [voteI_no HOK.out.symm,zew hki] at h4
     exact h4)
    subst e1
    clear H3 HF1 HOK HVW
    go_wp2_with fail
    refine ⟨by rfl,?_⟩
    go_wp2_with fail
    go_ret
    exact ⟨rfl,HF.out⟩
   | true=>
    have e1:fin=(0,lookS k seq (zbp s k (voteI (insAt s k) kind seq fm sl rs),l)):=by rw [HF1.out,←HOK.out];simp [HVW.out]
    obtain ⟨p2,hp2⟩: ∃p2,p2=lookS k seq (zbp s k (voteI (insAt s k) kind seq fm sl rs),l):=⟨_,rfl⟩
    rw [←hp2] at e1
    have HA:=Lib.hid (zim (k:=k) (seq:=seq) H3.out hk (by omega) (by show s.out.length≤_;omega))
    rw [←hp2] at HA
    have hblk: ∃r:Res,Own B w0 w3 ((blk e0 (.cells (mmA ⟨kind,fm,view,k,seq,res,.slice a1 rs.length c1,rs,vv,vs,vc,cts,vp,pts⟩) 47 (0,0))::mmR mm ss)++[r]):=let ⟨r,hs,_⟩:=H3.out.side;⟨r,hs⟩
    obtain ⟨r3,hs3⟩:=hblk
    have z3:=zaa (hs3.blkAt 0 rfl) 3 rfl
    have z4:=zaa (hs3.blkAt 0 rfl) 4 rfl
    subst e1
    clear H3 HF1 HOK HVW hp2 hs3
    go_wp2_with fail
    refine ⟨by rfl,?_⟩
    go_wp2_with fail
    with_reducible refine HA.out.mono ?_
    rintro e w4 ⟨rfl,h4⟩
    have HF:=Lib.hid h4.drop
    clear h4 HA z3 z4
    go_wp2_with fail
    go_ret
    exact ⟨rfl,HF.out⟩
  ·have hne:(view !=s.view)=true:=by simp [hvw]
   have e1:fin=(1,(s,l)):=by rw [HF1.out,if_pos (.inl hvw)]
   subst e1
   have HF:=Lib.hid H2.out.drew.drop
   clear HF1 H2 hvw
   refine Mix.wp_text2 (by kernel_rfl) (by kernel_rfl) ?_
   go_wp2_with fail
   refine ⟨by rfl,?_⟩
   go_wp2_with fail
   go_ret
   exact ⟨rfl,HF.out⟩
end
section
variable {B:Nat} {w0 w W W':World} {ss rs:List Res} {x:Np} {s s':Ns} {l l':Nt}
def TakeM (B:Nat) (w0:World) (x:Np) (s:Ns) (l:Nt) (fn:FuncId) (m:Mm) (fin:Int×NSt):Prop:=
 ∀W ss,NdIs B w0 W x s l (mmR m ss)→Calls Tryz.prog fn #[ptrV x.p,.agg (mmA m)] W fun e w'=>e= .returned (.int .i64 fin.1)∧NdIs B w0 w' x fin.2.1 fin.2.2 (mmR m ss)
theorem zvg {m:Mm} {sl:Int} {fin:Int×NSt} (hk:m.kind=3) (HC:TakeM B w0 x s l 177 m fin):TakeC B w0 x s l 98 m sl fin:=by
 intro W ss h
 obtain ⟨kind,fm,view,inst,seq,res,a1,rs,c1,a2,vs,c2,a3,cts,c3,a4,pts,c4,rfl⟩:=zo9 h
 simp only at hk
 subst hk
 have H8:=Lib.hid (HC _ _ (h.alloc (mmO ⟨3,fm,view,inst,seq,res,.slice a1 rs.length c1,rs,.slice a2 vs.length c2,vs,.slice a3 cts.length c3,cts,.slice a4 pts.length c4,pts⟩)))
 clear h HC
 go_enter Tryz.func98,Tryz.ntmps98
 go_wp2_with fail
 with_reducible refine H8.out.mono ?_
 rintro e w2 ⟨rfl,h2⟩
 have HF:=Lib.hid h2
 clear h2 H8
 go_wp2_with fail
 go_ret
 exact ⟨rfl,HF.out⟩
theorem zrs {m:Mm} {sl:Int} {fin:Int×NSt} (hk:m.kind=4∨m.kind=5) (HC:TakeC B w0 x s l 178 m sl fin):TakeC B w0 x s l 98 m sl fin:=by
 intro W ss h
 obtain ⟨kind,fm,view,inst,seq,res,a1,rs,c1,a2,vs,c2,a3,cts,c3,a4,pts,c4,rfl⟩:=zo9 h
 simp only at hk
 rcases hk with rfl | rfl
 ·have H8:=Lib.hid (HC _ _ (h.alloc (mmO ⟨4,fm,view,inst,seq,res,.slice a1 rs.length c1,rs,.slice a2 vs.length c2,vs,.slice a3 cts.length c3,cts,.slice a4 pts.length c4,pts⟩)))
  clear h HC
  go_enter Tryz.func98,Tryz.ntmps98
  go_wp2_with fail
  with_reducible refine H8.out.mono ?_
  rintro e w2 ⟨rfl,h2⟩
  have HF:=Lib.hid h2
  clear h2 H8
  go_wp2_with fail
  go_ret
  exact ⟨rfl,HF.out⟩
 ·have H8:=Lib.hid (HC _ _ (h.alloc (mmO ⟨5,fm,view,inst,seq,res,.slice a1 rs.length c1,rs,.slice a2 vs.length c2,vs,.slice a3 cts.length c3,cts,.slice a4 pts.length c4,pts⟩)))
  clear h HC
  go_enter Tryz.func98,Tryz.ntmps98
  go_wp2_with fail
  with_reducible refine H8.out.mono ?_
  rintro e w2 ⟨rfl,h2⟩
  have HF:=Lib.hid h2
  clear h2 H8
  go_wp2_with fail
  go_ret
  exact ⟨rfl,HF.out⟩
end
section
variable {B:Nat} {w0 w W W':World} {ss rs:List Res} {x:Np} {s s':Ns} {l l':Nt} {rn:Nat} {vp:Value} {vt:Rn}
theorem zno {m:Mm} {b:Bys} {v:Int} {p:NSt} (h:NdIs B w0 W x s l (mmR m (rnR rn vp vt l ss))) (hm:MmOk m) (hn:l.length≤700000000) (h0:0≤m.fm) (h1:m.fm≤100) (hb:bodyP m.ms=some b) (hbl:b.length≤65530) (hfm:formP s.c.f s.c.cl m.ms=true) (hst:s.stop=false) (hgd:s.gd=[])
  (HT: ∀mm:Mm,mm.ms=m.ms→TakeC B w0 x s (sealL l m.fm b) 98 mm (sealN l m.fm b) (v,p)) (hv:v=0∨v=1∨v=2∨v=3) (hg2:p.1.gd.length≤1000)
  (hu:p.1.used≤1000000000000) (hbd:p.1.bad≤1000000000000) (hsl:p.1.stale≤1000000000000) (hfu:p.1.full≤1000000000000):
  Calls Tryz.prog 23 #[ptrV x.p,.agg (twA x.nt rn),.agg (mmA m)] W fun e w'=>e= .returned (.tuple #[])∧ ∃vp' vt',NdIs B w0 w' x (zqp m.fm (v,p)).1 (zqp m.fm (v,p)).2 (mmR m (rnR rn vp' vt' (sealL l m.fm b) ss)):=by
 have hgb:=zus (l:=l) hb hbl (by omega)
 have key:=give_nd (P:=zqp m.fm (v,p)) h hm (by omega) (by omega) (by omega) hb (fun w1 ev vp' vt' h2=>by
  have hop:openP (sealL l m.fm b) s.c.f s.c.cl (givE l m.fm b)=some (m.ms,sealN l m.fm b):=by
   have e:=zjf (l:=l) (f:=s.c.f) (cl:=s.c.cl) hb hbl (by omega)
   rw [hfm,if_pos rfl] at e
   exact e
  obtain ⟨q,hs,-⟩:=h2.side
  have hrd:RdOk w0 B ev (givE l m.fm b) _:=rd_bys hs (by simp) (fun q hq=>List.mem_append_left _ hq) hgb.1 hgb.2
  exact zrh (m:=m.ms) (sl:=sealN l m.fm b) (v:=v) (p:=p) h2 hrd hst (by rw [hgd];simp) (by rw [hgd];rfl) hop HT hv hg2 hu hbd hsl hfu)
 exact key.mono (fun e w' ⟨he,vp',vt',h6⟩=>⟨he,vp',vt',h6.perm ((List.perm_append_comm (l₁:=[_,_,_]) (l₂:=[_,_,_,_,_,_])).append_right ss)⟩)
end
structure VtL (f:Nat) (b:List Rq) (h:Nat→Bool) (n:Nat) (l:List Vt):Prop where
 len:l.length=3*f+1
 bt: ∀t∈l,t.has=true→t.batch=b
 hh: ∀(k:Nat) (hk:k<l.length),l[k].has=h k
 n:l.countP (fun t=>t.has)=n
def hAdd (h:Nat→Bool) (m:Nat):Nat→Bool:=fun j=>if j=m then true else h j
section
variable {f n m:Nat} {b:List Rq} {h:Nat→Bool} {l:List Vt} {sl:Int}
theorem VtL.none (f:Nat) (b:List Rq):VtL f b (fun _=>false) 0 (List.replicate (3*f+1) noVt) where
 len:=by simp
 bt:=fun t ht hh=>by rw [List.eq_of_mem_replicate ht] at hh;simp [noVt] at hh
 hh:=fun k hk=>by simp [noVt]
 n:=by
  rw [List.countP_eq_zero]
  intro t ht
  rw [List.eq_of_mem_replicate ht]
  simp [noVt]
theorem zkc {α:Type} (p:α→Bool): ∀(l:List α) (k:Nat) (hk:k<l.length) (a:α),p l[k]=false→p a=true→(l.set k a).countP p=l.countP p+1
 | x::l,0,_,a,h1,h2=>by
  have h1:p x=false:=h1
  simp [List.countP_cons,h1,h2]
 | x::l,k+1,hk,a,h1,h2=>by
  have ih:=zkc p l k (by simpa using hk) a h1 h2
  rw [List.set_cons_succ,List.countP_cons,List.countP_cons,ih]
  omega
theorem VtL.put (H:VtL f b h n l) (hm:m≤3*f) (h0:h m=false):VtL f b (hAdd h m) (n+1) (l.set m ⟨true,sl,b⟩):=by
 have hml:m<l.length:=by rw [H.len];omega
 refine ⟨by rw [List.length_set,H.len],fun t ht hh=> ?_,fun k hk=> ?_,?_⟩
 ·rcases List.mem_or_eq_of_mem_set ht with ht | rfl
  ·exact H.bt t ht hh
  ·rfl
 ·rw [List.getElem_set]
  unfold hAdd
  by_cases hkm:m=k
  ·subst hkm;simp
  ·rw [if_neg hkm,if_neg (fun e=>hkm e.symm)]
   exact H.hh k (by simpa using hk)
 ·rw [zkc _ l m hml _ (by rw [H.hh m hml];exact h0) rfl,H.n]
theorem VtL.can (H:VtL f b h n l) (hm:m≤3*f):openB l m= !h m:=by
 have hml:m<l.length:=by rw [H.len];omega
 unfold openB
 simp only [Int.toNat_natCast,List.getElem?_eq_getElem hml,H.hh m hml]
 cases h m<;>simp
theorem zhs (b:List Rq): ∀(l:List Vt) (k:Nat),(∀t∈l,t.has=true→t.batch=b)→(picks b l k).length=l.countP (fun t=>t.has)
 | [],_,_=>rfl
 | t::l,k,h=>by
  have ih:=zhs b l (k+1) (fun u hu=>h u (List.mem_cons_of_mem _ hu))
  unfold picks
  rw [List.countP_cons]
  cases ht:t.has with
  | false=>rw [if_neg (by simp [goodB,ht])];simpa using ih
  | true=>rw [if_pos (by simp [goodB,ht,h t (by simp) ht]),List.length_cons,ih];simp
theorem VtL.few (H:VtL f b h n l) (hn:n<2*f+1):zb1 l b (2*f+1)=Option.none:=by
 unfold zb1
 rw [zhs b l 0 H.bt,H.n,if_pos hn]
theorem VtL.enough (H:VtL f b h n l) (hn:2*f+1≤n): ∃vs,zb1 l b (2*f+1)=some vs:=by
 unfold zb1
 rw [zhs b l 0 H.bt,H.n,if_neg (by omega)]
 exact ⟨_,rfl⟩
theorem zed {all:List Vt} {q:Nat} {b:List Rq}: ∀l:List Vt,(∀t∈l,t.has=true→t.batch=b)→zaw all q l=if l.any (·.has) then (zb1 all b q).map (Prod.mk b) else Option.none
 | [],_=>rfl
 | t::r,hl=>by
  unfold zaw
  rw [zed r (fun t ht=>hl t (List.mem_cons_of_mem _ ht))]
  cases hh:t.has
  ·simp [hh]
  ·rw [hl t (by simp) hh]
   cases he:zb1 all b q<;>simp [hh]
theorem VtL.comm (H:VtL f b h n l) {ps:List Vt} {hs:Bool} {bt:List Rq}:zar f ⟨hs,bt,ps,l⟩=(zb1 l b (2*f+1)).map (Prod.mk b):=by
 unfold zar
 rw [zed _ H.bt]
 by_cases ha:l.any (·.has)=true
 ·rw [if_pos ha]
 ·rw [if_neg ha]
  have hz:l.countP (fun t=>t.has)=0:=by
   rw [List.countP_eq_zero]
   intro t ht e
   exact ha (List.any_eq_true.2 ⟨t,ht,e⟩)
  rw [H.few (by have:=H.n;omega)]
  rfl
end
def ordI (f:Nat) (ah:Int) (p:Pl):In:=⟨f,0,ah,0,true,p::List.replicate 15 (zbf f)⟩
section
variable {f:Nat} {ah:Int} {p:Pl}
theorem zra:idx 1=some 0:=rfl
theorem zin:plAt (ordI f ah p) 1=some p:=rfl
theorem znu:doneI (ordI f ah p)=if p.done then 1 else 0:=by
 unfold doneI ordI
 cases hd:p.done with
 | false=>simp [List.takeWhile_cons,hd]
 | true=>
  simp only [List.takeWhile_cons,hd,if_true,List.length_cons]
  rw [show List.takeWhile (fun q:Pl=>q.done) (List.replicate 15 (zbf f))=[] from rfl]
  rfl
theorem znv (h0:p.sl.has=false) (h1:1≤ah):preB (ordI f ah p) 1=true:=by
 unfold preB
 rw [zin]
 simp only [h0,Bool.not_false,Bool.and_true]
 show (true&&decide _)=true
 rw [Bool.true_and,decide_eq_true_eq]
 show (1:Int)≤(doneI (ordI f ah p):Int)+ah
 omega
theorem zz6 (rs:List Rq) (h0:p.sl.has=false) (h1:1≤ah):preI (ordI f ah p) 1 rs=ordI f ah {p with sl:= {p.sl with has:=true,batch:=rs}}:=by
 unfold preI
 rw [zra]
 simp only [znv h0 h1,if_true]
 show ordI f ah {p with sl:=slPre rs p.sl}=_
 unfold slPre
 rw [h0]
 rfl
theorem zr1 (kind node:Int):voteB (ordI f ah p) kind 1 node=zca p.sl kind node:=by
 unfold voteB
 rw [zin]
 show (true&&zca p.sl kind node)=_
 rw [Bool.true_and]
theorem znx (kind node sl:Int) (rs:List Rq):voteI (ordI f ah p) kind 1 node sl rs=ordI f ah {p with sl:=voteS p.sl kind node sl rs}:=rfl
theorem znw:prepI (ordI f ah p) 1=if !p.told then (zbe f p.sl).map fun vs=>⟨0,0,1,p.sl.batch,vs⟩ else none:=by
 unfold prepI
 rw [zin]
 show (if (true&& !p.told)=true then _ else _)=_
 rw [Bool.true_and]
 rfl
theorem zkr {c:Cp} (h:prepI (ordI f ah p) 1=some c):za6 (ordI f ah p) 1=ordI f ah {p with told:=true,has:=true,ct:=c}:=by
 unfold za6
 rw [zra,h]
 rfl
theorem znt:commI (ordI f ah p) 1=if p.done then none else (zar f p.sl).map fun r=>⟨0,0,1,r.1,r.2⟩:=by
 unfold commI
 rw [zin]
 rfl
theorem zmm {c:Cp} (h:commI (ordI f ah p) 1=some c):zbc (ordI f ah p) 1=ordI f ah {p with done:=true,dw:=c}:=by
 unfold zbc
 rw [zra,h]
 rfl
theorem zfi:zap (ordI f ah p) 1=if p.done then some p.dw else none:=by
 unfold zap
 rw [zin]
theorem zpe:zbq (ordI f ah p) 1=(zeb p.sl,p.sl.has):=by
 unfold zbq
 rw [zin]
end
theorem zp7 (kind view inst seq k:Int) (r:Rq):(msB (crtM kind view inst seq [r] k)).length≤65530:=by
 have n1:=zby kind
 have n2:=zby view
 have n3:=zby inst
 have n4:=zby seq
 have n5:=zby k
 have n6:=zla 0
 have n7:=zxs r
 have q1:(listB vtB ([]:Vs)).length=1:=by decide
 have q2:(listB certB ([]:List Cp)).length=1:=by decide
 have q3:(listB partB ([]:List Pa)).length=1:=by decide
 unfold msB crtM
 simp only [List.length_append]
 rw [q1,q2,q3]
 omega
theorem zlv {kind k:Int} {r:Rq} (hr:reqW r=true) (h1:0≤kind) (h2:kind≤100) (k0:0≤k) (k1:k≤100):bodyP (crtM kind 0 0 1 [r] k)=some (msB (crtM kind 0 0 1 [r] k)):=by
 have h:=zuc (view:=0) (inst:=0) (seq:=1) hr h1 h2 (by omega) (by omega) (by omega) (by omega) (by omega) (by omega) k0 k1
 unfold bodyP at h⊢
 split
 ·rfl
 ·rename_i hn;rw [if_neg hn] at h;cases h
theorem zlw {f:Nat} {cl kind k:Int} {r:Rq} (hq:okReq r cl=true) (hk:kind=3∨kind=4∨kind=5) (k0:0≤k) (k1:k≤3*f) (h3:kind=3→k=0):formP f cl (crtM kind 0 0 1 [r] k)=true:=by
 have hr:reqAt [r] 0=r:=rfl
 have hb:allR 1 (fun j=>okReq (reqAt [r] j) cl)=true:=zc8 (fun j hj=>by
  have:j=0:=by omega
  subst this;rw [hr];exact hq)
 rcases hk with rfl | rfl | rfl
 ·obtain rfl:=h3 rfl
  unfold formP crtM formK zbt inW bareP zcu zbg inW zas
  simp [hb]
  omega
 ·unfold formP crtM formK zbt inW bareP zcu zbg inW
  simp [hb,k0,k1]
 ·unfold formP crtM formK zbt inW bareP zcu zbg inW
  simp [hb,k0,k1]
theorem bal_go {s:Ns} {l:Nt} {kind:Int} {r:Rq} (hn:l.length≤1000000000) (hf:s.c.f≤4) (h0:0≤s.id) (h1:s.id≤3*s.c.f) (hq:RqGood s.c.cl r) (hk:kind=4∨kind=5):
  ∃(b:Bys) (l':Nt),sendS (s,l) (balM' kind 0 0 1 [r])=({s with out:=s.out++(za1 (3*s.c.f+1) s.id).map fun k=>(k,b)},l')∧Px l l'∧l'.length≤l.length+1∧openP l' s.c.f s.c.cl b=some (crtM kind 0 0 1 [r] s.id,sendN (s,l) (balM' kind 0 0 1 [r])):=by
 have hm:zm5 (balM' kind 0 0 1 [r]) s.id=crtM kind 0 0 1 [r] s.id:=rfl
 have hb:=zlv (kind:=kind) (k:=s.id) hq.w (by omega) (by omega) h0 (by omega)
 obtain ⟨B,hB⟩: ∃B,B=msB (crtM kind 0 0 1 [r] s.id):=⟨_,rfl⟩
 have hl:B.length≤65530:=by rw [hB];exact zp7 _ _ _ _ _ _
 rw [←hB] at hb
 have ho:=zjf (l:=l) (f:=s.c.f) (cl:=s.c.cl) (m:=crtM kind 0 0 1 [r] s.id) hb hl hn
 rw [zlw hq.ok (by omega) h0 h1 (by omega),if_pos rfl] at ho
 have hg:=znn hn s.id hl
 have hs:sealP l (crtM kind 0 0 1 [r] s.id)=(some (givE l s.id B),sealL l s.id B):=by
  unfold sealP
  rw [hb]
  simp only
  have e:envP (sealN l (crtM kind 0 0 1 [r] s.id).fm B) B=some (numB (sealN l s.id B)++B):=by
   unfold envP
   have h8:=zhz hn s.id B
   have h9:=zby (sealN l s.id B)
   rw [if_pos]
   ·rfl
   ·simp only [Bool.and_eq_true,decide_eq_true_eq]
    exact ⟨h8,by show (numB (sealN l s.id B)).length+_≤_;omega⟩
  rw [e,hg]
  rfl
 refine ⟨givE l s.id B,sealL l s.id B,?_,zk1 _ _ _,(zd4 _ _ _).2,?_⟩
 ·unfold sendS
  simp only
  rw [hm,hs]
 ·have e:sendN (s,l) (balM' kind 0 0 1 [r])=sealN l s.id B:=by
   unfold sendN sendB msS
   simp only
   rw [hm,hs,hb]
   rfl
  rw [e]
  exact ho
def orS (f:Nat) (id:Int) (p:Pl) (com:List (List Int)) (n:Int) (bk:Lp) (out:List (Int×Bys)) (u:Int):Ns:=
 {newS (stdC f) id with ins:=(newS (stdC f) id).ins.set 0 (ordI f 4 p),com:=com,run:=n,bk:=bk,out:=out,used:=u}
section
variable {f:Nat} {id n u:Int} {p p':Pl} {bk:Lp} {com:List (List Int)} {out:List (Int×Bys)} {l:Nt} {r:Rq}
theorem or_at:insAt (orS f id p com n bk out u) 0=ordI f 4 p:=by
 have h:((newS (stdC f) id).ins.set 0 (ordI f 4 p)).length=f+1:=by rw [List.length_set,ad_ins]
 unfold insAt orS
 simp only
 rw [List.getD_eq_getElem?_getD,List.getElem?_eq_getElem (by omega),List.getElem_set_self]
 rfl
theorem zrz:zbp (orS f id p com n bk out u) 0 (ordI f 4 p')=orS f id p' com n bk out u:=by
 unfold zbp orS
 simp only [List.set_set]
theorem or_new:newS (stdC f) id=orS f id (zbf f) (newS (stdC f) id).com 0 (newL 2) [] 0:=by
 have h:(newS (stdC f) id).ins.set 0 (ordI f 4 (zbf f))=(newS (stdC f) id).ins:=by
  have e:(newS (stdC f) id).ins=newI f 0 4::((List.range f).map fun (k:Nat)=>newI f ((k+1:Nat):Int) 4):=by
   show (List.range (f+1)).map _=_
   rw [List.range_succ_eq_map,List.map_cons,List.map_map]
   rfl
  rw [e]
  rfl
 unfold orS
 rw [h]
 rfl
theorem bal_or {kind:Int} (hn:l.length≤1000000000) (hf:f≤4) (h0:0≤id) (h1:id≤3*f) (hq:RqGood 2 r) (hk:kind=4∨kind=5):
  ∃(b:Bys) (l':Nt) (sl:Int),zdu kind 0 1 [r] (orS f id p com n bk out u,l)=(orS f id {p with sl:=voteS p.sl kind id sl [r]} com n bk (out++(za1 (3*f+1) id).map fun k=>(k,b)) u,l')∧Px l l'∧l'.length≤l.length+1∧ ∃m sl,openP l' f 2 b=some (m,sl)∧m.kind=kind:=by
 obtain ⟨b,l',e1,e2,e3,e4⟩:=bal_go (s:=orS f id p com n bk out u) (l:=l) (kind:=kind) (r:=r) hn hf h0 h1 hq hk
 refine ⟨b,l',sendN (orS f id p com n bk out u,l) (balM' kind 0 0 1 [r]),?_,e2,e3,_,_,e4,rfl⟩
 unfold zdu
 simp only
 have e5:sendS (orS f id p com n bk out u,l) (balM' kind (orS f id p com n bk out u).view ((0:Nat):Int) 1 [r])=(orS f id p com n bk (out++(za1 (3*f+1) id).map fun k=>(k,b)) u,l'):=e1
 rw [e5]
 simp only
 rw [or_at,znx,zrz]
 rfl
theorem zi9 {s:Ns} (h1:prepI (insAt s 0) 1=none) (h2:commI (insAt s 0) 1=none):lookS 0 1 (s,l)=(s,l):=by
 unfold lookS
 simp only [h1,h2]
theorem zu2 {s:Ns} {c:Cp} {q:NSt} (h1:prepI (insAt s 0) 1=some c) (h2:zdu 5 0 1 c.rs ({zbp s 0 (za6 (insAt s 0) 1) with com:=setRow s.com 0 (1:Int).toNat (s.view+1)},l)=q) (h3:commI (insAt q.1 0) 1=none):lookS 0 1 (s,l)=q:=by
 unfold lookS
 simp only [h1,h2,h3]
theorem zu1 {s:Ns} {c:Cp} (h1:prepI (insAt s 0) 1=none) (h2:commI (insAt s 0) 1=some c):lookS 0 1 (s,l)=doneS 0 c.rs (zbp s 0 (zbc (insAt s 0) 1),l):=by
 unfold lookS
 simp only [h1,h2]
theorem zyg:BkOk 2 (newL 2) where
 c:=rfl
 rp:=rfl
 st:=rfl
 vs:=vsok0
theorem run_or (hf:f≤4) (h0:0≤id) (h1:id≤3*f) (hd:p.done=true) (hr:p.dw.rs=[r]) (hc:r.client=1) (ht:0<r.time) (hq:okReq r 2=true) (hn:l.length≤1000000000):
  ∃(o:Int×Bys) (bk':Lp) (e:En) (l':Nt),doneS 0 [r] (orS f id p com 0 (newL 2) out u,l)=(orS f id p com 1 bk' (out++[o]) u,l')∧bk'.es=[e]∧e.rq=r∧Px l l'∧l'.length≤l.length+1∧ ∃m sl,openP l' f 2 o.2=some (m,sl)∧m.kind=10:=by
 have hq2:=hq
 unfold okReq inW at hq2
 simp only [Bool.and_eq_true,decide_eq_true_eq] at hq2
 have hy:=zjs zyg (r:=r) (c:=1) hc (by omega) (by show (0:Int)<r.time;exact ht)
 have hres:=res_in zyg.st zyg.vs r
 obtain ⟨bk',hbk⟩: ∃bk',bk'=(⟨(newL 2).clients,(newL 2).es++[⟨r,(za0 (newL 2).st r).1⟩],(za0 (newL 2).st r).2,(newL 2).rp.set 1 (r.time,(za0 (newL 2).st r).1)⟩:Lp):=⟨_,rfl⟩
 have hes:bk'.es=[⟨r,(za0 (newL 2).st r).1⟩]:=by rw [hbk];rfl
 rw [←hbk] at hy
 obtain ⟨b,l',m,sl,e1,e2,e3,e4,e5⟩:=reply_go (s:=orS f id p com 1 bk' out u) (l:=l) (c:=r.client) (t:=r.time) (r:=(za0 (newL 2).st r).1) hn hf h0 h1 (by omega) (by show r.client≤2-1;omega) (by show (2:Int)≤4;omega) (by omega) (by omega) (by omega) (by omega)
 have hC:runC (orS f id p com 0 (newL 2) out u)=p.dw:=by
  unfold runC
  rw [or_at]
  have e:(orS f id p com 0 (newL 2) out u).run+1=1:=rfl
  rw [e,zfi,hd]
  rfl
 have hrun:zf2 (orS f id p com 0 (newL 2) out u,l)=(orS f id p com 1 bk' (out++[(100+r.client,b)]) u,l'):=by
  rw [zgr,hC,hr]
  have e:(orS f id p com 0 (newL 2) out u).bk=newL 2:=rfl
  rw [e,hy]
  simp only [List.foldl_cons,List.foldl_nil]
  have hst:({orS f id p com 0 (newL 2) out u with run:=(orS f id p com 0 (newL 2) out u).run+1,bk:=bk'}:Ns)=orS f id p com 1 bk' out u:=rfl
  rw [hst,zo0 (p:=(orS f id p com 1 bk' out u,l)) rfl,e1]
  rfl
 refine ⟨(100+r.client,b),bk',_,l',?_,hes,rfl,e2,e3,m,sl,e4,e5⟩
 unfold doneS
 simp only
 rw [zur rfl,if_neg (by simp)]
 have hg:runGo 16 (orS f id p com 0 (newL 2) out u,l)=(orS f id p com 1 bk' (out++[(100+r.client,b)]) u,l'):=by
  show runGo (14+1+1) _=_
  unfold runGo
  rw [if_pos (by
   simp only [or_at,znu,hd,if_true]
   show (0:Int)<((1:Nat):Int)
   omega),hrun]
  unfold runGo
  rw [if_neg (by
   simp only [or_at,znu,hd,if_true]
   show¬(1:Int)<((1:Nat):Int)
   omega)]
 rw [hg,if_neg (by show¬(16:Int)≤1;omega)]
end
structure OutK (l:Nt) (f:Nat) (out:List (Int×Bys)) (ks:List Int):Prop where
 n:out.length=ks.length
 k: ∀(j:Nat) (o:Int×Bys) (k:Int),out[j]?=some o→ks[j]?=some k→ ∃m sl,openP l f 2 o.2=some (m,sl)∧m.kind=k
theorem OutK.nil (l:Nt) (f:Nat):OutK l f [] []:=⟨rfl,fun j o k h=>by simp at h⟩
theorem OutK.px {l l':Nt} {f:Nat} {out:List (Int×Bys)} {ks:List Int} (h:OutK l f out ks) (hp:Px l l'):OutK l' f out ks:=⟨h.n,fun j o k h1 h2=>by
 obtain ⟨m,sl,e1,e2⟩:=h.k j o k h1 h2
 exact ⟨m,sl,zxt e1 hp,e2⟩⟩
theorem OutK.app {l:Nt} {f:Nat} {out out2:List (Int×Bys)} {ks ks2:List Int} (h:OutK l f out ks) (h2:OutK l f out2 ks2):OutK l f (out++out2) (ks++ks2):=⟨by rw [List.length_append,List.length_append,h.n,h2.n],fun j o k e1 e2=>by
 rw [List.getElem?_append] at e1 e2
 by_cases hj:j<out.length
 ·rw [if_pos hj] at e1
  rw [if_pos (by rw [←h.n];exact hj)] at e2
  exact h.k j o k e1 e2
 ·rw [if_neg hj] at e1
  rw [if_neg (by rw [←h.n];exact hj),←h.n] at e2
  exact h2.k _ o k e1 e2⟩
theorem OutK.same {l:Nt} {f:Nat} {b:Bys} {k:Int} (h: ∃m sl,openP l f 2 b=some (m,sl)∧m.kind=k) (ps:List Int):OutK l f (ps.map fun p=>(p,b)) (List.replicate ps.length k):=⟨by simp,fun j o k' e1 e2=>by
 rw [List.getElem?_map] at e1
 rw [List.getElem?_replicate] at e2
 split at e2
 ·cases hp:ps[j]? with
  | none=>rw [hp] at e1;simp at e1
  | some p=>
   rw [hp] at e1
   simp only [Option.map_some,Option.some.injEq] at e1 e2
   subst e1 e2
   exact h
 ·cases e2⟩
abbrev zh6 (f id:Nat):Nat:=(za1 (3*f+1) (id:Int)).length
structure OrP (f:Nat) (r:Rq) (np:Nat) (hp:Nat→Bool) (nc:Nat) (hc:Nat→Bool) (p:Pl):Prop where
 has:p.sl.has=true
 bt:p.sl.batch=[r]
 ps:VtL f [r] hp np p.sl.ps
 cs:VtL f [r] hc nc p.sl.cs
 told:p.told=decide (2*f+1≤np)
 done:p.done=false
def OrN (f id:Nat) (r:Rq) (np:Nat) (hp:Nat→Bool) (nc:Nat) (hc:Nat→Bool) (ks:List Int) (u:Int) (s:Ns) (l:Nt):Prop:=
 ∃p com out,s=orS f id p com 0 (newL 2) out u∧OrP f r np hp nc hc p∧OutK l f out ks
def OrF (f id:Nat) (r:Rq) (ks:List Int) (u:Int) (s:Ns) (l:Nt):Prop:=
 ∃p com bk out e,s=orS f id p com 1 bk out u∧p.done=true∧bk.es=[e]∧e.rq=r∧OutK l f out ks
section
variable {f id i np nc:Nat} {hp hc:Nat→Bool} {r:Rq} {p:Pl} {s:Ns} {l:Nt} {u sl:Int} {ks:List Int}
theorem OrP.noPrep (h:OrP f r np hp nc hc p) (hn:np≠2*f+1∨p.told=true) (hle:np≤2*f+1):prepI (ordI f 4 p) 1=none:=by
 rw [znw]
 cases ht:p.told with
 | true=>rfl
 | false=>
  have hlt:np<2*f+1:=by
   rcases hn with hn | hn
   ·omega
   ·rw [ht] at hn;cases hn
  unfold zbe
  rw [h.has,if_pos rfl,h.bt,h.ps.few hlt]
  rfl
theorem OrP.noComm (h:OrP f r np hp nc hc p) (hn:nc<2*f+1):commI (ordI f 4 p) 1=none:=by
 rw [znt,h.done]
 obtain ⟨⟨hs,bt,ps,cs⟩,told,has,ct,done,dw⟩:=p
 have:=h.cs.comm (ps:=ps) (hs:=hs) (bt:=bt)
 simp only at this⊢
 rw [this,h.cs.few hn]
 rfl
theorem prep_of (hs:p.sl.has=true) (hb:p.sl.batch=[r]) (h:VtL f [r] hp (2*f+1) p.sl.ps) (ht:p.told=false): ∃c:Cp,c.rs=[r]∧prepI (ordI f 4 p) 1=some c:=by
 obtain ⟨vs,hv⟩:=h.enough (Nat.le_refl _)
 refine ⟨⟨0,0,1,p.sl.batch,vs⟩,hb,?_⟩
 rw [znw,ht]
 unfold zbe
 rw [hs,if_pos rfl,hb,hv]
 rfl
theorem OrP.comm (h:OrP f r np hp (2*f+1) hc p): ∃c:Cp,c.rs=[r]∧commI (ordI f 4 p) 1=some c:=by
 obtain ⟨vs,hv⟩:=h.cs.enough (Nat.le_refl _)
 refine ⟨⟨0,0,1,[r],vs⟩,rfl,?_⟩
 rw [znt,h.done]
 obtain ⟨⟨hs,bt,ps,cs⟩,told,has,ct,done,dw⟩:=p
 have:=h.cs.comm (ps:=ps) (hs:=hs) (bt:=bt)
 simp only at this hv⊢
 rw [this,hv]
 rfl
theorem OrP.can4 (h:OrP f r np hp nc hc p) (hi:i≤3*f):zca p.sl 4 (i:Int)= !hp i:=h.ps.can hi
theorem OrP.can5 (h:OrP f r np hp nc hc p) (hi:i≤3*f):zca p.sl 5 (i:Int)= !hc i:=h.cs.can hi
theorem OrP.vote4 (h:OrP f r np hp nc hc p) (hi:i≤3*f) (h0:hp i=false) (ht:(decide (2*f+1≤np):Bool)=decide (2*f+1≤np+1)):OrP f r (np+1) (hAdd hp i) nc hc {p with sl:=voteS p.sl 4 (i:Int) sl [r]}:=by
 have e:voteS p.sl 4 (i:Int) sl [r]= {p.sl with ps:=p.sl.ps.set i ⟨true,sl,[r]⟩}:=by
  unfold voteS
  rw [h.can4 hi,h0]
  rfl
 rw [e]
 exact ⟨h.has,h.bt,h.ps.put hi h0,h.cs,by rw [←ht];exact h.told,h.done⟩
theorem OrP.vote5 (h:OrP f r np hp nc hc p) (hi:i≤3*f) (h0:hc i=false):OrP f r np hp (nc+1) (hAdd hc i) {p with sl:=voteS p.sl 5 (i:Int) sl [r]}:=by
 have e:voteS p.sl 5 (i:Int) sl [r]= {p.sl with cs:=p.sl.cs.set i ⟨true,sl,[r]⟩}:=by
  unfold voteS
  rw [h.can5 hi,h0]
  rfl
 rw [e]
 exact ⟨h.has,h.bt,h.ps,h.cs.put hi h0,h.told,h.done⟩
theorem OrP.vote4s (h:OrP f r np hp nc hc p) (hi:i≤3*f) (h0:hp i=false):voteS p.sl 4 (i:Int) sl [r]= {p.sl with ps:=p.sl.ps.set i ⟨true,sl,[r]⟩}:=by
 unfold voteS
 rw [h.can4 hi,h0]
 rfl
theorem pre_or (hq:RqGood 2 r) (hf1:1≤f) (hf:f≤4) (hid:id≤3*f) (hb:zbh l 2 2 [r]=true) (hn:l.length≤900000000):
  ∃s' l',zcj (crtM 3 0 0 1 [r] 0) (newS (stdC f) (id:Int),l)=(0,(s',l'))∧OrN f id r 1 (hAdd (fun _=>false) id) 0 (fun _=>false) (List.replicate (zh6 f id) 4) 0 s' l'∧Px l l'∧l'.length≤l.length+1:=by
 rw [or_new]
 obtain ⟨com,hcom⟩: ∃com,com=(newS (stdC f) (id:Int)).com:=⟨_,rfl⟩
 rw [←hcom]
 obtain ⟨q,hqq⟩: ∃q:Pl,q= {zbf f with sl:= {(zbf f).sl with has:=true,batch:=[r]}}:=⟨_,rfl⟩
 obtain ⟨b,l',sl,e1,e2,e3,e4⟩:=bal_or (f:=f) (id:=(id:Int)) (p:=q) (com:=com) (n:=0) (bk:=newL 2) (out:=[]) (u:=0) (l:=l) (kind:=4) (r:=r) (by omega) hf (by omega) (by omega) hq (.inl rfl)
 have hP0:OrP f r 0 (fun _=>false) 0 (fun _=>false) q:=by
  rw [hqq]
  exact ⟨rfl,rfl,VtL.none f [r],VtL.none f [r],by simp [zbf],rfl⟩
 have hP:=hP0.vote4 (sl:=sl) hid rfl (by simp;omega)
 refine ⟨_,l',?_,⟨_,com,[]++(za1 (3*f+1) (id:Int)).map fun k=>(k,b),rfl,hP,?_⟩,e2,e3⟩
 ·unfold zcj
  have hb':zbh l (orS f id (zbf f) com 0 (newL 2) [] 0).c.bt (orS f id (zbf f) com 0 (newL 2) [] 0).c.cl (crtM 3 0 0 1 [r] 0).rs=true:=hb
  have hp:preB (insAt (orS f id (zbf f) com 0 (newL 2) [] 0) (crtM 3 0 0 1 [r] 0).inst.toNat) (crtM 3 0 0 1 [r] 0).seq=true:=by
   show preB (insAt (orS f id (zbf f) com 0 (newL 2) [] 0) 0) 1=true
   rw [or_at,znv rfl (by omega)]
  rw [hb',if_neg (by simp),hp,if_neg (by rintro (h | h);exact h rfl;cases h)]
  show (0,zez 0 1 (zbp (orS f id (zbf f) com 0 (newL 2) [] 0) 0 (preI (insAt (orS f id (zbf f) com 0 (newL 2) [] 0) 0) 1 [r]),l))=_
  rw [or_at,zz6 [r] rfl (by omega),zrz,←hqq]
  unfold zez
  simp only
  rw [or_at,zpe]
  have hch:zeb q.sl=[r]:=by rw [hqq];rfl
  rw [hch,e1,zi9]
  ·rw [or_at,hP.noPrep (.inl (by omega)) (by omega)]
  ·rw [or_at,hP.noComm (by omega)]
 ·have h1:=(OutK.nil l' f).app (OutK.same (k:=4) e4 (za1 (3*f+1) (id:Int)))
  simpa using h1
theorem voted_go {m:Ms} {s1:Ns} {q:NSt} (hb:zbh l s.c.bt s.c.cl m.rs=true) (hv:m.view=s.view) (hc:voteB (insAt s m.inst.toNat) m.kind m.seq m.fm=true) (h1:zbp s m.inst.toNat (voteI (insAt s m.inst.toNat) m.kind m.seq m.fm sl m.rs)=s1) (h2:lookS m.inst.toNat m.seq (s1,l)=q):zf5 m sl (s,l)=(0,q):=by
 unfold zf5
 rw [hb,if_neg (by simp),hc,if_neg (by rintro (h | h);exact h hv;cases h)]
 simp only
 rw [h1,h2]
theorem zom {kind:Int} {q:NSt} {com:List (List Int)} {out:List (Int×Bys)} (hb:zbh l 2 2 [r]=true) (hc:zca p.sl kind (i:Int)=true) (h2:lookS 0 1 (orS f id {p with sl:=voteS p.sl kind i sl [r]} com 0 (newL 2) out u,l)=q):zf5 (crtM kind 0 0 1 [r] i) sl (orS f id p com 0 (newL 2) out u,l)=(0,q):=by
 refine voted_go (s1:=orS f id {p with sl:=voteS p.sl kind i sl [r]} com 0 (newL 2) out u) hb rfl ?_ ?_ h2
 ·show voteB (insAt (orS f id p com 0 (newL 2) out u) 0) kind 1 i=true
  rw [or_at,zr1,hc]
 ·show zbp (orS f id p com 0 (newL 2) out u) 0 (voteI (insAt (orS f id p com 0 (newL 2) out u) 0) kind 1 i sl [r])=_
  rw [or_at,znx,zrz]
theorem prep_few (h:OrN f id r np hp nc hc ks u s l) (hi:i≤3*f) (h0:hp i=false) (hnp:np+1<2*f+1) (hnc:nc<2*f+1) (hb:zbh l 2 2 [r]=true):
  ∃s',zf5 (crtM 4 0 0 1 [r] i) sl (s,l)=(0,(s',l))∧OrN f id r (np+1) (hAdd hp i) nc hc ks u s' l:=by
 obtain ⟨p,com,out,rfl,hP,hO⟩:=h
 have hP2:=hP.vote4 (sl:=sl) hi h0 (by simp;omega)
 refine ⟨_,zom hb (by rw [hP.can4 hi,h0];rfl) (zi9 ?_ ?_),_,com,out,rfl,hP2,hO⟩
 ·rw [or_at,hP2.noPrep (.inl (by omega)) (by omega)]
 ·rw [or_at,hP2.noComm hnc]
theorem zv0 (h:OrN f id r (2*f) hp 0 (fun _=>false) ks u s l) (hq:RqGood 2 r) (hf1:1≤f) (hf:f≤4) (hid:id≤3*f) (hi:i≤3*f) (h0:hp i=false) (hb:zbh l 2 2 [r]=true) (hn:l.length≤900000000):
  ∃s' l',zf5 (crtM 4 0 0 1 [r] i) sl (s,l)=(0,(s',l'))∧OrN f id r (2*f+1) (hAdd hp i) 1 (hAdd (fun _=>false) id) (ks++List.replicate (zh6 f id) 5) u s' l'∧Px l l'∧l'.length≤l.length+1:=by
 obtain ⟨p,com,out,rfl,hP,hO⟩:=h
 have hs:=hP.vote4s (sl:=sl) hi h0
 have ht:p.told=false:=by rw [hP.told];simp
 obtain ⟨p1,hp1⟩: ∃p1:Pl,p1= {p with sl:=voteS p.sl 4 (i:Int) sl [r]}:=⟨_,rfl⟩
 have hV:VtL f [r] (hAdd hp i) (2*f+1) p1.sl.ps:=by rw [hp1,hs];exact hP.ps.put hi h0
 have hh1:p1.sl.has=true:=by rw [hp1,hs];exact hP.has
 have hb1:p1.sl.batch=[r]:=by rw [hp1,hs];exact hP.bt
 have ht1:p1.told=false:=by rw [hp1];exact ht
 obtain ⟨c,hcr,hc⟩:=prep_of hh1 hb1 hV ht1
 have hP1:OrP f r (2*f+1) (hAdd hp i) 0 (fun _=>false) {p1 with told:=true,has:=true,ct:=c}:=⟨hh1,hb1,hV,by rw [hp1,hs];exact hP.cs,by simp,by rw [hp1];exact hP.done⟩
 obtain ⟨b,l',sl2,e1,e2,e3,e4⟩:=bal_or (f:=f) (id:=(id:Int)) (p:= {p1 with told:=true,has:=true,ct:=c}) (com:=setRow com 0 (1:Int).toNat (0+1)) (n:=0) (bk:=newL 2) (out:=out) (u:=u) (l:=l) (kind:=5) (r:=r) (by omega) hf (by omega) (by omega) hq (.inr rfl)
 have hP2:=hP1.vote5 (sl:=sl2) hid rfl
 refine ⟨_,l',zom hb (by rw [hP.can4 hi,h0];rfl) ?_,⟨_,setRow com 0 (1:Int).toNat (0+1),out++(za1 (3*f+1) (id:Int)).map fun k=>(k,b),rfl,hP2,(hO.px e2).app (OutK.same e4 (za1 (3*f+1) (id:Int)))⟩,e2,e3⟩
 rw [←hp1]
 refine zu2 (by rw [or_at];exact hc) ?_ ?_
 ·rw [hcr,or_at,zkr hc,zrz]
  exact e1
 ·simp only
  rw [or_at,hP2.noComm (by omega)]
theorem zyk (h:OrN f id r (2*f+1) hp nc hc ks u s l) (hi:i≤3*f) (h0:hc i=false) (hnc:nc+1<2*f+1) (hb:zbh l 2 2 [r]=true):
  ∃s',zf5 (crtM 5 0 0 1 [r] i) sl (s,l)=(0,(s',l))∧OrN f id r (2*f+1) hp (nc+1) (hAdd hc i) ks u s' l:=by
 obtain ⟨p,com,out,rfl,hP,hO⟩:=h
 have hP2:=hP.vote5 (sl:=sl) hi h0
 refine ⟨_,zom hb (by rw [hP.can5 hi,h0];rfl) (zi9 ?_ ?_),_,com,out,rfl,hP2,hO⟩
 ·rw [or_at,hP2.noPrep (.inr (by show p.told=true;rw [hP.told];simp)) (by omega)]
 ·rw [or_at,hP2.noComm hnc]
theorem zua (h:OrN f id r (2*f+1) hp (2*f) hc ks u s l) (hq:RqGood 2 r) (hcl:r.client=1) (htm:0<r.time) (hf:f≤4) (hid:id≤3*f) (hi:i≤3*f) (h0:hc i=false) (hb:zbh l 2 2 [r]=true) (hn:l.length≤900000000):
  ∃s' l',zf5 (crtM 5 0 0 1 [r] i) sl (s,l)=(0,(s',l'))∧OrF f id r (ks++[10]) u s' l'∧Px l l'∧l'.length≤l.length+1:=by
 obtain ⟨p,com,out,rfl,hP,hO⟩:=h
 have hP2:=hP.vote5 (sl:=sl) hi h0
 obtain ⟨c,hcr,hc⟩:=hP2.comm
 obtain ⟨o,bk',e,l',e1,e2,e3,e4,e5,e6⟩:=run_or (f:=f) (id:=(id:Int)) (p:= {p with sl:=voteS p.sl 5 (i:Int) sl [r],done:=true,dw:=c}) (com:=com) (out:=out) (u:=u) (l:=l) (r:=r) hf (by omega) (by omega) rfl hcr hcl htm hq.ok (by omega)
 refine ⟨_,l',zom hb (by rw [hP.can5 hi,h0];rfl) (q:=(orS f id {p with sl:=voteS p.sl 5 (i:Int) sl [r],done:=true,dw:=c} com 1 bk' (out++[o]) u,l')) ?_,⟨_,com,bk',out++[o],e,rfl,rfl,e2,e3,?_⟩,e4,e5⟩
 ·rw [zu1 (c:=c) (by rw [or_at,hP2.noPrep (.inr (by show p.told=true;rw [hP.told];simp)) (by omega)]) (by rw [or_at];exact hc),hcr,or_at,zmm hc,zrz]
  exact e1
 ·refine (hO.px e4).app ⟨rfl,fun j o' k h1 h2=> ?_⟩
  cases j with
  | zero=>
   simp only [List.getElem?_cons_zero,Option.some.injEq] at h1 h2
   subst h1 h2
   exact e6
  | succ j=>simp at h1
end
section
variable {B:Nat} {w0 w W W':World} {ss rs:List Res} {x:Np} {s s':Ns} {l l':Nt} {rn:Nat} {vp vb:Value} {vt:Rn} {f i:Nat} {r:Rq} {kind:Int}
abbrev balB (kind:Int) (r:Rq) (i:Nat):Bys:=msB (crtM kind 0 0 1 [r] (i:Int))
theorem zi6 (h:NdIs B w0 W x s l (mmR (balW kind 0 0 1 vb [r] (i:Int)) (rnR rn vp vt l ss))) (hc:s.c=stdC f) (hf1:1≤f) (hf2:f≤4) (hst:s.stop=false) (hgd:s.gd=[]) (hq:RqGood 2 r) (hk:kind=4∨kind=5) (hi:i≤3*f) (hn:l.length≤500000000) (ho:s.out.length≤500000000)
  (hv:zf5 (crtM kind 0 0 1 [r] (i:Int)) (sealN l (i:Int) (balB kind r i)) (s,sealL l (i:Int) (balB kind r i))=(0,(s',l'))) (hp:Px (sealL l (i:Int) (balB kind r i)) l') (hg2:s'.gd.length≤1000)
  (hu:s'.used≤1000000000000) (hbd:s'.bad≤1000000000000) (hsl:s'.stale≤1000000000000) (hfu:s'.full≤1000000000000):
  Calls Tryz.prog 23 #[ptrV x.p,.agg (twA x.nt rn),.agg (mmA (balW kind 0 0 1 vb [r] (i:Int)))] W fun e w'=>e= .returned (.tuple #[])∧ ∃vp' vt',NdIs B w0 w' x {s' with used:=s'.used+1} l' (mmR (balW kind 0 0 1 vb [r] (i:Int)) (rnR rn vp' vt' l' ss)):=by
 have hb:=zlv (kind:=kind) (k:=(i:Int)) hq.w (by omega) (by omega) (by omega) (by omega)
 have hll:=(zd4 l (i:Int) (balB kind r i)).2
 have key:=zno (m:=balW kind 0 0 1 vb [r] (i:Int)) (b:=balB kind r i) (v:=0) (p:=(s',l')) h ⟨by simp,by simp,by simp,by simp⟩ (by omega) (by show (0:Int)≤(i:Int);omega) (by show (i:Int)≤100;omega) hb (zp7 _ _ _ _ _ _) (by rw [hc];show formP f 2 (crtM kind 0 0 1 [r] (i:Int))=true;exact zlw hq.ok (.inr hk) (by omega) (by omega) (by omega)) hst hgd (fun mm hmm=>by
  have e1:mm.kind=kind:=congrArg Ms.kind hmm
  have e2:mm.inst=0:=congrArg Ms.inst hmm
  have e3:mm.rs=[r]:=congrArg Ms.rs hmm
  refine zrs (by rw [e1];exact hk) (fun W2 ss2 h2=> ?_)
  have h3:=zvh (sl:=sealN l (i:Int) (balB kind r i)) h2 (by rw [e2];omega) (by rw [e2];omega) (by rw [e3];simp) (by show (sealL l (i:Int) (balB kind r i)).length≤_;omega) (by omega)
  rw [hmm] at h3
  have h4:zf5 (balW kind 0 0 1 vb [r] (i:Int)).ms (sealN l (i:Int) (balB kind r i)) (s,sealL l (i:Int) (balB kind r i))=(0,(s',l')):=hv
  rw [show (balW kind 0 0 1 vb [r] (i:Int)).fm=(i:Int) from rfl] at h3⊢
  rw [h4] at h3
  exact h3) (.inl rfl) hg2 hu hbd hsl hfu
 refine key.mono ?_
 rintro e w' ⟨he,vp',vt',h5⟩
 have h6:=(h5.perm (ss':=rnR rn vp' vt' (sealL l (i:Int) (balB kind r i)) (mmR (balW kind 0 0 1 vb [r] (i:Int)) ss)) ((List.perm_append_comm (l₁:=[_,_,_,_,_,_]) (l₂:=[_,_,_])).append_right ss)).more hp
 exact ⟨he,vp',vt',h6.perm ((List.perm_append_comm (l₁:=[_,_,_]) (l₂:=[_,_,_,_,_,_])).append_right ss)⟩
end
end Go.Proofs.YtannckelmojkoaaGreat
