/- Parts of the proof, one behind the other. -/
import Derived.Test.YtannckelmojkoaaGreatVwsB32
set_option maxHeartbeats 32000000
set_option maxRecDepth 100000
set_option linter.unusedVariables false
set_option linter.unusedSimpArgs false
namespace Go.Proofs.YtannckelmojkoaaGreat
open Go.RowKit Go.Heap
section
variable {f id n:Nat} {L:Nt} {view k:Int} {c:Cp} {r:Rq} {ps:List Pa}
theorem zry (h:PsOk f L view c (2*f+1) ps) (hi:c.inst=0) (hs:c.seq=(n:Int)) (hr:c.rs=[r]) (h1:1≤n) (h2:n≤16) (hq:RqGood 2 r) (hl:L.length≤10000000) (hf1:1≤f) (hf:f≤4) (hid:id≤3*f) (v0:1≤view) (v1:view≤12):
  ∃p1 q:NSt,moveS view (ps.headD noPa).vs (newS (stdC f) (id:Int),L)=p1∧(lowP (zff view (ps.headD noPa).vs (newS (stdC f) (id:Int),L)).1).length≠2*(zff view (ps.headD noPa).vs (newS (stdC f) (id:Int),L)).1.c.f+1∧(insAt p1.1 0).on=false∧p1.1.c=stdC f∧(∀j,j<(za8 0 ps).length→zmm 0 ((j:Int)+1) (zdk 0 (zbn p1.1 0 (zcc (insAt p1.1 0) (za8 0 ps)),p1.2) j))∧ze2 0 ps p1=q∧(q.1.c=stdC f∧q.1.view=view∧(insAt q.1 0).on=true∧OutV f id view n r q.2 (3*f*(n+1)) q.1.out∧Px L q.2∧q.2.length≤L.length+1+n∧Zero5 q.1)∧p1.2.length≤L.length+1∧p1.1.out.length=3*f:=by
 obtain ⟨pa,-,e1,e2⟩:=h.part 0 (by omega);have hh:ps.headD noPa=pa:=by
  have hl:=h.len;cases hps:ps with
  | nil=>rw [hps] at hl;simp at hl
  | cons a t=>rw [hps] at e1;exact e1
 rw [hh];obtain ⟨s,l,m1,m2,m3,m4,m5,m6,m7,m8,m9,m10⟩:=mv_go (n:=n) (r:=r) (id:=id) e2.hvs (by omega) hf1 hf hid v0 v1;have hmv:moveS view pa.vs (newS (stdC f) (id:Int),L)=(s,l):=by
  rw [zrl,m1];exact zp9 m2
 have hb:=h.batches hi hs hr h1 h2;have hlen:s.ins.length=f+1:=by rw [m6,zl2 hf v0 v1];simp
 have hin:insAt s 0=⟨f,0,4,view,false,List.replicate 16 (zbg f)⟩:=by
  unfold insAt;rw [m6,zl2 hf v0 v1,List.range_succ_eq_map];rfl
 have hbl:(nvB r n).length=n:=by unfold nvB;simp
 have hst:zcc (insAt s 0) (za8 0 ps)=⟨f,0,4,view,true,zb6 (nvB r n) (List.replicate 16 (zbg f))⟩:=by
  rw [hb,hin];unfold zcc instB;rw [hbl,if_pos (by simp;omega)]
 obtain ⟨st,hst2⟩: ∃st:In,st=⟨f,0,4,view,true,zb6 (nvB r n) (List.replicate 16 (zbg f))⟩:=⟨_,rfl⟩;rw [←hst2] at hst;have hat: ∀i,i<n→st.l[i]?=some (proP f (bAt r n i)):=fun i hi=>by
  rw [hst2];show (zb6 (nvB r n) (List.replicate 16 (zbg f)))[i]?=_;rw [zoa _ _ i (by rw [hbl];exact hi) (by simp;omega)];have g1:(List.replicate 16 (zbg f)).getD i (zbg 0)=zbg f:=by
   rw [List.getD_eq_getElem?_getD,List.getElem?_replicate,if_pos (by omega)];rfl
  have g2:(nvB r n).getD i []=bAt r n i:=by
   unfold nvB bAt;rw [List.getD_eq_getElem?_getD,List.getElem?_map,List.getElem?_range hi];rfl
  rw [g1,g2];rfl
 have hset: ∀st':In,insAt (zbn s 0 st') 0=st':=fun st'=>by
  show (s.ins.set 0 st').getD 0 noIn=st';rw [List.getD_eq_getElem?_getD,List.getElem?_set_self (by omega)];rfl
 have h0:IG f id view n r l 0 (zbn s 0 st,l):=by
  refine ⟨m3,m4,m5,by show 0<(s.ins.set 0 st).length;rw [List.length_set];omega,?_,?_,fun i _ hi=> ?_,?_,.refl _,m10,by simp⟩
  ·simp only
   rw [hset,hst2]
  ·simp only
   rw [hset,hst2]
  ·simp only
   rw [hset];exact hat i hi
  ·have e:3*f*(0+1)=3*f:=by omega
   rw [e];exact m7
 obtain ⟨g1,g2⟩:=IG.go h2 (by omega) hf1 hf hid (by omega) v1 hq h0 n (Nat.le_refl _);have g1n:=g1.n;refine ⟨(s,l),zki 0 (zdk 0 (zbn s 0 st,l) n),hmv,?_,?_,m3,fun j hj=> ?_,?_,⟨g1.c,g1.v,g1.on,g1.o,m8.trans g1.px,?_,g1.z⟩,m9,m7.len⟩
 ·rw [m1]
  exact m2
 ·simp only
  rw [hin]
 ·simp only
  rw [hst];rw [hb,hbl] at hj;exact g2 j hj
 ·rw [zic]
  show zki 0 (zdk 0 (zbn s 0 (zcc (insAt s 0) (za8 0 ps)),l) (za8 0 ps).length)=_;rw [hst,hb,hbl]
 ·show (zdk 0 (zbn s 0 st,l) n).2.length≤_
  omega
theorem nv_take (h:PsOk f L view c (2*f+1) ps) (hi:c.inst=0) (hs:c.seq=(n:Int)) (hr:c.rs=[r]) (h1:1≤n) (h2:n≤16) (hq:RqGood 2 r) (hl:L.length≤10000000) (hf1:1≤f) (hf:f≤4) (hid:id≤3*f) (v0:1≤view) (v1:view≤12):
  ∃q:NSt,zjc (nvw k view ps) (newS (stdC f) (id:Int),L)=(0,q)∧q.1.c=stdC f∧q.1.view=view∧(insAt q.1 0).on=true∧OutV f id view n r q.2 (3*f*(n+1)) q.1.out∧Px L q.2∧q.2.length≤L.length+1+n∧Zero5 q.1:=by
 obtain ⟨p1,q,e1,-,e3,e4,-,e6,⟨c1,c2,c3,c4,c5,c6,c7⟩,-⟩:=zry h hi hs hr h1 h2 hq hl hf1 hf hid v0 v1;refine ⟨q,?_,c1,c2,c3,c4,c5,c6,c7⟩;have hb:=zxk h v0 v1;unfold zjc;have n1:(nvw k view ps).ps=ps:=rfl;have n2:(nvw k view ps).view=view:=rfl;have n3:(nvw k view ps).inst.toNat=0:=rfl;have n4:(newS (stdC f) (id:Int)).view=0:=rfl;have n5:(newS (stdC f) (id:Int)).c.f=f:=rfl;have n6:(newS (stdC f) (id:Int)).c.cl=2:=rfl;simp only [n1,n2,n3,n4,n5,n6];rw [hb,if_neg (by simp),if_neg (by omega),if_pos (by omega:(0:Int)<view),e1,e3,if_neg (by simp),e6]
end
section
variable {B:Nat} {w0 w W W':World} {ss rs:List Res} {x:Np} {s s':Ns} {l l':Nt} {i:Nat}
theorem nnv_go {m:Mm} {p1 q:NSt} (hv1:s.view<m.view) (hv2:m.view≤12) (hinst:m.inst=0) (hpn:0<m.pts.length) (hpn2:m.pts.length≤100000) (hfm: ∀p∈m.pts,-9223372036854775000≤p.fm∧p.fm≤9223372036854775000) (hbad: ∀p∈m.pts,ze0 l m.view p.pa s.c.f s.c.cl=true)
  (HMV: ∀W' ss' (p:Pt),p∈m.pts→p.vs=((m.pts.map Pt.pa).headD noPa).vs→NdIs B w0 W' x s l (redR p.vv 2 p.vs.length (zaf p.vs)::ss')→p.vs.length≤100000→Calls Tryz.prog 169 #[ptrV x.p,.int .i64 m.view,p.vv] W' fun e w'=>e= .returned (.tuple #[])∧NdIs B w0 w' x p1.1 p1.2 ss')
  (hon:(insAt p1.1 0).on=false) (hc1:p1.1.c.f=s.c.f)
  (HIA: ∀W' ss' u,NdIs B w0 W' x p1.1 p1.2 (redR u 4 m.pts.length (m.pts.flatMap zaj)::ptsR m.pts::ss')→Calls Tryz.prog 238 #[ptrV x.p,.int .i64 0,u] W' fun e w'=>e= .returned (.tuple #[])∧NdIs B w0 w' x q.1 q.2 (redR u 4 m.pts.length (m.pts.flatMap zaj)::ptsR m.pts::ss')):
  TakeM B w0 x s l 181 m (0,q):=by
 intro W ss h;obtain ⟨kind,fm,view,inst,seq,res,a1,rs,c1,a2,vs,c2,a3,cts,c3,a4,pts,c4,rfl⟩:=zmb h;simp only at hv1 hv2 hinst hpn hpn2 hfm hbad HMV HIA;subst hinst;have hk:0<s.c.f+1:=by omega
 have hok:=h.ok.c;have hvw:=h.ok.view0;have hcap:=h.caps.1;obtain ⟨i,hi,-⟩:=h.iAt hk;obtain ⟨R,hR⟩: ∃R:List Res,R=blk W.heap.size (mmO ⟨kind,fm,view,0,seq,res,.slice a1 rs.length c1,rs,.slice a2 vs.length c2,vs,.slice a3 cts.length c3,cts,.slice a4 pts.length c4,pts⟩)::mmR ⟨kind,fm,view,0,seq,res,.slice a1 rs.length c1,rs,.slice a2 vs.length c2,vs,.slice a3 cts.length c3,cts,.slice a4 pts.length c4,pts⟩ ss:=⟨_,rfl⟩;have H0:Hid (NdIs B w0 (W.alloc (mmO ⟨kind,fm,view,0,seq,res,.slice a1 rs.length c1,rs,.slice a2 vs.length c2,vs,.slice a3 cts.length c3,cts,.slice a4 pts.length c4,pts⟩)) x s l R):=zq (by rw [hR];exact h.box _);have hb:=heap_alloc_new W (mmO ⟨kind,fm,view,0,seq,res,.slice a1 rs.length c1,rs,.slice a2 vs.length c2,vs,.slice a3 cts.length c3,cts,.slice a4 pts.length c4,pts⟩);have HR0:Hid (∀w' s' l',NdIs B w0 w' x s' l' R→w'.heap[W.heap.size]?=some (mmO ⟨kind,fm,view,0,seq,res,.slice a1 rs.length c1,rs,.slice a2 vs.length c2,vs,.slice a3 cts.length c3,cts,.slice a4 pts.length c4,pts⟩)):=zq (by
  intro w' s' l' h;rw [hR] at h;obtain ⟨r,hs,-⟩:=h.side;exact hs.blkAt 0 rfl)
 have HRP:Hid (∀w' s' l',NdIs B w0 w' x s' l' R→PtsAt w' (.slice a4 pts.length c4) pts):=zq (by
  intro w' s' l' h;rw [hR] at h;obtain ⟨r,hs,-⟩:=h.side;exact pts_at hs 1 2 rfl rfl)
 have HRI:Hid (∀w' s' l',NdIs B w0 w' x s' l' R→NdIs B w0 w' x s' l' (redR (.slice a4 pts.length c4) 4 pts.length (pts.flatMap zaj)::ptsR pts::R)):=zq (by
  intro w' s' l' h;rw [hR] at h⊢;exact zoh (zoh h 2 rfl rfl) 2 rfl rfl)
 have HRV:Hid (∀w' s' l' (p:Pt),p∈pts→NdIs B w0 w' x s' l' R→NdIs B w0 w' x s' l' (redR p.vv 2 p.vs.length (zaf p.vs)::R)):=zq (by
  intro w' s' l' p hp h;rw [hR] at h⊢;exact h.onSide (fun r hr=>hr.mkRed (zpp hr 2 rfl p hp).v))
 have HRD:Hid (∀w' s' l',NdIs B w0 w' x s' l' R→NdIs B w0 w' x s' l' (mmR ⟨kind,fm,view,0,seq,res,.slice a1 rs.length c1,rs,.slice a2 vs.length c2,vs,.slice a3 cts.length c3,cts,.slice a4 pts.length c4,pts⟩ ss)):=zq (by intro w' s' l' h;rw [hR] at h;exact h.drop);have y9:=zaa hb 9 rfl;have hkI:(0:Int)<(s.c.f:Int)+1:=by omega
 have hcI:(s.c.f:Int)+1≤(x.ic:Int):=by omega
 have hpI:(pts.length:Int)≤100000:=by omega
 have HI:=zq hi;have HFM:=zq hfm;have HBAD:=zq hbad;have HMV0:=zq HMV;have HIA0:=zq HIA;have HON:=zq hon;have HC9:=zq hc1;have HOK:=zq hok;clear h hb hR hi hfm hcap hbad HMV HIA hon hc1;go_enter Tryz.func181,Tryz.ntmps181
 go_upto_region 1 with fail
 generalize W.heap.size=e0 at*;generalize World.alloc W _=w1 at*
 go_wp2_with fail
 go_loopw [10] (fun n wr=> ∃j:Nat,j≤pts.length∧n= .int .i64 j∧Hid (NdIs B w0 wr x s l R)) (fun n _=>pts.length-(intOf n).toNat)
 case atStart=>exact ⟨0,by omega,rfl,H0⟩
 case round=>
  clear H0 y9;obtain ⟨j,hj,rfl,H1⟩:=hrel;by_cases hlt:j<pts.length
  ·have hjI:(j:Int)<(pts.length:Int):=by omega
   have hpw:=(HRP.out _ _ _ H1.out);obtain ⟨b,o,rfl,hbs,q0,q1,q2,q3⟩:=hpw.at j hlt;have hpj:=hpw.2 _ (List.getElem_mem hlt);have hfj:=HFM.out _ (List.getElem_mem hlt);obtain ⟨⟨av,kv,ev⟩,ac,kc,ec⟩:=hpj.slices;have H2:=zq (H1.out.box (.cells #[.int .i64 (pts[j]).fm,.slice av (pts[j]).vs.length kv,.slice ac (pts[j]).cts.length kc,.int .i64 (pts[j]).sl] 49 (0,0)));have HV:=zq (ztd view (p:=pts[j]) H2.out.drew.ntAt H2.out.nok hok.f1 hok.f2 hok.cl1 hok.cl2 (hpj.upd ((Upd.refl [] wr).alloc _).drew) hfj.1 hfj.2 (by omega) (by omega));rw [show ptAgg pts[j]= .agg #[.int .i64 (pts[j]).fm,.slice av (pts[j]).vs.length kv,.slice ac (pts[j]).cts.length kc,.int .i64 (pts[j]).sl] from by unfold ptAgg;rw [ev,ec]] at HV;rw [ev] at q1;rw [ec] at q2;rw [HBAD.out _ (List.getElem_mem hlt)] at HV;clear hpw hpj hfj ev ec H1;generalize pts[j]=pj at*
   go_upto_region 4 with fail
   generalize wr.heap.size=e1 at*;generalize wr.alloc _=w2 at*;obtain ⟨r2,hs2,-⟩:=H2.out.drew.side;have z0:=zaa (hs2.blkAt 0 rfl) 0 rfl;have z1:=zaa (hs2.blkAt 0 rfl) 1 rfl;have z2:=zaa (hs2.blkAt 0 rfl) 2 rfl;have z3:=zaa (hs2.blkAt 0 rfl) 3 rfl;have y2:=zaa (HR0.out _ _ _ H2.out.drew.drop) 2 rfl;have c0:=H2.out.drew.cell 0 rfl (by decide);have c1':=H2.out.drew.cell 1 rfl (by decide);have c16:=H2.out.drew.cell 16 rfl (by decide);clear hs2 q0 q1 q2 q3;refine Mix.wp_text2 (by kernel_rfl) (by kernel_rfl) ?_
   go_wp2_with fail
   with_reducible refine HV.out.mono ?_
   rintro e w3 ⟨rfl,hu⟩;have H3:=zq ((H2.out.drew.upd0 hu).drop);clear hu HV H2 z0 z1 z2 z3 y2 c0 c1' c16
   go_wp2_with fail
   refine ⟨by rfl,?_⟩
   go_wp2_with fail
   go_roundw
   case rel=>exact ⟨j+1,by omega,by go_num,H3⟩
   case measure=>simp [intOf];omega
  ·have hjI:decide ((j:Int)<(pts.length:Int))=false:=by simp;omega
   have hp0: ∃p0:Pt,∃h0:0<pts.length,p0=pts[0]:=⟨_,hpn,rfl⟩;obtain ⟨p0,h0,hp0⟩:=hp0;have HP0:Hid (p0∈pts∧p0.vs=((pts.map Pt.pa).headD noPa).vs):=zq ⟨by rw [hp0];exact List.getElem_mem _,by rw [hp0];cases pts with | nil=>simp at h0 | cons q l=>rfl⟩
   have b1:decide (view<s.view)=false:=by simp;omega
   have b2:(view==s.view)=false:=by rw [beq_eq_false_iff_ne];omega
   have b3:decide (s.view<view)=true:=by simp;omega
   clear HFM HBAD
   go_upto_region 7 with fail
   have H2:=zq H1.out.drew;have y2:=zaa (HR0.out _ _ _ H2.out) 2 rfl;have c29:=H2.out.cell 29 rfl (by decide);clear H1;refine Mix.wp_text2 (by kernel_rfl) (by kernel_rfl) ?_
   go_wp2_with fail
   refine ⟨by rfl,?_⟩;clear y2 c29
   go_upto_region 9 with fail
   have y2:=zaa (HR0.out _ _ _ H2.out.drew) 2 rfl;have c29:=H2.out.drew.cell 29 rfl (by decide);have H5:=zq H2.out.drew;clear H2;refine Mix.wp_text2 (by kernel_rfl) (by kernel_rfl) ?_
   go_wp2_with fail
   refine ⟨by rfl,?_⟩;clear y2 c29 b1 b2 b3
   go_upto_region 10 with fail
   have H6:=zq H5.out.drew;clear H5;have y2:=zaa (HR0.out _ _ _ H6.out) 2 rfl;have y9:=zaa (HR0.out _ _ _ H6.out) 9 rfl;have hpw:=(HRP.out _ _ _ H6.out);obtain ⟨b,o,rfl,hbs,q0,q1,q2,q3⟩:=hpw.at 0 h0;rw [←hp0] at q1;have hpj:=hpw.2 p0 HP0.out.1;obtain ⟨⟨av,kv,ev⟩,-⟩:=hpj.slices;have hpl:(pts.length:Int)≤(c4:Int):=by
    obtain ⟨ao',cap',e,hcp,-⟩:=hpw.1;cases e
    omega
   have HMV:=zq (HMV0.out _ _ p0 HP0.out.1 HP0.out.2 (HRV.out _ _ _ p0 HP0.out.1 H6.out) hpj.2.1);rw [ev] at HMV;rw [ev] at q1;simp only [Nat.zero_mul,Nat.add_zero] at q0 q1 q2 q3;have hpos:(0:Int)<(pts.length:Int):=by omega
   clear hpw hpj ev H6 hp0 HMV0;refine Mix.wp_text2 (by kernel_rfl) (by kernel_rfl) ?_
   go_wp2_with fail
   with_reducible refine HMV.out.mono ?_
   rintro e w8 ⟨rfl,h8⟩;have H9:=zq h8;clear h8 HMV y2 y9 q0 q1 q2 q3 hpos
   go_wp2_with fail
   refine ⟨by rfl,?_⟩
   go_upto_region 11 with fail
   have H10:=zq H9.out.drew;have y3:=zaa (HR0.out _ _ _ H10.out) 3 rfl;have c18:=H10.out.cell 18 rfl (by decide);rw [HC9.out] at c18;have ci:=H10.out.instAt 0 HI.out;have HIN:=zq (zco H10.out 0 (by rw [HC9.out];exact hk) HI.out);rw [HON.out] at HIN;clear H9;refine Mix.wp_text2 (by kernel_rfl) (by kernel_rfl) ?_
   go_wp2_with fail
   with_reducible refine HIN.out.mono ?_
   rintro e w' ⟨rfl,rfl⟩;clear HIN c18 ci y3;have HIA:=zq (HIA0.out _ _ _ (HRI.out _ _ _ H10.out));have y3:=zaa (HR0.out _ _ _ H10.out) 3 rfl;have y9:=zaa (HR0.out _ _ _ H10.out) 9 rfl;clear H10 HIA0
   go_wp2_with fail
   refine ⟨by rfl,?_⟩
   go_wp2_with fail
   with_reducible refine HIA.out.mono ?_
   rintro e w9 ⟨rfl,h9⟩;have HF:=zq (HRD.out _ _ _ h9.drop.drop);clear h9 HIA y3 y9
   go_wp2_with fail
   go_ret
   exact ⟨rfl,HF.out⟩
end
abbrev nvMm (k view:Int) (vp:Value) (pts:List Pt):Mm:=⟨8,k,view,0,0,0,.slice none 0 0,[],.slice none 0 0,[],.slice none 0 0,[],vp,pts⟩
section
variable {B:Nat} {w0 w W W':World} {ss:List Res} {x:Np} {l L:Nt} {rn:Nat} {vp vq:Value} {vt:Rn} {f id n:Nat} {view k:Int} {c:Cp} {r:Rq} {pts:List Pt}
theorem pts_good {ps:List Pa} (h:PsOk f L view c (2*f+1) ps) (hf:f≤4) (v0:1≤view) (v1:view≤12) (hr:c.rs.length≤4):(∀p∈ps,ze0 L view p f 2=true)∧(∀p∈ps,0≤p.fm∧p.fm≤100000)∧ ∀d∈za4 ps,d.rs.length≤4:=by
 have hl:=h.len;refine ⟨fun p hp=> ?_,fun p hp=> ?_,fun d hd=> ?_⟩
 ·obtain ⟨i,hi,rfl⟩:=List.getElem_of_mem hp
  exact (h.at_ i hi).viewed (by omega) (by omega) v0 v1
 ·obtain ⟨i,hi,rfl⟩:=List.getElem_of_mem hp
  rw [(h.at_ i hi).hfm];have hl:=h.len;omega
 ·rw [h.certs] at hd
  rw [List.mem_singleton.1 hd];exact hr
theorem nv_call (h:PsOk f L view c (2*f+1) (pts.map Pt.pa)) (hi:c.inst=0) (hs:c.seq=(n:Int)) (hr:c.rs=[r]) (h1:1≤n) (h2:n≤16) (hq:RqGood 2 r) (hl:L.length≤10000000) (hf1:1≤f) (hf:f≤4) (hid:id≤3*f) (v0:1≤view) (v1:view≤12):
  ∃q:NSt,zjc (nvw k view (pts.map Pt.pa)) (newS (stdC f) (id:Int),L)=(0,q)∧(∀mm:Mm,mm.ms=nvw k view (pts.map Pt.pa)→TakeM B w0 x (newS (stdC f) (id:Int)) L 181 mm (0,q))∧q.1.c=stdC f∧q.1.view=view∧(insAt q.1 0).on=true∧OutV f id view n r q.2 (3*f*(n+1)) q.1.out∧Px L q.2∧q.2.length≤L.length+1+n∧Zero5 q.1:=by
 obtain ⟨q',e1,e2,e3,e4,e5,e6,e7,e8⟩:=nv_take (k:=k) h hi hs hr h1 h2 hq hl hf1 hf hid v0 v1;obtain ⟨p1,q,s1,s2,s3,s4,s5,s6,s7,s8,s9⟩:=zry h hi hs hr h1 h2 hq hl hf1 hf hid v0 v1;obtain ⟨g1,g2,g3⟩:=pts_good h hf v0 v1 (by rw [hr];simp);have hqq:q'=q:=by
  have hb:=zxk h v0 v1;have e9:=e1;unfold zjc at e9;have n1:(nvw k view (pts.map Pt.pa)).ps=pts.map Pt.pa:=rfl;have n2:(nvw k view (pts.map Pt.pa)).view=view:=rfl;have n3:(nvw k view (pts.map Pt.pa)).inst.toNat=0:=rfl;have n4:(newS (stdC f) (id:Int)).view=0:=rfl;have n5:(newS (stdC f) (id:Int)).c.f=f:=rfl;have n6:(newS (stdC f) (id:Int)).c.cl=2:=rfl;simp only [n1,n2,n3,n4,n5,n6] at e9;rw [hb,if_neg (by simp),if_neg (by omega),if_pos (by omega:(0:Int)<view),s1,s3,if_neg (by simp),s6] at e9;exact (congrArg Prod.snd e9).symm
 subst hqq;refine ⟨q',e1,fun mm hmm=> ?_,e2,e3,e4,e5,e6,e7,e8⟩;have hps:mm.pts.map Pt.pa=pts.map Pt.pa:=congrArg Ms.ps hmm;have hvw:mm.view=view:=congrArg Ms.view hmm;have hin:mm.inst=0:=congrArg Ms.inst hmm;rw [←hps] at g1 g2 g3 s1 s2 s5 s6;have hlen:=h.len;rw [←hps,List.length_map] at hlen;rw [←hvw] at s1 s2 v0 v1 g1;refine nnv_go (p1:=p1) (q:=q') v0 v1 hin (by omega) (by omega) (fun p hp=> ?_) (fun p hp=>g1 _ (List.mem_map_of_mem hp)) (fun W' ss' p hp hpv h3 hvl=> ?_) s3 (by rw [s4];rfl) (fun W' ss' u h3=> ?_)
 ·have:=g2 _ (List.mem_map_of_mem hp)
  show-9223372036854775000≤p.pa.fm∧p.pa.fm≤_;omega
 ·rw [←hpv] at s1 s2
  have h4:=zvb h3 hvl (by omega) v1 (by omega) (by show ([]:List _).length≤_;simp) (fun W'' ss'' h5=>by
   rw [zp9 s2];exact zro h5 s2)
  rw [s1] at h4;exact h4
 ·have h4:=zpf (k:=0) (.inl s5) h3 (by rw [s4];show 0<f+1;omega) s3 (by omega) g3 (by omega) (by omega)
  rw [s6] at h4;exact h4
end
theorem zmn (f:Nat) (v:Int) (w:World) (h1:1≤f) (h2:f≤4) (v0:0≤v) (v1:v≤12):Calls Tryz.prog 18 #[.int .i64 f,.int .i64 v,.int .i64 0] w fun e w'=>e= .returned (.int .i64 (zan f v 0))∧w=w':=by
 have HN:=zq (zel (f:Int) w (by omega) (by omega));have hz:((3*(f:Int)+1)==0)=false:=by rw [beq_eq_false_iff_ne];omega
 have hz2: ¬(3*(f:Int)+1=0):=by omega
 have ha:decide (v<0)=false:=by simp;omega
 have hb:decide (12<v)=false:=by simp;omega
 have hc:decide ((f:Int)<0)=false:=by simp
 have ht:v%(3*(f:Int)+1)=zan f v 0:=by
  unfold zan;rw [if_pos ⟨v0,v1,by omega,by omega⟩,Int.add_zero]
 have HT:=zq ht;clear ht;go_enter Tryz.func18,Tryz.ntmps18
 go_wp2_with fail
 with_reducible refine HN.out.mono ?_
 rintro e w' ⟨rfl,rfl⟩
 go_wp2_with fail
 with_reducible refine HN.out.mono ?_
 rintro e w' ⟨rfl,rfl⟩
 go_wp2_with fail
 go_ret
 exact ⟨congrArg (fun z=>Ending.returned (.int .i64 z)) HT.out,rfl⟩
theorem zz7 {f:Nat} {skip view fm:Int} {l:Nt} {cps:List Cp} (h:NtOk l) (hf:f≤4) (h0:0≤fm) (h1:fm≤1000):NtOk (partP f skip l view fm cps).2:=by
 have h2:NtOk (vtsGo (fun k=>(nilMm 6 k (view-1) 0 0 0).ms) l (quoKs f (skip%(f+1)) (2*f+1))).2:=zh0 h (fun k hk=>by
  have h2:0≤k∧k≤1000:=by
   unfold quoKs at hk;simp only [List.mem_map,List.mem_range] at hk;obtain ⟨i,hi,rfl⟩:=hk;unfold quoK;split<;>omega
  show-9223372036854775808≤k∧k≤9223372036854775807;omega)
 unfold partP;exact zxe h2 (by show-9223372036854775808≤fm;omega) (by show fm≤9223372036854775807;omega)
section
variable {B:Nat} {w0 w W W':World} {ss rs:List Res} {x:Np} {s:Ns} {l L:Nt} {rn:Nat} {vp vq:Value} {vt:Rn} {f id n:Nat} {view seq k:Int} {c:Cp} {r:Rq} {pts:List Pt} {d:Ct}
theorem zvk (h:Own B w0 W rs) (k:Nat) (e:rs[k]?=some (ctsR [d])):Own B w0 (W.alloc (ctO d.view d.inst d.seq d.vb d.vv)) (redR (.slice (some ⟨W.heap.size,0,none⟩) 1 1) 5 1 ([d].flatMap zag)::ctsR [d]::rs):=by
 have h2:Own B w0 W (ctsR [d]::_):=h.mkCts (zkd h k e);have h3:=h2.alloc (ctO d.view d.inst d.seq d.vb d.vv);exact h3.red ⟨_,_,rfl,by omega,by unfold maxLen;omega,rfl,(fun e=>by cases e),fun _=>⟨W.heap.size,0,rfl,by simp,fun j hj=>by
  rw [Nat.zero_add,zac (heap_alloc_new W (ctO d.view d.inst d.seq d.vb d.vv))];simp [zag]⟩⟩ (fun k hk hm=>by
  simp [blkIf,blkOf] at hk;subst hk;exact h2.fresh (Nat.le_refl _) hm)
theorem zzx (h:NdIs B w0 W x s l (rnR rn vp vt l ss)) (hW:W'=W.alloc (rqO r)) (hp:n=W.heap.size) (hl:l.length≤100000) (hf1:1≤f) (hf2:f≤4):
  Calls Tryz.prog 20 #[.agg (twA x.nt rn),.int .i64 4,.int .i64 f,.int .i64 0,.agg #[.int .i64 view,.int .i64 0,.int .i64 seq,.slice (some ⟨n,0,none⟩) 1 1,.slice none 0 0]] W' fun e w'=> ∃(a1 a2:Option Addr) (c1 c2:Nat) (vp':Value) (vt':Rn),e= .returned (.agg #[.int .i64 view,.int .i64 0,.int .i64 seq,.slice a1 1 c1,.slice a2 (2*f+1) c2])∧
   NdIs B w0 w' x s (crtP 4 f 0 l view 0 seq r).2 (rnR rn vp' vt' (crtP 4 f 0 l view 0 seq r).2 (ctsR [(⟨view,0,seq,.slice a1 1 c1,.slice a2 (2*f+1) c2,[rqS l r],(crtP 4 f 0 l view 0 seq r).1.vs⟩:Ct)]::ss)):=by
 subst hW hp;obtain ⟨rr,hs,hback⟩:=h.sideN;have g1:Own B w0 _ (twR x.nt x.nm rn vp vt l (batR (.slice (some ⟨W.heap.size,0,none⟩) 1 1) [r]::(ss++[rr]))):=(zr6 hs r).perm ((List.perm_append_comm (l₁:=[_]) (l₂:=[_,_,_,_,_])).append_right _);have hnk:=crt_nok (kind:=4) (skip:=0) (view:=view) (inst:=0) (seq:=seq) (r:=r) h.nok hf2;have hvl:(crtP 4 f 0 l view 0 seq r).1.vs.length=2*f+1:=by unfold crtP;simp only;rw [zdp,zbb]
 refine (zs9 (kind:=4) (skip:=0) (view:=view) (inst:=0) (seq:=seq) g1 h.nok (by omega) hf1 hf2).mono ?_;rintro e w5 ⟨a1,c1,a2,c2,vp',vt',rfl,j1⟩;refine ⟨a1,a2,c1,c2,vp',vt',rfl,hback w5 _ (rnR rn vp' vt' _ (ctsR [_]::ss)) hnk ?_⟩;generalize crtP 4 f 0 l view 0 seq r=P at*;have j2:=j1.dropAt 7 (by simp)
 dsimp only [List.eraseIdx] at j2
 have k1:Own _ _ _ (ctsR []::_):=j2.mkCts (by simp);have k2:=k1.front 2 rfl rfl
 dsimp only [List.eraseIdx,List.cons_append] at k2
 have k3:=k2.front 2 rfl rfl
 dsimp only [List.eraseIdx,List.cons_append] at k3
 have k4:=zqp (cts:=[]) (c:=⟨view,0,seq,.slice a1 1 c1,.slice a2 (2*f+1) c2,[rqS l r],P.1.vs⟩) (by
  show Own _ _ _ (redR (.slice a2 (2*f+1) c2) 2 P.1.vs.length (zaf P.1.vs)::batR (.slice a1 1 c1) [rqS l r]::_);rw [hvl];exact k3) (by simp) (by show P.1.vs.length≤_;omega)
 exact k4.perm ((List.perm_append_comm (l₁:=[_]) (l₂:=[_,_,_,_,_])).append_right _)
theorem nd_part {fm:Int} {ac:Option Addr} {cc:Nat} {cts:List Ct} (h:NdIs B w0 W x s l (rnR rn vp vt l (redR (.slice ac cts.length cc) 5 cts.length (cts.flatMap zag)::ctsR cts::ss))) (hn:l.length≤100000) (hf1:1≤f) (hf2:f≤4) (hv0:0≤view) (hv1:view≤100) (hm0:0≤fm) (hm1:fm≤100) (hc:cts.length≤100000):
  Calls Tryz.prog 22 #[.agg (twA x.nt rn),.int .i64 f,.int .i64 view,.int .i64 fm,.int .i64 0,.slice ac cts.length cc] W fun e w'=> ∃(p:Pt) (a2:Option Addr) (c2:Nat) (vp':Value) (vt':Rn),e= .returned (.agg #[.int .i64 fm,.slice a2 (2*f+1) c2,.slice ac cts.length cc,.int .i64 (partP f 0 l view fm (cts.map Ct.cp)).1.sl])∧p=⟨fm,.slice a2 (2*f+1) c2,(partP f 0 l view fm (cts.map Ct.cp)).1.vs,.slice ac cts.length cc,cts,(partP f 0 l view fm (cts.map Ct.cp)).1.sl⟩∧p.pa=(partP f 0 l view fm (cts.map Ct.cp)).1∧
   NdIs B w0 w' x s (partP f 0 l view fm (cts.map Ct.cp)).2 (redR p.vv 2 p.vs.length (zaf p.vs)::redR p.cv 5 p.cts.length (p.cts.flatMap zag)::ctsR p.cts::rnR rn vp' vt' (partP f 0 l view fm (cts.map Ct.cp)).2 ss):=by
 obtain ⟨rr,hs,hback⟩:=h.sideN;have hnk:=zz7 (skip:=0) (view:=view) (cps:=cts.map Ct.cp) h.nok hf2 hm0 (by omega);refine (zta (skip:=0) hs h.nok (by omega) hf1 hf2 (by omega) (by omega) hm0 (by omega) hc).mono ?_;rintro e w5 ⟨a2,c2,vp',vt',rfl,j1⟩;have hvl:(partP f 0 l view fm (cts.map Ct.cp)).1.vs.length=2*f+1:=by unfold partP;simp only;rw [zdp,zbb]
 refine ⟨_,a2,c2,vp',vt',rfl,rfl,rfl,hback w5 _ (_::_::_::rnR rn vp' vt' _ ss) hnk ?_⟩;simp only;rw [hvl];have j2:=(j1.front 7 rfl rfl).front 7 rfl rfl
 dsimp only [List.eraseIdx] at j2
 exact (j2.front 2 rfl rfl).perm ((List.perm_append_comm (l₁:=[_,_,_]) (l₂:=[_,_])).append_right _)
theorem give_nv (h:NdIs B w0 W x (newS (stdC f) (id:Int)) l (mmR (nvMm k view vq pts) (rnR rn vp vt l ss))) (hps:PsOk f l view c (2*f+1) (pts.map Pt.pa)) (hi:c.inst=0) (hs:c.seq=(n:Int)) (hr:c.rs=[r]) (h1:1≤n) (h2:n≤16) (hq:RqGood 2 r) (hl:l.length≤100000) (hf1:1≤f) (hf:f≤4) (hid:id≤3*f) (v0:1≤view) (v1:view≤12) (hk:k=zan f view 0) (k0:0≤k) (k1:k≤3*f):
  Calls Tryz.prog 23 #[ptrV x.p,.agg (twA x.nt rn),.agg (mmA (nvMm k view vq pts))] W fun e w'=>e= .returned (.tuple #[])∧ ∃(s':Ns) (l':Nt),s'.c=stdC f∧s'.view=view∧(insAt s' 0).on=true∧OutV f id view n r l' (3*f*(n+1)) s'.out∧NdIs B w0 w' x s' l' ss:=by
 have hll:=(zet l k (msB (nvw k view (pts.map Pt.pa)))).2;have k9:k≤100:=by omega
 have hlen:=hps.len;rw [List.length_map] at hlen;obtain ⟨q,e1,e2,e3,e4,e5,e6,e7,e8,e9⟩:=nv_call (B:=B) (w0:=w0) (x:=x) (k:=k) (id:=id) (hps.px (zod l k (msB (nvw k view (pts.map Pt.pa))))) hi hs hr h1 h2 hq (by omega) hf1 hf hid v0 v1;obtain ⟨z1,z2,z3,z4,z5⟩:=e9;have key:=zup (m:=nvMm k view vq pts) (b:=msB (nvw k view (pts.map Pt.pa))) (v:=0) (p:=q) h ⟨by simp,by simp,by simp,by show pts.length≤_;omega⟩ (by omega) k0 k9 (nv_body hps hf v0 v1 k0 k9) (nv_le hps hf) (nv_form hps v0 v1 hk k0 k1) rfl rfl (fun mm hmm=>zzz (congrArg Ms.kind hmm) (e2 mm hmm)) (.inl rfl) (by rw [z1];simp) (by rw [z2];omega) (by rw [z3];omega) (by rw [z4];omega) (by rw [z5];omega);refine key.mono ?_;rintro e w' ⟨he,vp',vt',h5⟩;exact ⟨he,(zlu k (0,q)).1,(zlu k (0,q)).2,e3,e4,e5,e6,(zkk h5).drop.drop.drop⟩
end
def cvN (f j k:Nat):Nat:=if k=0 then 0 else min (3*f) (j-3*f*k)
def cntV (f j:Nat):List Int:=(List.range 17).map fun k=>((cvN f j k:Nat):Int)
abbrev cntO (l:List Int):Obj:= .cells (l.map (Value.int .i64)).toArray 56 (0,0)
theorem ziz (f j:Nat):(cntV f j).length=17:=by unfold cntV;simp
theorem zw5 (f j k:Nat) (hk:k<17):(cntV f j).getD k 0=((cvN f j k:Nat):Int):=by
 unfold cntV;rw [List.getD_eq_getElem?_getD,List.getElem?_map,List.getElem?_range hk];rfl
theorem zua (f:Nat):cntV f 0=List.replicate 17 0:=by
 unfold cntV;have: ∀k,cvN f 0 k=0:=fun k=>by unfold cvN;split<;>simp
 simp only [this];rfl
section
variable {f j k n:Nat}
theorem cv_same (hf1:1≤f) (hj:j<3*f):cvN f (j+1) k=cvN f j k:=by
 unfold cvN;by_cases h:k=0
 ·rw [if_pos h,if_pos h]
 ·rw [if_neg h,if_neg h]
  have:3*f≤3*f*k:=Nat.le_mul_of_pos_right _ (by omega);omega
theorem cv_step (hf1:1≤f) (hj:3*f≤j):cvN f (j+1) k=if k=j/(3*f) then cvN f j k+1 else cvN f j k:=by
 have hp:0<3*f:=by omega
 have h1:=Nat.div_add_mod j (3*f);have h2:=Nat.mod_lt j hp;have hq:1≤j/(3*f):=(Nat.one_le_div_iff hp).2 hj;generalize j/(3*f)=q at*;unfold cvN;by_cases h:k=0
 ·rw [if_pos h,if_neg (by omega),if_pos h]
 ·rw [if_neg h,if_neg h]
  by_cases hkq:k=q
  ·subst hkq
   rw [if_pos rfl];omega
  ·rw [if_neg hkq]
   rcases Nat.lt_or_gt_of_ne hkq with hlt | hgt
   ·have:3*f*(k+1)≤3*f*q:=Nat.mul_le_mul_left _ hlt
    rw [Nat.mul_succ] at this;omega
   ·have:3*f*(q+1)≤3*f*k:=Nat.mul_le_mul_left _ hgt
    rw [Nat.mul_succ] at this;omega
theorem cv_end (hf1:1≤f):cvN f (3*f*(n+1)) k=if 1≤k∧k≤n then 3*f else 0:=by
 unfold cvN;by_cases h:k=0
 ·rw [if_pos h,if_neg (by omega)]
 ·rw [if_neg h]
  by_cases hk:k≤n
  ·rw [if_pos ⟨by omega,hk⟩]
   have:3*f*(k+1)≤3*f*(n+1):=Nat.mul_le_mul_left _ (by omega);rw [Nat.mul_succ] at this;omega
  ·rw [if_neg (by omega)]
   have:3*f*(n+1)≤3*f*k:=Nat.mul_le_mul_left _ (by omega);omega
theorem zt8 (hf1:1≤f) (hj:j<3*f):cntV f (j+1)=cntV f j:=by
 unfold cntV;exact List.map_congr_left (fun k _=>by rw [cv_same hf1 hj])
theorem zt9 (hf1:1≤f) (hj:3*f≤j):cntV f (j+1)=(cntV f j).set (j/(3*f)) ((cvN f j (j/(3*f)):Int)+1):=by
 refine List.ext_getElem (by simp [ziz]) (fun k h1 h2=> ?_);have hk:k<17:=by rw [ziz] at h1;exact h1
 have e: ∀(j':Nat) (h:k<(cntV f j').length),(cntV f j')[k]=((cvN f j' k:Nat):Int):=fun j' h=>by simp only [cntV,List.getElem_map,List.getElem_range]
 rw [List.getElem_set,e,cv_step hf1 hj];by_cases hkq:j/(3*f)=k
 ·rw [if_pos hkq,if_pos hkq.symm,hkq]
  rfl
 ·rw [if_neg hkq,if_neg (fun e=>hkq e.symm),e]
end
theorem znf {W:World} {b k:Nat} {l:List Int} (h:W.heap[b]?=some (cntO l)) (hk:k<l.length):W.cell? ⟨b,k,none⟩=some (.int .i64 (l.getD k 0)):=by
 rw [zac h];show ((l.map (Value.int .i64)).toArray)[k]?=_;rw [List.getElem?_toArray,List.getElem?_map,List.getElem?_eq_getElem hk,List.getD_eq_getElem?_getD,List.getElem?_eq_getElem hk];rfl
theorem zyp (l:List Int) (k:Nat) (v:Int):setIn k (.int .i64 v) (cntO l)=cntO (l.set k v):=by
 unfold setIn;simp [List.map_set]
section
variable {B:Nat} {w0 w W W':World} {ss:List Res} {x:Np} {s:Ns} {l:Nt} {f:Nat}
end
abbrev nvwO (k view:Int) (pv:Value):Obj:= .cells #[.int .i64 8,.int .i64 k,.int .i64 view,.int .i64 0,.int .i64 0,.int .i64 0,.slice none 0 0,.slice none 0 0,.slice none 0 0,pv] 47 (0,0)
abbrev opO3 (a b c:Int):Obj:= .cells #[.int .i64 a,.int .i64 b,.int .i64 c] 23 (0,0)
theorem vw_upd {W w:World} {x:Np} {s:Ns} {l:Nt} {ss:List Res} {B:Nat} (hB:B=W.heap.size) (h:NdIs B W w x s l ss):Upd [] W w:=by subst hB;exact nd_upd h
theorem vw_ad2 {w:World} {ob:Obj} {a b i j:Nat} {u v:Value} (h:w.drew.cell? ⟨a,i,none⟩=some u∧w.drew.cell? ⟨b,j,none⟩=some v):(w.alloc ob).drew.cell? ⟨a,i,none⟩=some u∧(w.alloc ob).drew.cell? ⟨b,j,none⟩=some v:=⟨zay (w:=w) h.1,zay (w:=w) h.2⟩
theorem OutV.at {f id n m:Nat} {view:Int} {r:Rq} {l:Nt} {out:List (Int×Bys)} {os:List Sd} (h:OutV f id view n r l m out) (hos:os.map Sd.p=out) (j:Nat) (hj:j<os.length): ∃M sl,openP l f 2 os[j].b=some (M,sl)∧((j<3*f∧M.kind=7)∨(3*f≤j∧M=crtM 4 view 0 ((j/(3*f):Nat):Int) (if j/(3*f)=n then [r] else []) id)):=by
 have e:out[j]?=some (os[j].p):=by rw [←hos,List.getElem?_map,List.getElem?_eq_getElem hj];rfl
 by_cases h3:j<3*f
 ·obtain ⟨M,sl,e1,e2⟩:=h.vc j _ h3 e
  exact ⟨M,sl,e1,.inl ⟨h3,e2⟩⟩
 ·obtain ⟨sl,e1⟩:=h.vt j _ (by omega) e
  exact ⟨_,sl,e1,.inr ⟨by omega,rfl⟩⟩
abbrev vwRq (k v:Int):Rq:=⟨1,1,1,k,v,0⟩
end Go.Proofs.YtannckelmojkoaaGreat
