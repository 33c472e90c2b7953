/- Parts of the proof, one behind the other. -/
import Derived.Test.YtannckelmojkoaaGreatOrdB28
import Derived.Deep.LoopGhost
set_option maxHeartbeats 32000000
set_option maxRecDepth 100000
set_option linter.unusedVariables false
set_option linter.unusedSimpArgs false
namespace Go.Proofs.YtannckelmojkoaaGreat
open Go.RowKit Go.Heap
abbrev nilMm (kind fm view inst seq res:Int):Mm:=⟨kind,fm,view,inst,seq,res,.slice none 0 0,[],.slice none 0 0,[],.slice none 0 0,[],.slice none 0 0,[]⟩
theorem zfm (s:Ns) (l:Nt) (c t r:Int):ze6 (s,l) c t r=match sealP l (repM s.id c t r) with
 | (none,l')=>(s,l')
 | (some b,l')=>({s with out:=s.out++[(100+c,b)]},l'):=by unfold ze6;simp only;rfl
section
variable {B:Nat} {w0 w W W':World} {ss rs:List Res} {x:Np} {s s':Ns} {l l':Nt}
theorem zvp (kind fm view inst seq res:Int) (h:Own B w0 W rs):Own B w0 W (mmR (nilMm kind fm view inst seq res) rs):=by
 have h1:=zdn 2 (zdn 6 h)
 have h2:Own B w0 W (ctsR []::_):=h1.mkCts (by simp)
 have h3:=zdn 5 h2
 have h4:Own B w0 W (ptsR []::_):=h3.mkPts (by simp)
 exact zdn 4 h4
theorem zzx (kind fm view inst seq res:Int):MmOk (nilMm kind fm view inst seq res):=⟨by simp,by simp,by simp,by simp⟩
theorem zrp {c t r:Int} (h:NdIs B w0 W x s l ss) (hc0:0≤c) (hc1:c≤1000) (hn:l.length≤900000000) (ho:s.out.length≤900000000):
  Calls Tryz.prog 233 #[ptrV x.p,.int .i64 c,.int .i64 t,.int .i64 r] W fun e w'=>e= .returned (.tuple #[])∧NdIs B w0 w' x (ze6 (s,l) c t r).1 (ze6 (s,l) c t r).2 ss:=by
 obtain ⟨j0,hj,hy0,hy1,hy2⟩:=info_parts Tryz.infoSd2
 have hok:=h.ok
 have hid0:=hok.id0
 have hid1:=hok.id1
 have hf2:=hok.c.f2
 have hcI:IntKind.i64.wrap (100+c)=100+c:=IntWalk.i64_in _ (by omega)
 obtain ⟨rr,hs,hback⟩:=h.drew.sideN
 have hs':=zvp 10 s.id 0 c t r hs
 have HSE:=Lib.hid (znq hs' (zzx 10 s.id 0 c t r) h.nok (by omega) (by show _≤s.id;omega) (by show s.id≤_;omega))
 have HBK:=Lib.hid hback
 have c1:=h.drew.cell 15 rfl (by decide)
 have c2:=h.drew.cell 16 rfl (by decide)
 have HS:Hid (ze6 (s,l) c t r=match sealP l (repM s.id c t r) with
  | (none,l')=>(s,l')
  | (some b,l')=>({s with out:=s.out++[(100+c,b)]},l')):=Lib.hid (zfm s l c t r)
 have hms:(nilMm 10 s.id 0 c t r).ms=repM s.id c t r:=rfl
 rw [hms] at HSE
 have HNK:Hid (NtOk (sealP l (repM s.id c t r)).2):=Lib.hid (zsz h.nok (by show _≤s.id;omega) (by show s.id≤_;omega))
 have HSO:Hid (∀e,(sealP l (repM s.id c t r)).1=some e→(∀c∈e,c<256)∧e.length≤65536):=Lib.hid (fun e he=>⟨zk8 he,(zh0 he).choose_spec.2.2.1⟩)
 generalize ze6 (s,l) c t r=fin at*
 generalize sealP l (repM s.id c t r)=sp at*
 obtain ⟨o,l2⟩:=sp
 simp only at HNK HSO HSE HS
 clear h hs hs' hback hms hok
 go_enter Tryz.func233,Tryz.ntmps233
 go_upto_region 0 with fail
 refine Mix.wp_text2 (by kernel_rfl) (by kernel_rfl) ?_
 go_wp2_with fail
 refine HSE.out.mono ?_
 rintro e w2 ⟨v2,rfl,h3⟩
 have H4:=Lib.hid (HBK.out w2 l2 (bysR v2 (bysO o)::ss) HNK.out (
  mm_sub (m:=nilMm 10 s.id 0 c t r) (h3.rot'.perm ((List.perm_append_comm (l₁:=[_,_,_]) (l₂:=[_,_,_,_,_,_])).append_right _))))
 clear h3 HSE HBK c1 c2
 cases o with
 | none=>
  have e1:=HS.out
  simp only at e1
  subst e1
  have HF:=Lib.hid H4.out.drop
  clear H4
  simp only [Option.isSome_none]
  go_wp2_with fail
  refine ⟨by rfl,?_⟩
  go_wp2_with fail
  refine bodyPost_end (results_none rfl _ _ _) rfl ?_
  exact ⟨rfl,HF.out⟩
 | some eb=>
  obtain ⟨q2,q3⟩:=HSO.out eb rfl
  have HQ2:=Lib.hid q2
  have HQ3:=Lib.hid q3
  have e1:=HS.out
  simp only at e1
  subst e1
  clear HSO q2 q3 HS
  simp only [bysO,Option.getD_some] at H4
  obtain ⟨r4,hs4,-⟩:=H4.out.side
  obtain ⟨eo,ek,rfl,-,-⟩:=zao (k:=0) hs4 rfl
  clear hs4
  simp only [Option.isSome_some]
  go_wp2_with fail
  refine ⟨by rfl,?_⟩
  obtain ⟨v,rr2,hvo,hO,hB⟩:=H4.out.outs
  obtain ⟨av,kv,hav⟩:=hvo.ov
  have HLO:Hid (v.os.length≤900000100):=Lib.hid (by
   have h1:=congrArg List.length hvo.os
   rw [List.length_map] at h1
   omega)
  have HVS:Hid (v.os.map Sd.p=s.out):=Lib.hid hvo.os
  have HW:=Lib.hid hB
  rw [hav] at hO
  obtain ⟨c34,z34⟩:=zag hO 0 rfl 34 rfl
  have HX:=Lib.hid (hO.box (.cells #[.int .i64 (100+c),.slice eo eb.length ek] 62 (0,0)))
  have HN5:=Lib.hid (heap_alloc_new w2 (.cells #[.int .i64 (100+c),.slice eo eb.length ek] 62 (0,0)))
  clear hO hB hvo H4
  go_wp2_with (at_builtin;refine zbl rfl (.tmp 31) (.tmp 36) 54 rfl 62 j0 (.agg #[.int .i64 0,.slice none 0 0]) 2 32 Tryz.underlying54 hj hy0 hy1 hy2 rfl (by decide) HX.out 2 (.slice av v.os.length kv) v.os.length (v.os.flatMap sdC) rfl rfl w2.heap.size #[.int .i64 (100+c),.slice eo eb.length ek] 62 (0,0) rfl HN5.out rfl (by simp [Value.oneCell']) (by have:=HLO.out;unfold maxLen;omega) (by have:=HLO.out;omega) ?_)
  intro g6 cap6 w6 h6
  have h7:Own B w0 w6 (segR x.p 141 (nsC x s (.slice av v.os.length kv))::ownR 62 2 (.slice (some ⟨g6,0,none⟩) (v.os.length+1) cap6) (v.os.length+1) (v.os.flatMap sdC++[.int .i64 (100+c),.slice eo eb.length ek])::sdsR v.os::((bysR (.slice eo eb.length ek) eb::ss)++rr2)):=h6.drop
  obtain ⟨f34,y34⟩:=zag h7 0 rfl 34 rfl
  have h8:Own B w0 w6 (bysR (.slice eo eb.length ek) eb::segR x.p 141 (nsC x s (.slice av v.os.length kv))::ownR 62 2 (.slice (some ⟨g6,0,none⟩) (v.os.length+1) cap6) (v.os.length+1) (v.os.flatMap sdC++[.int .i64 (100+c),.slice eo eb.length ek])::sdsR v.os::(ss++rr2)):=h7.perm ((List.perm_append_comm (l₁:=[_,_,_]) (l₂:=[_])).append_right _)
  have h9:=h8.toRed.putAt 1 rfl 34 (.slice (some ⟨g6,0,none⟩) (v.os.length+1) cap6)
  have h10:Own B w0 (w6.setCell ⟨x.p,34,none⟩ (.slice (some ⟨g6,0,none⟩) (v.os.length+1) cap6)) (segR x.p 141 (nsC x s (.slice (some ⟨g6,0,none⟩) (v.os++[(⟨100+c,.slice eo eb.length ek,eb⟩:Sd)]).length cap6))::ownR 62 2 (.slice (some ⟨g6,0,none⟩) (v.os++[(⟨100+c,.slice eo eb.length ek,eb⟩:Sd)]).length cap6) (v.os++[(⟨100+c,.slice eo eb.length ek,eb⟩:Sd)]).length ((v.os++[(⟨100+c,.slice eo eb.length ek,eb⟩:Sd)]).flatMap sdC)::sdsR (v.os++[(⟨100+c,.slice eo eb.length ek,eb⟩:Sd)])::(ss++rr2)):=by
   have g1:Own B w0 _ (sdsR (v.os++[(⟨100+c,.slice eo eb.length ek,eb⟩:Sd)])::_):=h9.mkSds (fun d hd=>by
    rcases List.mem_append.1 hd with hd | hd
    ·exact sds_fr h9 3 rfl d hd
    ·simp only [List.mem_singleton] at hd
     subst hd
     exact ⟨h9.redFr 0 rfl,HQ2.out,HQ3.out⟩)
   have g2:=((g1.dropAt 1 (by simp)).dropAt 3 (by simp)).rot'
   simpa [List.length_append,List.flatMap_append,sdC] using g2
  have HF:=Lib.hid (HW.out _ (.slice (some ⟨g6,0,none⟩) (v.os++[(⟨100+c,.slice eo eb.length ek,eb⟩:Sd)]).length cap6) (v.os++[(⟨100+c,.slice eo eb.length ek,eb⟩:Sd)]) ss ⟨_,_,rfl⟩ h10)
  have HG:Hid ((v.os++[(⟨100+c,.slice eo eb.length ek,eb⟩:Sd)]).map Sd.p=s.out++[(100+c,eb)]):=Lib.hid (by
   rw [List.map_append,HVS.out]
   rfl)
  clear h6 h7 h8 h9 h10 HX HN5 c34 z34
  rw [HG.out] at HF
  go_wp2_with fail
  refine bodyPost_end (results_none rfl _ _ _) rfl ?_
  exact ⟨rfl,HF.out⟩
end
section
variable {B:Nat} {w0 w W W':World} {ss rs:List Res} {x:Np} {s s':Ns} {l l':Nt}
theorem nd_run {bv:Value} {bs:List Rq} (h:NdIs B w0 W x s l (batR bv bs::ss)) (hb:bs.length≤4) (hr:((s.bk.es++(zbw s.bk bs).2).length:Int)≤4*s.run):
  Calls Tryz.prog 271 #[ptrV x.bk,bv] W fun e w'=> ∃vo,e= .returned vo∧NdIs B w0 w' x {s with bk:=(runL s.bk bs).1} l (enR vo (runL s.bk bs).2::batR bv bs::ss):=by
 obtain ⟨v,rr,c,d,g⟩:=h.lens 5 (by omega) (by omega)
 have hok:=h.ok
 have hrun1:=hok.run1
 obtain ⟨n,hn⟩: ∃n:Nat,s.c.cl=n:=⟨s.c.cl.toNat,by have:=hok.c.cl1;omega⟩
 have hlg:=c.lg
 have hlo:=c.lo
 have hlp:=c.lp
 have hkc:=hok.bkc
 have hkn:=hok.bkn
 have hks:=hok.bks
 have hkv:=hok.bkv
 have hke:=hok.bke
 rw [←hlg] at hr hkc hkn hks hkv hke
 have d1:Own B w0 W (lgL v.lg++(batR bv bs::(ss++rr))):=Own.open d
 generalize v.lg=y at hr hkc hkn hks hkv hke hlo hlp d1 hlg
 obtain ⟨p,sb,cb,gb,cap,lv,clients,es,st,rp⟩:=y
 simp only [Lg.lp] at hr hkc hkn hks hkv hke hlg
 simp only at hlp
 subst hlp
 rw [hn] at hkc hkn
 subst hkc
 have hcap:=hlo.cap
 simp only at hcap
 have hes:es.length≤64:=by omega
 have d2:Own B w0 W (lgR x.bk sb cb gb cap n lv st rp es (batR bv bs::(ss++rr))):=d1.perm ((List.perm_append_comm (l₁:=[_,_]) (l₂:=[_,_,_])).append_right _)
 have hlx:LxS n st rp:=⟨by rw [hkn];simp,hks,hkv⟩
 refine (xrun_any (n:=n) d2 hlx (by rw [←hlx.rl];exact hcap.1) (by omega) (by omega)).mono ?_
 rintro e w' ⟨vo,lv',st',rp',he,hrun,hls,ho⟩
 rw [←hlg]
 rw [hrun]
 refine ⟨vo,he,g w' _ {v with lg:=⟨x.bk,sb,cb,gb,cap,lv',n,es++(zbw ⟨n,es,st,rp⟩ bs).2,st',rp'⟩} (enR vo (zbw ⟨n,es,st,rp⟩ bs).2::batR bv bs::ss) (joinR (lgL ⟨x.bk,sb,cb,gb,cap,lv',n,es++(zbw ⟨n,es,st,rp⟩ bs).2,st',rp'⟩)) {hok with bkc:= ?_,bkn:= ?_,bks:= ?_,bkv:= ?_,bke:= ?_} {c with lg:=rfl,lo:= ?_,lp:=rfl} rfl (Own.shut ?_)⟩
 ·exact hn.symm
 ·show rp'.length=_
  rw [hn,hls.rl];simp
 ·exact hls.sl
 ·exact hls.ok
 ·exact hr
 ·have h1:=hls.rl
  have h2:=hlx.rl
  have h3:=hlo.rp1
  have h4:=hlo.rp4
  simp only at h3 h4
  have h5:=hr
  exact ⟨hls.sl,by show 1≤rp'.length;omega,by show rp'.length≤4;omega,by show rp'.length≤cap∧cap≤maxLen;omega,by show (es++_).length≤100000;omega⟩
 ·exact ho.perm ((List.perm_append_comm (l₁:=[_,_,_]) (l₂:=[_,_])).append_right _)
theorem nd_done (h:NdIs B w0 W x s l ss) (k:Nat) (hk:k<s.c.f+1) {i:Nat} (hi:x.is[k]?=some i):Calls Tryz.prog 156 #[ptrV i] W fun e w'=>e= .returned (.int .i64 (doneI (insAt s k)))∧W=w':=by
 have hk':k<s.ins.length:=by rw [h.ok.ins];exact hk
 obtain ⟨j,rr,hj,ha,-⟩:=h.ask k hk'
 rw [hi] at hj
 cases hj
 rw [zbo s k hk']
 exact zw2 ha
theorem ze4 (h:NdIs B w0 W x s l ss) (k:Nat) (hk:k<s.c.f+1) {i:Nat} (hi:x.is[k]?=some i) (seq:Int):Calls Tryz.prog 110 #[ptrV i,.int .i64 seq] W fun e w'=> ∃c:Ct,e= .returned (.tuple #[ctAgg c,.bool (zap (insAt s k) seq).isSome])∧c.cp=(zap (insAt s k) seq).getD noCp∧(∃a1 k1 a2 k2,c.vb= .slice a1 c.rs.length k1∧c.vv= .slice a2 c.vs.length k2)∧
  NdIs B w0 w' x s l (batR c.vb c.rs::redR c.vv 2 c.vs.length (zan c.vs)::ss):=by
 have hk':k<s.ins.length:=by rw [h.ok.ins];exact hk
 obtain ⟨j,rr,hj,ha,g⟩:=h.ask k hk'
 rw [hi] at hj
 cases hj
 rw [zbo s k hk']
 obtain ⟨y,h1,h2,h3⟩:=ha
 rw [←h2]
 refine (zga h3 h1 seq).mono ?_
 rintro e w' ⟨c,he,hc,hn,hb,hv,n1,n2,x',e1,e2,e3⟩
 obtain ⟨b1,b2,b3,-⟩:=hb
 obtain ⟨v1,v2,v3,-⟩:=hv
 exact ⟨c,he,hc,⟨_,_,_,_,b3,v3⟩,g w' (_::_::ss) ⟨x',e1,e2.trans h2,e3.swap.rot⟩⟩
end
theorem zyn {p:NSt} (ht:p.1.tab=[]) (e:En): ∃o l',zdw p e=({p.1 with out:=p.1.out++o},l')∧o.length≤1∧l'.length≤p.2.length+1:=by
 obtain ⟨s,l⟩:=p
 simp only at ht
 have hl:=zgs (l:=l) (m:=repM s.id e.rq.client e.rq.time e.res)
 unfold zdw
 simp only
 rw [zfm]
 generalize sealP l (repM s.id e.rq.client e.rq.time e.res)=sp at*
 obtain ⟨o,l2⟩:=sp
 have hd: ∀c t,za2 ([]:List Td) c t=[]:=fun _ _=>rfl
 cases o with
 | none=>exact ⟨[],l2,by simp only [List.append_nil];rw [ht,hd,←ht],by simp,hl⟩
 | some b=>exact ⟨[_],l2,by simp only;rw [ht,hd,←ht],by simp,hl⟩
theorem zjo (p:NSt) (c t r:Int):(ze6 p c t r).1.tab=p.1.tab:=by
 obtain ⟨s,l⟩:=p
 rw [zfm]
 generalize sealP l (repM s.id c t r)=sp
 obtain ⟨o,l2⟩:=sp
 cases o<;>rfl
theorem zo0 {p:NSt} (ht:p.1.tab=[]) (e:En):zdw p e=ze6 p e.rq.client e.rq.time e.res:=by
 unfold zdw
 simp only
 have h:=zjo p e.rq.client e.rq.time e.res
 rw [ht] at h
 generalize ze6 p e.rq.client e.rq.time e.res=q at*
 obtain ⟨s,l⟩:=q
 simp only at h⊢
 rw [h]
 rw [show za2 ([]:List Td) e.rq.client e.rq.time=[] from rfl,←h]
theorem zoz {p:NSt} (ht:p.1.tab=[]): ∀es:List En,∃o l',es.foldl zdw p=({p.1 with out:=p.1.out++o},l')∧o.length≤es.length∧l'.length≤p.2.length+es.length:=by
 intro es
 induction es generalizing p with
 | nil=>exact ⟨[],p.2,by simp,by simp,by simp⟩
 | cons e es ih=>
  obtain ⟨o,l',h1,h2,h3⟩:=zyn ht e
  obtain ⟨o2,l2,k1,k2,k3⟩:=ih (p:=zdw p e) (by rw [h1];exact ht)
  rw [h1] at k1 k3
  simp only at k1 k3
  refine ⟨o++o2,l2,?_,by rw [List.length_append,List.length_cons];omega,by rw [List.length_cons];omega⟩
  rw [List.foldl_cons,h1,k1,List.append_assoc]
theorem zur {s:Ns} (ht:s.tab=[]) (k:Nat) (rs:List Rq):zkg k s rs=s:=by
 unfold zkg
 induction rs with
 | nil=>rfl
 | cons r rs ih=>
  rw [List.foldl_cons]
  rw [show zg6 k s r=s by unfold zg6 zbj;rw [ht];rfl]
  exact ih
theorem zoh (b:Lp) (rs:List Rq):(zbw b rs).1.clients=b.clients∧ ∀e∈(zbw b rs).2,0≤e.rq.client∧e.rq.client<b.clients:=by
 induction rs generalizing b with
 | nil=>simp [zbw]
 | cons r rs ih=>
  rw [zf3]
  have h1:(stepL b r).1.clients=b.clients∧ ∀e∈(stepL b r).2,0≤e.rq.client∧e.rq.client<b.clients:=by
   unfold stepL
   split
   ·simp
   ·refine ⟨rfl,fun e he=> ?_⟩
    simp only [List.mem_singleton] at he
    subst he
    simp only
    omega
  obtain ⟨h2,h3⟩:=ih (stepL b r).1
  refine ⟨by simp only;rw [h2,h1.1],fun e he=> ?_⟩
  simp only [List.mem_append] at he
  rcases he with he | he
  ·exact h1.2 e he
  ·have:=h3 e he;rw [h1.1] at this;exact this
theorem zsw {n:Nat} {p:NSt} (h: ¬p.1.run<doneI (insAt p.1 0)):runGo n p=p:=by
 cases n with
 | zero=>rfl
 | succ n=>unfold runGo;rw [if_neg h]
theorem zk6 {n:Nat} {p:NSt} (h:p.1.run<doneI (insAt p.1 0)):runGo (n+1) p=runGo n (zf2 p):=by
 conv=>lhs;unfold runGo
 rw [if_pos h]
abbrev runC (s:Ns):Cp:=(zap (insAt s 0) (s.run+1)).getD noCp
theorem zgr (s:Ns) (l:Nt):zf2 (s,l)=(runL s.bk (runC s).rs).2.foldl zdw ({s with run:=s.run+1,bk:=(runL s.bk (runC s).rs).1},l):=by
 unfold zf2
 rfl
section
variable {B:Nat} {w0 w W W':World} {ss rs:List Res} {x:Np} {s s':Ns} {l l':Nt}
theorem NdIs.tbAt (h:NdIs B w0 W x s l ss): ∃v,TbAt W x.tb s.c.f s.c.cl v s.tab:=by
 obtain ⟨v,rr,cc,d,-⟩:=h.lens 2 (by omega) (by omega)
 have hok:=h.ok
 have d1:Own B w0 W (blk x.tb (tabOb s.c.f s.c.cl v.tv)::tdR v.tv s.tab::(ss++rr)):=Own.open d
 refine ⟨v.tv,d1.blk_out,owns_reads (zak (d1.get 1 rfl)),fun t htm=> ?_⟩
 have:=(hok.tab.c t htm).2.2.1
 unfold tdC za8
 simp [this]
end
structure RunSt (s0:Ns) (l0:Nt) (m:Nat) (p:NSt):Prop where
 go:runGo 16 (s0,l0)=runGo m p
 fuel:16≤(m:Int)+p.1.run
 tab:p.1.tab=[]
 ln:(p.2.length:Int)≤800000000+4*p.1.run
 on:(p.1.out.length:Int)≤800000000+4*p.1.run
 c:p.1.c=s0.c
theorem zpn (s:Ns) (l:Nt) (ht:s.tab=[]): ∃o l',zf2 (s,l)=({s with run:=s.run+1,bk:=(runL s.bk (runC s).rs).1,out:=s.out++o},l')∧o.length≤(runC s).rs.length∧l'.length≤l.length+(runC s).rs.length:=by
 rw [zgr]
 obtain ⟨o,l',h1,h2,h3⟩:=zoz (p:=({s with run:=s.run+1,bk:=(runL s.bk (runC s).rs).1},l)) ht (runL s.bk (runC s).rs).2
 have h4:(runL s.bk (runC s).rs).2.length≤(runC s).rs.length:=zeo _ _
 exact ⟨o,l',h1,by omega,by simp only at h3;omega⟩
theorem RunSt.step {s0 s:Ns} {l0 l:Nt} {m:Nat} (h:RunSt s0 l0 m (s,l)) (h0:s.run<doneI (insAt s 0)) (h1:s.run+1≤16) (hb:(runC s).rs.length≤4): ∃m',m=m'+1∧RunSt s0 l0 m' (zf2 (s,l)):=by
 obtain ⟨g1,g2,g3,g4,g5,g6⟩:=h
 simp only at g2 g3 g4 g5 g6
 obtain ⟨n,rfl⟩: ∃n,m=n+1:=⟨m-1,by omega⟩
 obtain ⟨o,l',e1,e2,e3⟩:=zpn s l g3
 refine ⟨n,rfl,by rw [g1,zk6 h0],?_,?_,?_,?_,?_⟩
 ·rw [e1];simp only;omega
 ·rw [e1];exact g3
 ·rw [e1];simp only;omega
 ·rw [e1];simp only [List.length_append];omega
 ·rw [e1];exact g6
theorem Own.five {B:Nat} {w0 W:World} {rs:List Res} {b:Nat} {T:TypeId} {c0 c1 c2 c3 c4 v0 v1 v2 v3 v4:Value} (h:Own B w0 W (blk b (.cells #[c0,c1,c2,c3,c4] T (0,0))::rs)):Own B w0 (((((W.setCell ⟨b,0,none⟩ v0).setCell ⟨b,1,none⟩ v1).setCell ⟨b,2,none⟩ v2).setCell ⟨b,3,none⟩ v3).setCell ⟨b,4,none⟩ v4) (blk b (.cells #[v0,v1,v2,v3,v4] T (0,0))::rs):=(Own.storeTo (Own.storeTo (Own.storeTo (Own.storeTo (Own.storeTo h 0 v0 rfl) 1 v1 rfl) 2 v2 rfl) 3 v3 rfl) 4 v4 rfl)
abbrev InAt (p ib ic f i:Nat) (run:Int) (w:World):Prop:=w.cell? ⟨p,18,none⟩=some (slI ib (f+1) ic)∧w.cell? ⟨ib,0,none⟩=some (ptrV i)∧w.cell? ⟨p,28,none⟩=some (.int .i64 run)
theorem zg8 {p ib ic f i:Nat} {run:Int} {o:Obj} {w:World} (h:InAt p ib ic f i run w):InAt p ib ic f i run (w.alloc o):=⟨zad h.1,zad h.2.1,zad h.2.2⟩
theorem zxi {p ib ic f i:Nat} {run:Int} {o:Obj} {w:World} (h:InAt p ib ic f i run w.drew):InAt p ib ic f i run (w.alloc o).drew:=zg8 (w:=w) h
theorem zuv {p ib ic f i e:Nat} {run:Int} {v0 v1 v2 v3 v4:Value} {w:World} (h1:p≠e) (h2:ib≠e) (h:InAt p ib ic f i run w):InAt p ib ic f i run (((((w.setCell ⟨e,0,none⟩ v0).setCell ⟨e,1,none⟩ v1).setCell ⟨e,2,none⟩ v2).setCell ⟨e,3,none⟩ v3).setCell ⟨e,4,none⟩ v4):=by
 have g: ∀(b j:Nat) (v:Value),b≠e→w.cell? ⟨b,j,none⟩=some v→(((((w.setCell ⟨e,0,none⟩ v0).setCell ⟨e,1,none⟩ v1).setCell ⟨e,2,none⟩ v2).setCell ⟨e,3,none⟩ v3).setCell ⟨e,4,none⟩ v4).cell? ⟨b,j,none⟩=some v:=fun b j v hb hc=>(World.cell?_of_block (by rw [zch hb,zch hb,zch hb,zch hb,zch hb])).trans hc
 exact ⟨g _ _ _ h1 h.1,g _ _ _ h2 h.2.1,g _ _ _ h1 h.2.2⟩
section
variable {B:Nat} {w0 w W W':World} {ss rs:List Res} {x:Np} {s s':Ns} {l l':Nt}
theorem NdIs.inAt (h:NdIs B w0 W x s l ss) {i:Nat} (hi:x.is[0]?=some i):InAt x.p x.ib x.ic s.c.f i s.run W:=⟨h.cell 18 rfl (by decide),h.instAt 0 hi,h.cell 28 rfl (by decide)⟩
theorem nd_five {q:Nat} {T:TypeId} {c0 c1 c2 c3 c4 v0 v1 v2 v3 v4:Value} (h:NdIs B w0 W x s l (blk q (.cells #[c0,c1,c2,c3,c4] T (0,0))::ss)):NdIs B w0 (((((W.setCell ⟨q,0,none⟩ v0).setCell ⟨q,1,none⟩ v1).setCell ⟨q,2,none⟩ v2).setCell ⟨q,3,none⟩ v3).setCell ⟨q,4,none⟩ v4) x s l (blk q (.cells #[v0,v1,v2,v3,v4] T (0,0))::ss):=by
 obtain ⟨r,hs,hk⟩:=h.side
 exact hk _ (_::ss) (Own.five hs)
theorem NdIs.putRun (h:NdIs B w0 W x s l ss) (v:Int) (h0:s.run≤v) (h1:v≤16):NdIs B w0 (W.setCell ⟨x.p,28,none⟩ (.int .i64 v)) x {s with run:=v} l ss:=h.put 28 _ (fun _=>rfl) {h.ok with run0:=by have:=h.ok.run0;show 0≤v;omega,run1:=h1,bke:=by have:=h.ok.bke;show (s.bk.es.length:Int)≤4*v;omega} (fun _ c=> {c with}) (fun _=>rfl)
theorem NdIs.putStop (h:NdIs B w0 W x s l ss) (v:Bool):NdIs B w0 (W.setCell ⟨x.p,33,none⟩ (.bool v)) x {s with stop:=v} l ss:=h.put 33 _ (fun _=>rfl) {h.ok with} (fun _ c=> {c with}) (fun _=>rfl)
theorem NdIs.insLen (h:NdIs B w0 W x s l ss):(insAt s 0).l.length=16:=by
 have hk':0<s.ins.length:=by rw [h.ok.ins];omega
 obtain ⟨j,rr,hj,ha,-⟩:=h.ask 0 hk'
 rw [zbo s 0 hk']
 exact ai_len ha
theorem NdIs.runSm (h:NdIs B w0 W x s l ss):(runC s).rs.length≤4:=by
 have hk':0<s.ins.length:=by rw [h.ok.ins];omega
 have hsm:=(h.ok.insk 0 hk').2.2.2
 unfold runC zap
 rw [zbo s 0 hk']
 cases hp:plAt s.ins[0] (s.run+1) with
 | none=>simp [noCp]
 | some p=>
  have:=(sm_at hsm hp).dw
  simp only
  cases p.done with
  | true=>simpa using this
  | false=>simp [noCp]
end
section
variable {B:Nat} {w0 w W W':World} {ss rs:List Res} {x:Np} {s s':Ns} {l l':Nt}
end
section
variable {B:Nat} {w0 w W W':World} {ss rs:List Res} {nt nm rn:Nat} {vp:Value} {vt:Rn} {l:Nt}
end
def Px (l l':Nt):Prop:= ∃t,l'=l++t
theorem Px.refl (l:Nt):Px l l:=⟨[],by simp⟩
theorem Px.trans {a b c:Nt} (h:Px a b) (g:Px b c):Px a c:=by
 obtain ⟨t,rfl⟩:=h
 obtain ⟨u,rfl⟩:=g
 exact ⟨t++u,by rw [List.append_assoc]⟩
theorem zk1 (l:Nt) (p:Int) (b:Bys):Px l (sealL l p b):=by
 unfold sealL
 split
 ·exact .refl l
 ·exact ⟨_,rfl⟩
theorem Px.mem {l l':Nt} (h:Px l l') {x:Int×Bys} (hx:x∈l):x∈l':=by
 obtain ⟨t,rfl⟩:=h
 exact List.mem_append_left _ hx
theorem Px.sealN {l l':Nt} (h:Px l l') {p:Int} {b:Bys} (hx:(p,b)∈l):sealN l' p b=sealN l p b:=by
 obtain ⟨t,rfl⟩:=h
 unfold Go.Proofs.YtannckelmojkoaaGreat.sealN
 rw [List.idxOf_append,if_pos hx]
theorem Px.find {l l':Nt} (h:Px l l') {p:Int} {b:Bys} (hx:(p,b)∈l):findN l' p b=findN l p b:=by
 unfold findN
 rw [if_pos hx,if_pos (h.mem hx),h.sealN hx]
theorem Px.len {l l':Nt} (h:Px l l'):l.length≤l'.length:=by
 obtain ⟨t,rfl⟩:=h
 simp
theorem Px.sealed {l l':Nt} (h:Px l l') {m:Ms} {sl:Int} (hs:zoe l m sl=true):zoe l' m sl=true:=by
 unfold zoe at hs⊢
 cases hb:bodyP m with
 | none=>rw [hb] at hs;simp at hs
 | some b=>
  rw [hb] at hs
  simp only [Bool.and_eq_true,decide_eq_true_eq] at hs⊢
  exact ⟨h.mem hs.1,by rw [h.find hs.1];exact hs.2⟩
theorem Px.rqSealed {l l':Nt} (h:Px l l') {cl:Int} {r:Rq} (hs:rqSealed l cl r=true):rqSealed l' cl r=true:=by
 unfold Go.Proofs.YtannckelmojkoaaGreat.rqSealed at hs⊢
 simp only [Bool.and_eq_true,decide_eq_true_eq] at hs⊢
 exact ⟨hs.1,h.mem hs.2.1,by rw [h.find hs.2.1];exact hs.2.2⟩
theorem zna {n:Nat} {p q:Nat→Bool} (h:allR n p=true) (hq: ∀k,k<n→p k=true→q k=true):allR n q=true:=zc8 (fun k hk=>hq k hk (allR_at h k hk))
theorem Px.batch {l l':Nt} (h:Px l l') {most cl:Int} {rs:List Rq} (hs:zbh l most cl rs=true):zbh l' most cl rs=true:=by
 unfold zbh at hs⊢
 simp only [Bool.and_eq_true] at hs⊢
 refine ⟨hs.1,zna hs.2 (fun k _ hk=> ?_)⟩
 unfold zfa at hk⊢
 rw [Bool.and_eq_true] at hk⊢
 exact ⟨h.rqSealed hk.1,hk.2⟩
theorem Px.voted {l l':Nt} (h:Px l l') {kind:Int} {c:Cp} {f:Nat} (hs:zwt l kind c f=true):zwt l' kind c f=true:=by
 unfold zwt at hs⊢
 rw [Bool.and_eq_true] at hs⊢
 exact ⟨hs.1,zna hs.2 (fun k _ hk=>h.sealed hk)⟩
theorem Px.certified {l l':Nt} (h:Px l l') {kind:Int} {c:Cp} {f:Nat} {cl:Int} (hs:zea l kind c f cl=true):zea l' kind c f cl=true:=by
 unfold zea at hs⊢
 simp only [Bool.and_eq_true] at hs⊢
 exact ⟨hs.1,h.batch hs.2.1,h.voted hs.2.2⟩
def crtM (kind view inst seq:Int) (rs:List Rq) (k:Int):Ms:=⟨kind,k,view,inst,seq,0,rs,[],[],[]⟩
theorem zla (n:Int):(sgnB n).length≤6:=by have:=(zg3 5 (zigN n)).2;omega
theorem rq_len (r:Rq):(reqB r).length≤36:=by
 have a:=zby r.client
 have b:=zby r.time
 have c:=zby r.kind
 have d:=zla r.key
 have e:=zla r.val
 have g:=zby r.sl
 unfold reqB
 simp only [List.length_append]
 omega
theorem zei {n:Int} (h0:0≤n) (h1:n≤1000000000):numOk n=true:=by unfold numOk;simp;omega
structure RqGood (cl:Int) (r:Rq):Prop where
 ok:okReq r cl=true
 cl4:cl≤4
theorem RqGood.w {cl:Int} {r:Rq} (h:RqGood cl r):reqW r=true:=by
 have h1:=h.ok
 have h2:=h.cl4
 unfold okReq inW zc2 at h1
 unfold reqW numOk sgnOk
 simp only [Bool.and_eq_true,Bool.or_eq_true,decide_eq_true_eq] at h1⊢
 omega
theorem zxs (r:Rq):(listB reqB [r]).length≤42:=by
 have:=rq_len r
 have:=zby ((([r]:List Rq).length:Nat):Int)
 unfold listB
 simp only [List.length_append,List.flatMap_cons,List.flatMap_nil,List.append_nil]
 omega
theorem zuc {kind view inst seq k:Int} {r:Rq} (hr:reqW r=true) (h1:0≤kind) (h2:kind≤100) (v0:0≤view) (v1:view≤100) (i0:0≤inst) (i1:inst≤100) (s0:0≤seq) (s1:seq≤100) (k0:0≤k) (k1:k≤100):(bodyP (crtM kind view inst seq [r] k)).isSome=true:=by
 have a:=zei h1 (by omega)
 have b:=zei v0 (by omega)
 have c:=zei i0 (by omega)
 have d:=zei s0 (by omega)
 have e:=zei k0 (by omega)
 have g:sgnOk 0=true:=by decide
 have w:msW (crtM kind view inst seq [r] k)=true:=by
  unfold msW crtM
  simp only [a,b,c,d,e,g,listW,hr,List.all_cons,List.all_nil,List.length_cons,List.length_nil]
  rfl
 have n1:=zby kind
 have n2:=zby view
 have n3:=zby inst
 have n4:=zby seq
 have n5:=zby k
 have n6:=zla 0
 have n7:=zxs r
 have q1:(listB vtB ([]:Vs)).length=1:=by decide
 have q2:(listB certB ([]:List Cp)).length=1:=by decide
 have q3:(listB partB ([]:List Pa)).length=1:=by decide
 have hlen:(msB (crtM kind view inst seq [r] k)).length≤65530:=by
  unfold msB crtM
  simp only [List.length_append]
  rw [q1,q2,q3]
  omega
 unfold bodyP
 rw [w,if_pos (by simp;omega)]
 rfl
theorem rqS_ok {cl:Int} {l:Nt} {r:Rq} (h:RqGood cl r) (hn:l.length≤1000000000):RqGood cl (rqS l r)∧rqSealed (rqSL l r) cl (rqS l r)=true:=by
 have hw:reqW {r with sl:=0}=true:=(zry h.ok h.cl4).1
 have h1:=h.ok
 have hs:=zod l (100+r.client) (rqX r)
 have e1:rqS l r= {r with sl:=sealN l (100+r.client) (rqX r)}:=by unfold rqS;rw [if_pos hw]
 have e2:rqSL l r=sealL l (100+r.client) (rqX r):=by unfold rqSL;rw [if_pos hw]
 have ex:rqX r=rqB0 r:=by unfold rqX;rw [if_pos hw]
 have hok:okReq (rqS l r) cl=true:=by
  rw [e1]
  unfold okReq inW zc2 at h1⊢
  simp only [Bool.and_eq_true,Bool.or_eq_true,decide_eq_true_eq] at h1⊢
  refine ⟨⟨⟨h1.1.1.1,?_⟩,h1.1.2⟩,h1.2⟩
  omega
 refine ⟨⟨hok,h.cl4⟩,?_⟩
 unfold rqSealed
 rw [hok,e2]
 have e3:rqB0 (rqS l r)=rqX r:=by rw [e1,ex];rfl
 have e4:(rqS l r).client=r.client:=by rw [e1]
 have e5:(rqS l r).sl=sealN l (100+r.client) (rqX r):=by rw [e1]
 rw [e3,e4,e5,Bool.true_and,Bool.and_eq_true,decide_eq_true_eq,beq_iff_eq]
 exact ⟨zff _ _ _,zg4 _ _ _⟩
structure CrtOk (kind:Int) (f:Nat) (cl:Int) (l:Nt) (c:Cp) (r:Rq) (vs:Vs):Prop where
 rs:c.rs=[r]
 cert:zea l kind c f cl=true
 ok:zhf f cl c=true
 vl:c.vs.length=2*f+1
 w:certW c=true
section
variable {B:Nat} {w0 w W W':World} {ss rs:List Res} {nt nm rn:Nat} {vp:Value} {vt:Rn} {l:Nt}
abbrev balW (kind view inst seq:Int) (vb:Value) (bs:List Rq) (k:Int):Mm:=⟨kind,k,view,inst,seq,0,vb,bs,.slice none 0 0,[],.slice none 0 0,[],.slice none 0 0,[]⟩
end
section
variable {B:Nat} {w0 w W W':World} {ss rs:List Res} {nt nm rn:Nat} {vp:Value} {vt:Rn} {l:Nt}
end
section
variable {B:Nat} {w0 w W W':World} {ss rs:List Res} {nt nm rn:Nat} {vp:Value} {vt:Rn} {l:Nt}
end
section
variable {B:Nat} {w0 w W W':World} {ss rs:List Res} {x:Np} {s s':Ns} {l l':Nt}
end
section
variable {B:Nat} {w0 w W W':World} {ss rs:List Res} {x:Np} {s s':Ns} {l l':Nt} {rn:Nat} {vp:Value} {vt:Rn}
end
section
variable {f:Nat} {id n u st:Int} {ds:List (Option Cp)} {bk:Lp} {out:List (Int×Bys)} {sp:Bool} {l:Nt}
theorem ad_ins:(newS (stdC f) id).ins.length=f+1:=by unfold newS stdC;simp
end
def repB (id c t r:Int):Bys:=msB (repM id c t r)
theorem zxt {l L:Nt} {f:Nat} {cl:Int} {bs:Bys} {m:Ms} {sl:Int} (h:openP l f cl bs=some (m,sl)) (hp:Px l L):openP L f cl bs=some (m,sl):=by
 unfold openP at h⊢
 cases h1:takeN bs 0 with
 | none=>rw [h1] at h;simp at h
 | some q=>
  obtain ⟨v,a⟩:=q
  rw [h1] at h
  simp only at h⊢
  cases h2:zey (bs.drop a) with
  | none=>rw [h2] at h;simp at h
  | some m'=>
   rw [h2] at h
   simp only at h⊢
   split at h
   ·rename_i hc
    simp only [Bool.and_eq_true,decide_eq_true_eq] at hc
    rw [if_pos]
    ·exact h
    ·simp only [Bool.and_eq_true,decide_eq_true_eq]
     exact ⟨hc.1,hp.mem hc.2.1,by rw [hp.find hc.2.1];exact hc.2.2⟩
   ·simp at h
theorem zob (id c t r:Int):(repB id c t r).length≤65530:=by
 have a:=zby id
 have b:=zby c
 have d:=zby t
 have e:=zla r
 have c10:(numB 10).length=1:=by decide
 have c0:(numB 0).length=1:=by decide
 have q0:(listB reqB ([]:List Rq)).length=1:=by decide
 have q1:(listB vtB ([]:Vs)).length=1:=by decide
 have q2:(listB certB ([]:List Cp)).length=1:=by decide
 have q3:(listB partB ([]:List Pa)).length=1:=by decide
 unfold repB repM msB
 simp only [List.length_append]
 rw [c10,c0,q0,q1,q2,q3]
 omega
theorem rep_body {id c t r:Int} (h0:0≤id) (h1:id≤100) (h2:0≤c) (h3:c≤100) (h4:0≤t) (h5:t≤1048576) (h6: -549755813887≤r) (h7:r≤549755813887):bodyP (repM id c t r)=some (repB id c t r):=by
 have h:=zob id c t r
 have a:=zei h0 (by omega)
 have b:=zei h2 (by omega)
 have d:=zei h4 (by omega)
 have e:sgnOk r=true:=by unfold sgnOk;simp;omega
 have c10:numOk 10=true:=by decide
 have c0:numOk 0=true:=by decide
 have q0:listW reqW ([]:List Rq)=true:=by decide
 have q1:listW vtW ([]:Vs)=true:=by decide
 have q2:listW certW ([]:List Cp)=true:=by decide
 have q3:listW partW ([]:List Pa)=true:=by decide
 have w:msW (repM id c t r)=true:=by
  unfold msW repM
  simp only [a,b,d,e,c10,c0,q0,q1,q2,q3]
  rfl
 unfold repB at h⊢
 unfold bodyP
 rw [w]
 simp only [Bool.true_and]
 rw [if_pos (by simp;omega)]
theorem rep_form {f:Nat} {cl id c t r:Int} (h0:0≤id) (h1:id≤3*f) (h2:0≤c) (h3:c≤cl-1) (h4:1≤t) (h5:t≤1048576) (h6: -549755813887≤r) (h7:r≤549755813887):formP f cl (repM id c t r)=true:=by
 unfold formP repM formK zbt inW bareP
 simp [h0,h1,h2,h3,h4,h5,h6,h7]
theorem reply_go {s:Ns} {l:Nt} {c t r:Int} (hn:l.length≤1000000000) (hf:s.c.f≤4) (h0:0≤s.id) (h1:s.id≤3*s.c.f) (h2:0≤c) (h3:c≤s.c.cl-1) (hcl:s.c.cl≤4) (h4:1≤t) (h5:t≤1048576) (h6: -549755813887≤r) (h7:r≤549755813887):
  ∃(b:Bys) (l':Nt) (m:Ms) (sl:Int),ze6 (s,l) c t r=({s with out:=s.out++[(100+c,b)]},l')∧Px l l'∧l'.length≤l.length+1∧openP l' s.c.f s.c.cl b=some (m,sl)∧m.kind=10:=by
 have hb:=rep_body (t:=t) h0 (by omega) h2 (by omega) (by omega) h5 h6 h7
 have ho:=zjf (l:=l) (f:=s.c.f) (cl:=s.c.cl) (m:=repM s.id c t r) hb (zob _ _ _ _) hn
 rw [rep_form h0 h1 h2 h3 h4 h5 h6 h7,if_pos rfl] at ho
 have hg:=znn hn s.id (zob s.id c t r)
 have hs:sealP l (repM s.id c t r)=(some (givE l s.id (repB s.id c t r)),sealL l s.id (repB s.id c t r)):=by
  unfold sealP
  rw [hb]
  simp only
  have e:envP (sealN l (repM s.id c t r).fm (repB s.id c t r)) (repB s.id c t r)=some (numB (sealN l s.id (repB s.id c t r))++repB s.id c t r):=by
   unfold envP
   have h8:=zhz hn s.id (repB s.id c t r)
   have h9:=zby (sealN l s.id (repB s.id c t r))
   have h10:=zob s.id c t r
   rw [if_pos]
   ·rfl
   ·simp only [Bool.and_eq_true,decide_eq_true_eq]
    exact ⟨h8,by show (numB (sealN l s.id _)).length+_≤_;omega⟩
  rw [e,hg]
  rfl
 refine ⟨givE l s.id (repB s.id c t r),sealL l s.id (repB s.id c t r),repM s.id c t r,_,?_,zk1 _ _ _,(zd4 _ _ _).2,ho,rfl⟩
 rw [zfm,hs]
structure BkOk (cl:Nat) (b:Lp):Prop where
 c:b.clients=cl
 rp:b.rp.length=cl
 st:b.st.length=64
 vs:VsOk (b.st.map Prod.snd)
def ldg1 (b:Lp) (r:Rq):Lp:=(runL b [r]).1
theorem zx2 (b:Lp) (r:Rq):runL b [r]=({(stepL b r).1 with es:=b.es++(stepL b r).2},(stepL b r).2):=by
 unfold runL
 simp only
 rw [zf3]
 simp [zbw]
theorem zjs {cl:Nat} {b:Lp} (h:BkOk cl b) {r:Rq} {c:Nat} (hc:r.client=c) (hlt:c<cl) (ht:(b.rp.getD c (0,0)).1<r.time):
  runL b [r]=(⟨b.clients,b.es++[⟨r,(za0 b.st r).1⟩],(za0 b.st r).2,b.rp.set c (r.time,(za0 b.st r).1)⟩,[⟨r,(za0 b.st r).1⟩]):=by
 obtain ⟨h1,h2,h3,h4⟩:=h
 obtain ⟨clients,es,st,rp⟩:=b
 simp only at h1 h2 h3 h4 ht
 subst h1
 have hq:c<rp.length:=by omega
 have e:rp.getD c (0,0)=rp[c]:=by simp [List.getD,hq]
 rw [e] at ht
 rw [zx2,zog h2 hq hc ht]
theorem zx3 {cl:Nat} {b:Lp} (h:BkOk cl b) {r:Rq} {c:Nat} (hc:r.client=c) (hlt:c<cl) (ht: ¬(b.rp.getD c (0,0)).1<r.time):runL b [r]=(b,[]):=by
 obtain ⟨h1,h2,h3,h4⟩:=h
 obtain ⟨clients,es,st,rp⟩:=b
 simp only at h1 h2 h3 h4 ht
 subst h1
 have hq:c<rp.length:=by omega
 have e:rp.getD c (0,0)=rp[c]:=by simp [List.getD,hq]
 rw [e] at ht
 rw [zx2,zs8 h2 (.inr (.inr ⟨c,hq,hc,by omega⟩))]
 simp
theorem zxk {cl:Nat} {b:Lp} (h:BkOk cl b) {r:Rq} {c:Nat} (hc:r.client=c) (hlt:c<cl):BkOk cl (ldg1 b r):=by
 unfold ldg1
 by_cases ht:(b.rp.getD c (0,0)).1<r.time
 ·rw [zjs h hc hlt ht]
  exact ⟨h.c,by simpa using h.rp,(ziz h.st r).2.2,znb h.st h.vs r⟩
 ·rw [zx3 h hc hlt ht];exact h
theorem ztz {vs:List Int} (h:VsOk vs) (r:Rq): -200000000000<(zce vs r).1∧(zce vs r).1<200000000000:=by
 have ha:=h.at r.key.toNat
 have hs:=zx6 h 64
 rw [List.take_of_length_le (by rw [h.1];omega)] at hs
 unfold zce
 split
 ·simp
 ·split
  ·simp only;omega
  ·split
   ·simp only;omega
   ·split
    ·split
     ·simp only;omega
     ·simp only;omega
    ·split
     ·simp only;omega
     ·split
      ·exact hs
      ·simp
theorem res_in {st:List (Bool×Int)} (hl:st.length=64) (hv:VsOk (st.map Prod.snd)) (r:Rq): -200000000000<(za0 st r).1∧(za0 st r).1<200000000000:=by
 rw [(ziz hl r).1]
 exact ztz hv r
section
variable {f:Nat} {id u st:Int} {ds:List (Option Cp)} {bk:Lp} {out:List (Int×Bys)} {sp:Bool} {l:Nt}
def zyd (f:Nat) (L:Nt) (o:List (Int×Bys)):Prop:= ∀y∈o,∃m sl,openP L f 2 y.2=some (m,sl)∧m.kind=10
theorem zyd.px {L L':Nt} {o:List (Int×Bys)} (h:zyd f L o) (hp:Px L L'):zyd f L' o:=fun y hy=>by
 obtain ⟨m,sl,h1,h2⟩:=h y hy
 exact ⟨m,sl,zxt h1 hp,h2⟩
end
section
variable {f:Nat} {id u st fm:Int} {ds:List (Option Cp)} {bk:Lp} {out:List (Int×Bys)} {l:Nt}
end
def cpL (cps:List Cp) (j:Nat):Cp:=cps.getD j noCp
def rqL (cps:List Cp) (j:Nat):Rq:=reqAt (cpL cps j).rs 0
structure CtGood (f:Nat) (l:Nt) (j:Nat) (c:Cp):Prop where
 inst:c.inst=0
 seq:c.seq=j+1
 rs:c.rs=[reqAt c.rs 0]
 cert:zea l 5 c f 2=true
 ok:zhf f 2 c=true
 vl:c.vs.length=2*f+1
 w:certW c=true
 rc:(reqAt c.rs 0).client=((j%2:Nat):Int)
 rt:(reqAt c.rs 0).time=j+1
 rok:okReq (reqAt c.rs 0) 2=true
theorem CtGood.px {f:Nat} {l l':Nt} {j:Nat} {c:Cp} (h:CtGood f l j c) (hp:Px l l'):CtGood f l' j c:= {h with cert:=hp.certified h.cert}
def zm8 (f:Nat) (l:Nt) (cps:List Cp):Prop:= ∀j,j<cps.length→CtGood f l j (cpL cps j)
theorem zm8.px {f:Nat} {l l':Nt} {cps:List Cp} (h:zm8 f l cps) (hp:Px l l'):zm8 f l' cps:=fun j hj=>(h j hj).px hp
structure BkAd (cps:List Cp) (n:Nat) (b:Lp):Prop where
 ok:BkOk 2 b
 es:b.es.length=n
 rq: ∀j,j<n→(b.es[j]?).map En.rq=some (rqL cps j)
 rp: ∀c,c<2→(b.rp.getD c (0,0)).1≤n
theorem BkAd.step {cps:List Cp} {n:Nat} {b:Lp} (h:BkAd cps n b) (hc:(rqL cps n).client=((n%2:Nat):Int)) (ht:(rqL cps n).time=n+1):BkAd cps (n+1) (ldg1 b (rqL cps n)):=by
 have h2:n%2<2:=by omega
 have hy:=zjs h.ok hc h2 (by have:=h.rp _ h2;omega)
 have e:ldg1 b (rqL cps n)=⟨b.clients,b.es++[⟨rqL cps n,(za0 b.st (rqL cps n)).1⟩],(za0 b.st (rqL cps n)).2,b.rp.set (n%2) ((rqL cps n).time,(za0 b.st (rqL cps n)).1)⟩:=by unfold ldg1;rw [hy]
 refine ⟨zxk h.ok hc h2,by rw [e];simp [h.es],fun j hj=> ?_,fun c hc2=> ?_⟩
 ·rw [e]
  simp only
  by_cases hj2:j<n
  ·rw [List.getElem?_append_left (by rw [h.es];exact hj2)]
   exact h.rq j hj2
  ·have:j=n:=by omega
   subst this
   rw [List.getElem?_append_right (by rw [h.es];omega),h.es]
   simp
 ·rw [e]
  simp only
  rw [List.getD_eq_getElem?_getD,List.getElem?_set]
  have hl:=h.ok.rp
  by_cases hcc:n%2=c
  ·rw [if_pos hcc,if_pos (by omega)]
   simp only [Option.getD_some]
   omega
  ·rw [if_neg hcc]
   have:=h.rp c hc2
   rw [List.getD_eq_getElem?_getD] at this
   omega
end Go.Proofs.YtannckelmojkoaaGreat
namespace Go.Proofs.YtannckelmojkoaaGreat
open Go.ChangeShapes Go.WideShapes Go.ChangeAt Go.RowKit Go.Deep Go.Heap
structure Op3 where
 kind:Int
 key:Int
 val:Int
def opCells (o:Op3):List Value:=[.int .i64 o.kind,.int .i64 o.key,.int .i64 o.val]
def Opz (w:World) (v:Value) (l:List Op3):Prop:=Reads w v 3 l.length (l.flatMap opCells)
theorem Opz.upd {w w':World} {v:Value} {l:List Op3} (h:Opz w v l) (hu:Upd [] w w'):Opz w' v l:=Reads.upd (M:=[]) h hu (by simp)
section
variable {H:Type} {enc:TypeId×Value→H} {W:World} {base:Nat} {spare:Nat→Bool} {held:Bool}
end
end Go.Proofs.YtannckelmojkoaaGreat
namespace Go.Proofs.YtannckelmojkoaaGreat
open Go.RowKit Go.Heap
section
variable {B:Nat} {w0 w W W':World} {ss rs:List Res} {x:Np} {s s':Ns} {l l':Nt}
theorem zpb (h:NdIs B w0 W x s l ss):Calls Tryz.prog 49 #[ptrV x.p] W fun e w'=> ∃y:Lg,e= .returned (ptrV y.p)∧LgOk y∧y.lp=s.bk∧NdIs B w0 w' x s l (lgL y++ss):=by
 obtain ⟨v,rr,c,d,g⟩:=h.lens 5 (by omega) (by omega)
 have hok:=h.ok
 have d1:Own B w0 W (lgL v.lg++(ss++rr)):=Own.open d
 have HC:=zl7 d1 c.lo
 have c22:=h.cell 22 rfl (by decide)
 have hp:v.lg.p=x.bk:=c.lp
 rw [hp] at HC
 have HC2:Hid (Calls Tryz.prog 108 #[ptrV x.bk] W fun e w'=> ∃y:Lg,e= .returned (ptrV y.p)∧LgOk y∧y.lp=s.bk∧NdIs B w0 w' x s l (lgL y++ss)):=Lib.hid (HC.mono (fun e w' ⟨y,he,h1,h2,h3⟩=>⟨y,he,h1,h2.trans c.lg,g w' s v (lgL y++ss) (joinR (lgL v.lg)) hok c rfl (Own.shut (rs:=lgL v.lg) (by
  refine h3.perm ?_
  have:(lgL y++(lgL v.lg++(ss++rr))).Perm (lgL v.lg++(lgL y++(ss++rr))):=List.perm_append_comm_assoc _ _ _
  simpa [List.append_assoc] using this))⟩))
 clear HC d1 d g c hok hp h
 go_enter Tryz.func49,Tryz.ntmps49
 go_wp2_with fail
 refine HC2.out.mono ?_
 rintro e w1 ⟨y,rfl,h1,h2,h3⟩
 have HF:=Lib.hid h3
 have H1:=Lib.hid h1
 have H2:=Lib.hid h2
 clear h1 h2 h3 HC2 c22
 go_wp2_with fail
 go_ret
 exact ⟨y,rfl,H1.out,H2.out,HF.out⟩
end
theorem NdIs.more {B:Nat} {w0 W:World} {x:Np} {s:Ns} {l l1 l2:Nt} {ss:List Res} {rn:Nat} {vp:Value} {vt:Rn} (h:NdIs B w0 W x s l (rnR rn vp vt l1 ss)) (hl:Px l1 l2):NdIs B w0 W x s l (rnR rn vp vt l2 ss):=by
 obtain ⟨t,rfl⟩:=hl
 exact h.onSide (fun r hr=>rn_more (ss:=ss++[r]) hr (fun x hx=>List.mem_append_left _ hx))
section
variable {B:Nat} {w0 W:World} {x:Np} {l:Nt} {ss:List Res} {f:Nat} {id n u st:Int} {ds:List (Option Cp)} {bk:Lp} {o:List (Int×Bys)} {sp:Bool}
end
theorem nd_upd {W w:World} {x:Np} {s:Ns} {l:Nt} {ss:List Res} (h:NdIs W.heap.size W w x s l ss):Upd [] W w:=by
 obtain ⟨r,hs,-⟩:=h.side
 exact Upd.of_below hs.below
abbrev stdO (f:Nat):Obj:= .cells (cfA (stdC f)) 30 (0,0)
structure CtsMade (f:Nat) (l:Nt) (cts:List Ct):Prop where
 g:zm8 f l (cts.map Ct.cp)
 n:cts.length≤5
theorem Tryz.infoCt3:(Tryz.prog.info? 42).map (fun i=>(i.zero,i.size,i.bytes))=some (some (.agg #[.int .i64 0,.int .i64 0,.int .i64 0,.slice none 0 0,.slice none 0 0]),5,72):=by kernel_rfl
section
variable {B:Nat} {w0 W:World} {ss:List Res} {y:Lg}
end
def cmtN (s:Ns) (n:Nat):Nat:=(List.range n).countP fun (j:Nat)=>(zap (insAt s 0) ((j:Int)+1)).isSome
theorem zt9 (s:Ns) (n:Nat):cmtN s (n+1)=cmtN s n+if (zap (insAt s 0) ((n:Int)+1)).isSome then 1 else 0:=by
 unfold cmtN
 rw [List.range_succ,List.countP_append]
 simp [List.countP_cons,List.countP_nil]
theorem cmtN_le (s:Ns) (n:Nat):cmtN s n≤n:=by
 unfold cmtN
 have:=List.countP_le_length (p:=fun j:Nat=>(zap (insAt s 0) ((j:Int)+1)).isSome) (l:=List.range n)
 simpa using this
section
variable {B:Nat} {w0 W:World} {ss:List Res} {x:Np} {s:Ns} {l:Nt}
theorem zme (h:NdIs B w0 W x s l ss):Calls Tryz.prog 55 #[ptrV x.p,.int .i64 0] W fun e w'=> ∃a c,e= .returned (.slice a (cmtN s 16) c)∧NdIs B w0 w' x s l ss:=by
 obtain ⟨i0,hi,hz0,hz1,hz2⟩:=info_parts Tryz.infoCt3
 have hcap:=h.caps.1
 have hcI:(s.c.f:Int)+1≤(x.ic:Int):=by omega
 have c18:=h.cell 18 rfl (by decide)
 obtain ⟨i,hi0,-⟩:=h.iAt (k:=0) (by omega)
 have HI:=Lib.hid hi0
 have H0:Hid (NdIs B w0 W x s l (ownR 42 5 (.slice none 0 0) 0 []::ss)):=Lib.hid (h.onSide (fun r hr=>hr.row0))
 clear h hcap hi0
 go_enter Tryz.func55,Tryz.ntmps55
 go_wp2_with fail
 go_loopw [5,6] (fun o t wr=> ∃(j:Nat) (a:Option Addr) (c:Nat) (xs:List Value),j≤16∧t= .int .i64 ((j:Int)+1)∧o= .slice a (cmtN s j) c∧Hid (NdIs B w0 wr x s l (ownR 42 5 (.slice a (cmtN s j) c) (cmtN s j) xs::ss))) (fun _ t _=>17-(intOf t).toNat)
 case atStart=>exact ⟨0,none,0,[],by omega,rfl,rfl,H0⟩
 case round=>
  clear H0 c18
  obtain ⟨j,a,c,xs,hj,rfl,rfl,H1⟩:=hrel
  have hj0:(0:Int)≤(j:Int):=by omega
  by_cases hlt:j<16
  ·have hjI:(j:Int)+1≤16:=by omega
   have c18:=H1.out.cell 18 rfl (by decide)
   have ci:=H1.out.instAt 0 HI.out
   have HC:=Lib.hid (ze4 H1.out 0 (by omega) HI.out ((j:Int)+1))
   have HST:=Lib.hid (zt9 s j)
   have HLE:=Lib.hid (cmtN_le s j)
   generalize cmtN s j=m at*
   generalize zap (insAt s 0) ((j:Int)+1)=oc at*
   clear H1
   go_wp2_with fail
   refine HC.out.mono ?_
   rintro e w2 ⟨d,rfl,-,⟨a1,k1,a2,k2,hb1,hv1⟩,h2⟩
   obtain ⟨view,inst,seq,vb,vv,rs,vs⟩:=d
   simp only at hb1 hv1
   subst hb1 hv1
   have H3:=Lib.hid (h2.box (ctO view inst seq (.slice a1 rs.length k1) (.slice a2 vs.length k2)))
   clear h2 HC c18 ci
   have hb7:=heap_alloc_new w2 (ctO view inst seq (.slice a1 rs.length k1) (.slice a2 vs.length k2))
   have f0:=zaa hb7 0 rfl
   have f1:=zaa hb7 1 rfl
   have f2:=zaa hb7 2 rfl
   have f3:=zaa hb7 3 rfl
   have f4:=zaa hb7 4 rfl
   have hjB:(j:Int)+1+1≤9223372036854775807:=by omega
   cases oc with
   | none=>
    have e:cmtN s (j+1)=m:=by have:=HST.out;simpa using this
    have HF:=Lib.hid H3.out.drop.drop.drop
    clear H3 hb7 f0 f1 f2 f3 f4 HST
    simp only [Option.isSome_none]
    go_wp2_with fail
    go_roundw
    case rel=>exact ⟨j+1,a,c,xs,by omega,by go_num,by rw [e],by rw [e];exact HF⟩
    case measure=>simp [intOf];omega
   | some cc=>
    have e:cmtN s (j+1)=m+1:=by have:=HST.out;simpa using this
    obtain ⟨r9,hs9,hback9⟩:=H3.out.side
    have HBK:=Lib.hid hback9
    have hx:=hs9.box (ctO view inst seq (.slice a1 rs.length k1) (.slice a2 vs.length k2))
    have hn:=heap_alloc_new (w2.alloc (ctO view inst seq (.slice a1 rs.length k1) (.slice a2 vs.length k2))) (ctO view inst seq (.slice a1 rs.length k1) (.slice a2 vs.length k2))
    rw [zbb] at hx hn
    have HX:=Lib.hid hx
    have HNB:=Lib.hid hn
    clear hx hn
    have HE:=Lib.hid e
    clear H3 hb7 HST hs9 hback9 e
    simp only [Option.isSome_some]
    go_wp2_with (at_builtin;refine zbl rfl (.tmp 37) (.tmp 39) 44 rfl 42 i0 (.agg #[.int .i64 0,.int .i64 0,.int .i64 0,.slice none 0 0,.slice none 0 0]) 5 72 Tryz.underlying44 hi hz0 hz1 hz2 rfl (by decide) HX.out 4 (.slice a m c) m xs rfl rfl (w2.heap.size+1) #[.int .i64 view,.int .i64 inst,.int .i64 seq,.slice a1 rs.length k1,.slice a2 vs.length k2] 42 (0,0) rfl HNB.out rfl (by simp [Value.oneCell']) (by have:=HLE.out;unfold maxLen;omega) (by have:=HLE.out;omega) ?_)
    intro g cap w6 k6
    have HF:Hid (NdIs B w0 w6 x s l (ownR 42 5 (.slice (some ⟨g,0,none⟩) (cmtN s (j+1)) cap) (cmtN s (j+1)) (xs++[.int .i64 view,.int .i64 inst,.int .i64 seq,.slice a1 rs.length k1,.slice a2 vs.length k2])::ss)):=Lib.hid (HBK.out w6 (_::ss) (by
     rw [HE.out]
     exact (((show Own B w0 w6 (blk _ _::blk _ _::batR _ _::redR _ _ _ _::ownR _ _ _ _ _::(ss++[r9])) from k6).drop).drop).drop.drop))
    clear k6 HX HBK HNB f0 f1 f2 f3 f4
    go_wp2_with fail
    go_roundw
    case rel=>exact ⟨j+1,_,cap,_,by omega,by go_num,by rw [HE.out],HF⟩
    case measure=>simp [intOf];omega
  ·have hjI:decide ((j:Int)+1≤16)=false:=decide_eq_false (by omega)
   obtain rfl:j=16:=by omega
   have HF:=Lib.hid H1.out.drop
   go_wp2_with fail
   go_ret
   exact ⟨a,c,rfl,HF.out⟩
end
structure BkPs (n:Nat) (last:Int) (b:Lp):Prop where
 ok:BkOk 2 b
 es:b.es.length=n
 rp:(b.rp.getD 0 (0,0)).1=last
 st:(b.st.getD 1 (false,0)).2=n
 has:(b.st.getD 1 (false,0)).1=true∨n=0
def addR (k sl:Int):Rq:=⟨0,k,3,1,1,sl⟩
theorem BkPs.get {n:Nat} {last:Int} {b:Lp} (h:BkPs n last b):(if (b.st.getD 1 (false,0)).1 then (b.st.getD 1 (false,0)).2 else 0)=n:=by
 rcases h.has with h1 | h1
 ·rw [h1,if_pos rfl,h.st]
 ·have:=h.st
  split<;>omega
theorem zp6 {st:List (Bool×Int)} {k sl:Int} {n:Nat} (h:(st.getD 1 (false,0)).2=n) (hn:n≤1000):za0 st (addR k sl)=((n:Int)+1,st.set 1 (true,(n:Int)+1)):=by
 unfold za0 addR
 simp only [show (1:Int).toNat=1 from rfl,h]
 rw [if_neg (by omega),if_neg (by omega),if_neg (by omega),if_pos trivial,if_neg (by omega)]
theorem BkPs.step {n:Nat} {last k sl:Int} {b:Lp} (h:BkPs n last b) (hn:n≤1000):BkPs (if last<k then n+1 else n) (if last<k then k else last) (ldg1 b (addR k sl)):=by
 have hrp:=h.ok.rp
 have hst:=h.ok.st
 by_cases hk:last<k
 ·rw [if_pos hk,if_pos hk]
  have hy:=zjs (r:=addR k sl) (c:=0) h.ok rfl (by omega) (by rw [h.rp];exact hk)
  have e:ldg1 b (addR k sl)=⟨b.clients,b.es++[⟨addR k sl,(za0 b.st (addR k sl)).1⟩],(za0 b.st (addR k sl)).2,b.rp.set 0 (k,(za0 b.st (addR k sl)).1)⟩:=by unfold ldg1;rw [hy];rfl
  have ea:=zp6 (k:=k) (sl:=sl) h.st hn
  have hok:=zxk (r:=addR k sl) (c:=0) h.ok rfl (by omega)
  rw [e] at hok⊢
  rw [ea] at hok⊢
  refine ⟨hok,by simp [h.es],?_,?_,.inl ?_⟩
  ·simp only [List.getD_eq_getElem?_getD,List.getElem?_set]
   rw [if_pos trivial,if_pos (by omega)]
   rfl
  ·simp only [List.getD_eq_getElem?_getD,List.getElem?_set]
   rw [if_pos trivial,if_pos (by omega)]
   simp
  ·simp only [List.getD_eq_getElem?_getD,List.getElem?_set]
   rw [if_pos trivial,if_pos (by omega)]
   rfl
 ·rw [if_neg hk,if_neg hk]
  have hy:=zx3 (r:=addR k sl) (c:=0) h.ok rfl (by omega) (by rw [h.rp];exact hk)
  have e:ldg1 b (addR k sl)=b:=by unfold ldg1;rw [hy]
  rw [e]
  exact h
section
variable {B:Nat} {w0 W W':World} {x:Np} {s:Ns} {l L:Nt} {ss:List Res} {rn:Nat} {vp:Value} {vt:Rn}
end
section
variable {B:Nat} {w0 W W':World} {ss rs:List Res} {x:Ins}
end
end Go.Proofs.YtannckelmojkoaaGreat
