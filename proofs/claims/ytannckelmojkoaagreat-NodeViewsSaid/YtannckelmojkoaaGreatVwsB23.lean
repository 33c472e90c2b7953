/- Parts of the proof, one behind the other. -/
import Derived.Test.YtannckelmojkoaaGreatVwsB22
set_option maxHeartbeats 32000000
set_option maxRecDepth 100000
set_option linter.unusedVariables false
set_option linter.unusedSimpArgs false
namespace Go.Proofs.YtannckelmojkoaaGreat
open Go.RowKit Go.Heap
structure Cf where
 f:Nat
 cl:Int
 bt:Int
 ah:Int
 qu:Int
 fl:Int
 sh:Int
 pe:Int
 nu:Int
 de:Int
 la:Int
 om:Int
 wa:Int
 ag:Int
 re:Int
structure CfOk (c:Cf):Prop where
 f1:1≤c.f
 f2:c.f≤4
 cl1:1≤c.cl
 cl2:c.cl≤4
 bt1:1≤c.bt
 bt2:c.bt≤4
 ah1:1≤c.ah
 ah2:c.ah≤16
 qu1:1≤c.qu
 qu2:c.qu≤256
 fl1:1≤c.fl
 fl2:c.fl≤64
 sh1:1≤c.sh
 sh2:c.sh≤64
 pe1:2≤c.pe
 pe2:c.pe≤64
 nu1:0≤c.nu
 nu2:c.nu≤8
 de1:1≤c.de
 de2:c.de≤8
 la1:2≤c.la
 la2:c.la≤64
 om1:0≤c.om
 om2:c.om≤64
 wa1:2≤c.wa
 wa2:c.wa≤64
 ag1:1≤c.ag
 ag2:c.ag≤16
 re1:1≤c.re
 re2:c.re≤64
abbrev cfA (c:Cf):Array Value:=#[.int .i64 c.f,.int .i64 c.cl,.int .i64 c.bt,.int .i64 c.ah,.int .i64 c.qu,.int .i64 c.fl,.int .i64 c.sh,.int .i64 c.pe,.int .i64 c.nu,.int .i64 c.de,.int .i64 c.la,.int .i64 c.om,.int .i64 c.wa,.int .i64 c.ag,.int .i64 c.re]
structure Td where
 r:Rq
 by_:List Bool
 ready:Bool
 since:Int
def tdC (t:Td):List Value:=zbh t.r++(t.by_.map Value.bool++[.bool t.ready,.int .i64 t.since])
structure Ns where
 c:Cf
 id:Int
 now:Int
 ins:List In
 tab:List Td
 vo:List Vo
 gd:List Peer
 bk:Lp
 mt:List (Int×Int)
 pts:List (Int×Pa)
 bg:List (Int×Ms)
 pre:List (List Int)
 com:List (List Int)
 run:Int
 view:Int
 voted:Int
 since:Int
 start:Int
 stop:Bool
 out:List (Int×Bys)
 used:Int
 bad:Int
 stale:Int
 shut:Int
 full:Int
structure Np where
 p:Nat
 nt:Nat
 nm:Nat
 t:Nat
 ib:Nat
 ic:Nat
 is:List Nat
 tb:Nat
 vt:Nat
 vg:Nat
 vk:Nat
 gd:Nat
 bk:Nat
 mt:Nat
 mg:Nat
 mtk:Nat
 pt:Nat
 pk:Nat
 bg:Nat
 bgk:Nat
 pr:Nat
 prk:Nat
 prs:List Nat
 co:Nat
 cok:Nat
 cos:List Nat
structure Nv where
 xs:List Ins
 tv:Value
 gv:Value
 lg:Lg
 ps:List (Int×Pt)
 ms:List (Int×Mm)
 ov:Value
 os:List Sd
abbrev slI (b n k:Nat):Value:= .slice (some ⟨b,0,none⟩) n k
abbrev nsC (x:Np) (s:Ns) (ov:Value):List Value:=[.int .i64 s.c.f,.int .i64 s.c.cl,.int .i64 s.c.bt,.int .i64 s.c.ah,.int .i64 s.c.qu,.int .i64 s.c.fl,.int .i64 s.c.sh,.int .i64 s.c.pe,.int .i64 s.c.nu,.int .i64 s.c.de,.int .i64 s.c.la,.int .i64 s.c.om,.int .i64 s.c.wa,.int .i64 s.c.ag,.int .i64 s.c.re,
 .int .i64 s.id,ptrV x.nt,ptrV x.t,slI x.ib (s.c.f+1) x.ic,ptrV x.tb,ptrV x.vt,ptrV x.gd,ptrV x.bk,ptrV x.mt,slI x.pt (3*s.c.f+1) x.pk,slI x.bg (s.c.f+1) x.bgk,slI x.pr (s.c.f+1) x.prk,slI x.co (s.c.f+1) x.cok,
 .int .i64 s.run,.int .i64 s.view,.int .i64 s.voted,.int .i64 s.since,.int .i64 s.start,.bool s.stop,ov,.int .i64 s.used,.int .i64 s.bad,.int .i64 s.stale,.int .i64 s.shut,.int .i64 s.full]
abbrev tabOb (f:Nat) (cl:Int) (v:Value):Obj:= .cells #[.int .i64 f,.int .i64 cl,v] 244 (0,0)
abbrev tdR (v:Value) (l:List Td):Res:=ownR 314 21 v l.length (l.flatMap tdC)
abbrev tabL (tb f:Nat) (cl:Int) (v:Value) (l:List Td):List Res:=[blk tb (tabOb f cl v),tdR v l]
abbrev mtV (z:Int×Int):Value:= .complex .f64 (FloatKind.f64.nearest z.1) (FloatKind.f64.nearest z.2)
def mtC (l:List (Int×Int)):List Value:=l.map mtV
abbrev mtB (g n k:Nat):Obj:= .cells #[slI g n k] 254 (0,0)
abbrev mtL (m g n k:Nat) (l:List (Int×Int)):List Res:=[blk m (mtB g n k),segR g 269 (mtC l)]
def pqC (q:Int×Pt):List Value:= .int .i64 q.1::zaj q.2
def bgC (q:Int×Mm):List Value:= .int .i64 q.1::(mmA q.2).toList
abbrev nrR (q:Nat×List Int):Res:=segR q.1 3 (intC q.2)
abbrev nrV (b:Nat):Value:=slI b 17 17
abbrev nrL (b:Nat) (bs:List Nat) (l:List (List Int)):List Res:=segR b 69 (bs.map nrV)::(bs.zip l).map nrR
abbrev ouL (v:Value) (os:List Sd):List Res:=[ownR 62 2 v os.length (os.flatMap sdC),sdsR os]
abbrev inL (b:Nat) (is:List Nat) (xs:List Ins):List Res:=segR b 142 (is.map ptrV)::xs.map instR
abbrev pqL (b:Nat) (ps:List (Int×Pt)):List Res:=[segR b 260 (ps.flatMap pqC),ptsR (ps.map Prod.snd)]
abbrev bqL (b:Nat) (ms:List (Int×Mm)):List Res:=[segR b 262 (ms.flatMap bgC),mmsR (ms.map Prod.snd)]
abbrev nsT (x:Np) (s:Ns) (v:Nv):List Res:=[
 blk x.t (clkO s.now (.slice none 0 0)),
 joinR (tabL x.tb s.c.f s.c.cl v.tv s.tab),
 joinR [blk x.vt (cvO s.c.f x.vg s.vo.length x.vk),cvR x.vg s.vo],
 joinR [blk x.gd (grO s.c.fl s.c.sh v.gv),plR v.gv s.gd],
 joinR (lgL v.lg),
 joinR (mtL x.mt x.mg s.mt.length x.mtk s.mt),
 joinR (inL x.ib x.is v.xs),
 joinR (pqL x.pt v.ps),
 joinR (bqL x.bg v.ms),
 joinR (nrL x.pr x.prs s.pre),
 joinR (nrL x.co x.cos s.com),
 joinR (ouL v.ov v.os)]
abbrev nsL (x:Np) (s:Ns) (v:Nv):List Res:=segR x.p 141 (nsC x s v.ov)::nsT x s v
abbrev nsR (x:Np) (s:Ns) (v:Nv):Res:=joinR (nsL x s v)
structure NvOk (x:Np) (s:Ns) (v:Nv):Prop where
 xs:v.xs.map Ins.st=s.ins
 is:v.xs.map Ins.i=x.is
 lg:v.lg.lp=s.bk
 lo:LgOk v.lg
 lp:v.lg.p=x.bk
 ps:v.ps.map (fun q=>(q.1,q.2.pa))=s.pts
 ms:v.ms.map (fun q=>(q.1,q.2.ms))=s.bg
 os:v.os.map Sd.p=s.out
 ov: ∃a k,v.ov= .slice a v.os.length k
 ic:s.c.f+1≤x.ic
 pk:3*s.c.f+1≤x.pk
 bgk:s.c.f+1≤x.bgk
 prk:s.c.f+1≤x.prk
 cok:s.c.f+1≤x.cok
 mtk:s.c.f+1≤x.mtk
 vk:3*s.c.f+1≤x.vk
 prs:x.prs.length=s.c.f+1
 cos:x.cos.length=s.c.f+1
structure PlSm (p:Pl):Prop where
 b:p.sl.batch.length≤4
 ct:p.ct.rs.length≤4
 dw:p.dw.rs.length≤4
 cs: ∀t∈p.sl.cs,t.batch.length≤4
structure InSm (st:In):Prop where
 b: ∀p∈st.l,PlSm p
structure InKeep (a b:In):Prop where
 f:b.f=a.f
 num:b.num=a.num
 ahead:b.ahead=a.ahead
 sm:InSm a→InSm b
 dn:a.l.countP (·.done)≤b.l.countP (·.done)
structure TabOk (cl:Int) (l:List Td):Prop where
 c: ∀t∈l,0≤t.r.client∧t.r.client<cl∧t.by_.length=13∧0≤t.since∧t.since≤1048576
 n: ∀c:Int,l.countP (fun t=>t.r.client==c)≤4
structure NsOk (s:Ns):Prop where
 c:CfOk s.c
 id0:0≤s.id
 id1:s.id≤3*s.c.f
 now0:0≤s.now
 now1:s.now≤1048576
 ins:s.ins.length=s.c.f+1
 insk: ∀(k:Nat) (h:k<s.ins.length),s.ins[k].f=s.c.f∧s.ins[k].num=k∧s.ins[k].ahead=s.c.ah∧InSm s.ins[k]
 tab:TabOk s.c.cl s.tab
 vo:s.vo.length=3*s.c.f+1
 gd: ∀q∈s.gd,0≤q.bad∧q.bad≤s.c.fl
 mt:s.mt.length=s.c.f+1
 mtn: ∀(k:Nat) (h:k<s.mt.length) (h2:k<s.ins.length),0≤s.mt[k].1∧s.mt[k].1≤4*(s.ins[k].l.countP (·.done):Nat)∧0≤s.mt[k].2∧s.mt[k].2≤1048576*s.mt[k].1
 pts:s.pts.length=3*s.c.f+1
 bg:s.bg.length=s.c.f+1
 pre:s.pre.length=s.c.f+1
 pre2: ∀l∈s.pre,l.length=17
 com:s.com.length=s.c.f+1
 com2: ∀l∈s.com,l.length=17
 bkc:s.bk.clients=s.c.cl
 bkn:s.bk.rp.length=s.c.cl.toNat
 bks:s.bk.st.length=64
 bkv:VsOk (s.bk.st.map Prod.snd)
 bke:(s.bk.es.length:Int)≤4*s.run
 run0:0≤s.run
 run1:s.run≤16
 view0:0≤s.view
 view1:s.view≤12
 voted0: -1≤s.voted
 voted1:s.voted≤12
 since0:0≤s.since
 since1:s.since≤1048576
 start0:0≤s.start
 start1:s.start≤1048576
 used0:0≤s.used
 bad0:0≤s.bad
 stale0:0≤s.stale
 shut0:0≤s.shut
 full0:0≤s.full
def NdIs (B:Nat) (w0 W:World) (x:Np) (s:Ns) (l:Nt) (ss:List Res):Prop:=
 NsOk s∧NtOk l∧ ∃v:Nv,NvOk x s v∧Own B w0 W (nsR x s v::blk x.nt (noB x.nm)::ntR x.nm l::ss)
section
variable {B:Nat} {w0 w W W':World} {ss rs:List Res} {x:Np} {s s':Ns} {l l':Nt}
theorem NdIs.ok (h:NdIs B w0 W x s l ss):NsOk s:=h.1
theorem NdIs.nok (h:NdIs B w0 W x s l ss):NtOk l:=h.2.1
theorem NdIs.upd0 (h:NdIs B w0 W x s l ss) (hu:Upd [] W W'):NdIs B w0 W' x s l ss:=let ⟨a,b,v,c,d⟩:=h;⟨a,b,v,c,d.upd0 hu⟩
theorem NdIs.alloc (h:NdIs B w0 W x s l ss) (o:Obj):NdIs B w0 (W.alloc o) x s l ss:=h.upd0 ((Upd.refl _ _).alloc o)
theorem NdIs.drew (h:NdIs B w0 W x s l ss):NdIs B w0 W.drew x s l ss:=h.upd0 (Upd.refl _ _).drew
theorem NdIs.drewN (h:NdIs B w0 W x s l ss) (n:Nat):NdIs B w0 (W.drewN n) x s l ss:=h.upd0 ((Upd.refl _ _).drewN n)
theorem NdIs.ntAt (h:NdIs B w0 W x s l ss):NtAt W x.nt x.nm l:=let ⟨_,_,_,_,d⟩:=h;nt_at d 1 2 rfl rfl
theorem NdIs.perm {ss':List Res} (h:NdIs B w0 W x s l ss) (hp:ss.Perm ss'):NdIs B w0 W x s l ss':=let ⟨a,b,v,c,d⟩:=h;⟨a,b,v,c,d.perm (((hp.cons _).cons _).cons _)⟩
theorem NdIs.drop {r:Res} (h:NdIs B w0 W x s l (r::ss)):NdIs B w0 W x s l ss:=let ⟨a,b,v,c,d⟩:=h;⟨a,b,v,c,d.dropAt 3 (by simp)⟩
theorem NdIs.box (h:NdIs B w0 W x s l ss) (o:Obj):NdIs B w0 (W.alloc o) x s l (blk W.heap.size o::ss):=let ⟨a,b,v,c,d⟩:=h;⟨a,b,v,c,(d.box o).back 3 (by simp) rfl⟩
theorem NdIs.size (h:NdIs B w0 W x s l ss):B≤W.heap.size:=let ⟨_,_,_,_,d⟩:=h;d.size
theorem NdIs.below (h:NdIs B w0 W x s l ss):Below B w0 W:=let ⟨_,_,_,_,d⟩:=h;d.below
theorem NdIs.side (h:NdIs B w0 W x s l ss): ∃r:Res,Own B w0 W (ss++[r])∧ ∀W' ss',Own B w0 W' (ss'++[r])→NdIs B w0 W' x s l ss':=by
 obtain ⟨a,b,v,c,d⟩:=h;have e: ∀l':List Res,(nsR x s v::blk x.nt (noB x.nm)::ntR x.nm l::l').Perm (l'++[nsR x s v,blk x.nt (noB x.nm),ntR x.nm l]):=fun l'=>(List.perm_append_comm (l₁:=[_,_,_]));refine ⟨joinR [nsR x s v,blk x.nt (noB x.nm),ntR x.nm l],?_,fun W' ss' h'=>⟨a,b,v,c,?_⟩⟩
 ·have h1:Own B w0 W (joinR [nsR x s v,blk x.nt (noB x.nm),ntR x.nm l]::ss):=Own.shut (rs:=[_,_,_]) d
  exact h1.perm (List.perm_append_comm (l₁:=[_]))
 ·exact Own.open (rs:=[_,_,_]) (h'.perm (List.perm_append_comm (l₂:=[_])))
theorem NdIs.sideN (h:NdIs B w0 W x s l ss): ∃r:Res,Own B w0 W (blk x.nt (noB x.nm)::ntR x.nm l::(ss++[r]))∧ ∀W' l' ss',NtOk l'→Own B w0 W' (blk x.nt (noB x.nm)::ntR x.nm l'::(ss'++[r]))→NdIs B w0 W' x s l' ss':=by
 obtain ⟨a,b,v,c,d⟩:=h;refine ⟨nsR x s v,d.perm (List.perm_append_comm (l₁:=[_])),fun W' l' ss' hl h'=>⟨a,hl,v,c,h'.perm (List.perm_append_comm (l₂:=[_]) (l₁:=_::_::ss'))⟩⟩
theorem NdIs.cell (h:NdIs B w0 W x s l ss) (i:Nat) {u:Value} (e:(nsC x s (.slice none 0 0))[i]?=some u) (hi:i≠34):W.cell? ⟨x.p,i,none⟩=some u:=by
 obtain ⟨a,b,v,c,d⟩:=h;refine (zdz (Own.open d) 0 rfl i (v:=u) ?_).1;rw [←e];by_cases h1:i<34
 ·rw [show nsC x s v.ov=(nsC x s v.ov).take 34++(nsC x s v.ov).drop 34 from (List.take_append_drop _ _).symm,List.getElem?_append_left (by simp;omega),show nsC x s (.slice none 0 0)=(nsC x s v.ov).take 34++(nsC x s (.slice none 0 0)).drop 34 from rfl,List.getElem?_append_left (by simp;omega)]
 ·rw [show nsC x s v.ov=(nsC x s v.ov).take 35++(nsC x s v.ov).drop 35 from (List.take_append_drop _ _).symm,List.getElem?_append_right (by simp;omega),show nsC x s (.slice none 0 0)=(nsC x s (.slice none 0 0)).take 35++(nsC x s v.ov).drop 35 from rfl,List.getElem?_append_right (by simp;omega)]
  rfl
theorem NdIs.fz (h:NdIs B w0 W x s l ss) (i:Nat):W.frozen? ⟨x.p,i,none⟩=false:=by
 obtain ⟨a,b,v,c,d⟩:=h;exact (zez (Own.open d).head).2.2 i
theorem NdIs.put (h:NdIs B w0 W x s l ss) (i:Nat) (u:Value) (hs: ∀v,(nsC x s v).set i u=nsC x s' v) (ok:NsOk s') (hv: ∀v,NvOk x s v→NvOk x s' v) (hl: ∀v,nsT x s v=nsT x s' v):NdIs B w0 (W.setCell ⟨x.p,i,none⟩ u) x s' l ss:=by
 obtain ⟨a,b,v,c,d⟩:=h;refine ⟨ok,b,v,hv v c,Own.shut ?_⟩;have h1:=(Own.open d).put i u;rw [hs] at h1;have e:=hl v;show Own B w0 _ (segR x.p 141 (nsC x s' v.ov)::(nsT x s' v++_));rw [←e];exact h1
theorem NdIs.lens (h:NdIs B w0 W x s l ss) (k:Nat) (hk0:0<k) (hk:k<13): ∃v rr,NvOk x s v∧Own B w0 W ((nsL x s v)[k]'(by simpa using hk)::(ss++rr))∧
  ∀W' s' v' ss' r',NsOk s'→NvOk x s' v'→nsL x s' v'=(nsL x s v).set k r'→Own B w0 W' (r'::(ss'++rr))→NdIs B w0 W' x s' l ss':=by
 obtain ⟨a,b,v,c,d⟩:=h;refine ⟨v,(nsL x s v).eraseIdx k++[blk x.nt (noB x.nm),ntR x.nm l],c,?_,fun W' s' v' ss' r' ok' c' e h'=>⟨ok',b,v',c',?_⟩⟩
 ·have h1:=Own.open d
  refine h1.perm ?_;refine ((zhj (nsL x s v) k (by simpa using hk)).append_right _).trans ?_;refine List.Perm.cons _ ?_;refine (List.Perm.append_left _ (List.perm_append_comm (l₁:=[_,_]))).trans ?_;refine List.perm_append_comm.trans ?_;rw [List.append_assoc];refine List.Perm.append_left _ ?_;exact List.perm_append_comm
 ·refine Own.shut ?_
  rw [e];refine h'.perm ?_;refine List.Perm.trans (List.Perm.cons _ ?_) ((zjj (nsL x s v) k (by simpa using hk) r').append_right _).symm;refine List.Perm.trans ?_ (List.Perm.append_left _ (List.perm_append_comm (l₂:=[_,_])));refine List.Perm.trans ?_ List.perm_append_comm;rw [List.append_assoc];refine List.Perm.append_left _ ?_;exact List.perm_append_comm
end
theorem zxb:FloatKind.f64.nearest 0=0:=by kernel_rfl
section
variable {B:Nat} {w0 w W W':World} {ss rs:List Res} {x:Np} {s s':Ns} {l l':Nt}
theorem NdIs.inst (h:NdIs B w0 W x s l ss) (k:Nat) (hk:k<s.ins.length): ∃i rr,x.is[k]?=some i∧AtI B w0 W i s.ins[k] (ss++rr)∧
  ∀W' st' ss',InKeep s.ins[k] st'→AtI B w0 W' i st' (ss'++rr)→NdIs B w0 W' x {s with ins:=s.ins.set k st'} l ss':=by
 obtain ⟨v,rr,c,d,g⟩:=h.lens 7 (by omega) (by omega);have hok:=h.ok;have hkx:k<v.xs.length:=by rw [←c.xs,List.length_map] at hk;exact hk
 have d1:Own B w0 W (joinR (inL x.ib x.is v.xs)::(ss++rr)):=d;have e1:Own B w0 W (instR v.xs[k]::([segR x.ib 142 (x.is.map ptrV)]++((v.xs.eraseIdx k).map instR++(ss++rr)))):=Own.pick (hd:=[segR x.ib 142 (x.is.map ptrV)]) (f:=instR) (l:=v.xs) (ss:=ss++rr) (Own.open (rs:=inL x.ib x.is v.xs) d1) k hkx;have hp: ∀l':List Res,([segR x.ib 142 (x.is.map ptrV)]++((v.xs.eraseIdx k).map instR++(l'++rr))).Perm (l'++(rr++([segR x.ib 142 (x.is.map ptrV)]++(v.xs.eraseIdx k).map instR))):=fun l'=>by
  have e1:[segR x.ib 142 (x.is.map ptrV)]++((v.xs.eraseIdx k).map instR++(l'++rr))=([segR x.ib 142 (x.is.map ptrV)]++(v.xs.eraseIdx k).map instR)++(l'++rr):=(List.append_assoc _ _ _).symm;have e2:l'++(rr++([segR x.ib 142 (x.is.map ptrV)]++(v.xs.eraseIdx k).map instR))=(l'++rr)++([segR x.ib 142 (x.is.map ptrV)]++(v.xs.eraseIdx k).map instR):=(List.append_assoc _ _ _).symm;rw [e1,e2];exact List.perm_append_comm
 have hst:v.xs[k].st=s.ins[k]:=by
  have:(v.xs.map Ins.st)[k]'(by simpa using hkx)=s.ins[k]:=by simp only [c.xs]
  simpa using this
 have hi:x.is[k]?=some v.xs[k].i:=by rw [←c.is];simp [hkx]
 refine ⟨v.xs[k].i,rr++([segR x.ib 142 (x.is.map ptrV)]++(v.xs.eraseIdx k).map instR),hi,⟨v.xs[k],rfl,hst,e1.perm ((hp ss).cons _)⟩,fun W' st' ss' kp ha=> ?_⟩;obtain ⟨y,y1,y2,y3⟩:=ha;have e2:=Own.unpick (hd:=[segR x.ib 142 (x.is.map ptrV)]) (ss:=ss'++rr) (l:=v.xs) k hkx (y3.perm ((hp ss').symm.cons _));refine g W' {s with ins:=s.ins.set k st'} {v with xs:=v.xs.set k y} ss' (joinR (inL x.ib x.is (v.xs.set k y))) {hok with ins:=by simpa using hok.ins,insk:= ?_,mtn:= ?_} {c with xs:= ?_,is:= ?_} rfl (Own.shut (rs:=inL x.ib x.is (v.xs.set k y)) e2)
 ·intro j hj
  simp only [List.length_set] at hj;simp only [List.getElem_set];have h9:=hok.insk j hj;split
  ·rename_i e;subst e;exact ⟨kp.f.trans h9.1,kp.num.trans h9.2.1,kp.ahead.trans h9.2.2.1,kp.sm h9.2.2.2⟩
  ·exact h9
 ·intro j hj hj2
  simp only [List.length_set] at hj2;simp only [List.getElem_set];obtain ⟨m1,m2,m3,m4⟩:=hok.mtn j hj hj2;refine ⟨m1,?_,m3,m4⟩;split
  ·rename_i e;subst e;have:=kp.dn;exact Int.le_trans m2 (by omega)
  ·exact m2
 ·rw [List.map_set,c.xs,y2]
 ·rw [List.map_set,c.is,y1]
  refine List.ext_getElem (by simp) (fun j h1 h2=> ?_);rw [List.getElem_set];split
  ·rename_i e;subst e;exact (List.getElem?_eq_some_iff.1 hi).2.symm
  ·rfl
theorem NdIs.instAt (h:NdIs B w0 W x s l ss) (k:Nat) {i:Nat} (hi:x.is[k]?=some i):W.cell? ⟨x.ib,k,none⟩=some (ptrV i):=by
 obtain ⟨v,rr,c,d,g⟩:=h.lens 7 (by omega) (by omega);exact (zdz (Own.open d) 0 rfl k (v:=ptrV i) (by rw [List.getElem?_map,hi];rfl)).1
theorem NdIs.isLen (h:NdIs B w0 W x s l ss):x.is.length=s.c.f+1:=by
 have hok:=h.ok.ins;obtain ⟨a,b,v,c,d⟩:=h;rw [←c.is,List.length_map,←hok,←c.xs,List.length_map]
theorem NdIs.iAt (h:NdIs B w0 W x s l ss) {k:Nat} (hk:k<s.c.f+1): ∃i,x.is[k]?=some i∧W.cell? ⟨x.ib,k,none⟩=some (ptrV i):=by
 have h1:k<x.is.length:=by rw [h.isLen];exact hk
 exact ⟨x.is[k],by simp [h1],h.instAt k (by simp [h1])⟩
theorem NdIs.caps (h:NdIs B w0 W x s l ss):s.c.f+1≤x.ic∧3*s.c.f+1≤x.pk∧s.c.f+1≤x.bgk∧s.c.f+1≤x.prk∧s.c.f+1≤x.cok∧s.c.f+1≤x.mtk∧3*s.c.f+1≤x.vk:=by
 obtain ⟨_,_,v,c,_⟩:=h;exact ⟨c.ic,c.pk,c.bgk,c.prk,c.cok,c.mtk,c.vk⟩
theorem zme (h:NdIs B w0 W x s l ss):Calls Tryz.prog 90 #[ptrV x.t] W fun e w'=>e= .returned (.int .i64 s.now)∧W=w':=by
 obtain ⟨v,rr,c,d,-⟩:=h.lens 1 (by omega) (by omega);exact now_any d.blk_out
theorem nd_tick (h:NdIs B w0 W x s l ss) (hn:s.now<1048576):Calls Tryz.prog 88 #[ptrV x.t] W fun e w'=>e= .returned (.bool true)∧NdIs B w0 w' x {s with now:=s.now+1} l ss:=by
 obtain ⟨v,rr,c,d,g⟩:=h.lens 1 (by omega) (by omega);have hok:=h.ok;have n0:=hok.now0;have c0:=zaa d.blk_out 0 rfl;have z0:=zab d.blk_out 0;have hI:decide ((1048576:Int)≤s.now)=false:=by simp;omega
 have HE:Hid (NdIs B w0 (W.setCell ⟨x.t,0,none⟩ (.int .i64 (s.now+1))) x {s with now:=s.now+1} l ss):=zq (g _ {s with now:=s.now+1} v ss _ {hok with now0:=by simp only;omega,now1:=by simp only;omega} {c with} rfl (d.store 0 _));generalize {s with now:=s.now+1}=s1 at*;clear hok g d h;go_enter Tryz.func88,Tryz.ntmps88
 go_wp2_with fail
 go_ret
 exact ⟨rfl,HE.out⟩
theorem NdIs.setVo (hok:NsOk s) {vo:List Vo} (h:vo.length=s.vo.length):NsOk {s with vo:=vo}:= {hok with vo:=h.trans hok.vo}
theorem nd_drop (h:NdIs B w0 W x s l ss) (below:Int):
  Calls Tryz.prog 226 #[ptrV x.vt,.int .i64 below] W fun e w'=> ∃n:Int,e= .returned (.int .i64 n)∧NdIs B w0 w' x {s with vo:=s.vo.map (dropV below)} l ss:=by
 obtain ⟨v,rr,c,d,g⟩:=h.lens 3 (by omega) (by omega);have hok:=h.ok;have hf:=hok.c.f2;have hl:=hok.vo;refine (zwp (below:=below) (Own.open d) (by have:=c.vk;omega) (by omega)).mono ?_;rintro e w' ⟨n,he,ho⟩;refine ⟨n,he,g _ _ v ss (joinR [blk x.vt (cvO s.c.f x.vg (s.vo.map (dropV below)).length x.vk),cvR x.vg (s.vo.map (dropV below))]) (NdIs.setVo hok (by simp)) {c with} rfl (Own.shut (rs:=[_,_]) ho)⟩
theorem nd_shut (h:NdIs B w0 W x s l ss) (src c:Int) (hg:s.gd.length≤1000):
  Calls Tryz.prog 97 #[ptrV x.gd,.int .i64 src,.int .i64 c] W fun e w'=>e= .returned (.bool (shutP s.gd src c))∧Upd [] W w':=by
 obtain ⟨v,rr,-,d,-⟩:=h.lens 4 (by omega) (by omega);exact shut_any src c (by omega) (Own.open d)
theorem nd_bad (h:NdIs B w0 W x s l ss) (src c:Int) (hg:s.gd.length≤1000) (hb: ∀q∈bumpP s.c.fl s.c.sh c src s.gd,0≤q.bad∧q.bad≤s.c.fl):
  Calls Tryz.prog 99 #[ptrV x.gd,.int .i64 src,.int .i64 c] W fun e w'=>(∃b,e= .returned (.bool b))∧NdIs B w0 w' x {s with gd:=bumpP s.c.fl s.c.sh c src s.gd} l ss:=by
 obtain ⟨v,rr,cc,d,g⟩:=h.lens 4 (by omega) (by omega);have hok:=h.ok;refine (zy0 src c hok.c.fl1 hok.c.fl2 hok.c.sh1 hok.c.sh2 hg hok.gd (Own.open d)).mono ?_;rintro e w' ⟨gv',rb,he,ho⟩;exact ⟨⟨rb,he⟩,g _ {s with gd:=bumpP s.c.fl s.c.sh c src s.gd} {v with gv:=gv'} ss _ {hok with gd:=hb} {cc with} rfl (Own.shut (rs:=[_,_]) ho)⟩
end
theorem InKeep.refl (a:In):InKeep a a:=⟨rfl,rfl,rfl,id,Nat.le_refl _⟩
theorem InKeep.trans {a b c:In} (h:InKeep a b) (g:InKeep b c):InKeep a c:=⟨g.f.trans h.f,g.num.trans h.num,g.ahead.trans h.ahead,fun x=>g.sm (h.sm x),Nat.le_trans h.dn g.dn⟩
theorem zf6 {α:Type} (p:α→Bool) (g:α→α) (hg: ∀a,p a=true→p (g a)=true): ∀(l:List α) (k:Nat),l.countP p≤(l.modify k g).countP p
 | [],k=>by simp
 | a::l,0=>by
  simp only [List.modify_zero_cons,List.countP_cons];cases h:p a with
  | true=>rw [hg a h];simp
  | false=>simp
 | a::l,k+1=>by
  simp only [List.modify_succ_cons,List.countP_cons];have:=zf6 p g hg l k;omega
theorem zl4 {a:In} {k:Nat} {g:Pl→Pl} (h1: ∀p,p.done=true→(g p).done=true) (h2: ∀p,PlSm p→PlSm (g p)):InKeep a (a.upd k g):=by
 refine ⟨rfl,rfl,rfl,fun h=>⟨fun p hp=> ?_⟩,zf6 _ _ h1 _ _⟩;have hp':p∈a.l.modify k g:=hp;obtain ⟨j,hj,rfl⟩:=List.getElem_of_mem hp';rw [List.getElem_modify];have hj':j<a.l.length:=by simpa using hj
 split
 ·exact h2 _ (h.b _ (List.getElem_mem hj'))
 ·exact h.b _ (List.getElem_mem hj')
theorem sm_at {a:In} {s:Int} {p:Pl} (h:InSm a) (e:plAt a s=some p):PlSm p:=by
 unfold plAt at e;cases hi:idx s with
 | none=>rw [hi] at e;simp at e
 | some k=>rw [hi] at e;exact h.b _ (List.mem_of_getElem? e)
theorem znp {a:In} {kind seq node sl:Int} {rs:List Rq} (hr:rs.length≤4):InKeep a (voteI a kind seq node sl rs):=by
 unfold voteI;split
 ·exact .refl a
 ·split
  ·refine zl4 (fun p h=>h) (fun p h=> ?_)
   unfold voteS;split
   ·split
    ·exact ⟨h.b,h.ct,h.dw,h.cs⟩
    ·refine ⟨h.b,h.ct,h.dw,fun t ht=> ?_⟩
     rcases List.mem_or_eq_of_mem_set ht with ht | rfl
     ·exact h.cs t ht
     ·exact hr
   ·exact h
  ·exact .refl a
theorem zsj {a:In} {seq:Int} {c:Cp} (h:InSm a) (e:prepI a seq=some c):c.rs.length≤4:=by
 unfold prepI at e;cases hp:plAt a seq with
 | none=>rw [hp] at e;simp at e
 | some p=>
  rw [hp] at e;simp only at e;split at e
  ·cases hs:zbo a.f p.sl with
   | none=>rw [hs] at e;simp at e
   | some vs=>rw [hs] at e;simp only [Option.map_some,Option.some.injEq] at e;subst e;exact (sm_at h hp).b
  ·simp at e
theorem zf8 {a:In} {seq:Int} (h:InSm a):InKeep a (zbi a seq):=by
 unfold zbi;split
 ·rename_i k c e1 e2
  refine zl4 (fun p h=>h) (fun p hp=>⟨hp.b,zsj h e2,hp.dw,hp.cs⟩)
 ·exact .refl a
theorem zqk {all:List Vt} {q:Nat}: ∀ {l:List Vt} {r:List Rq×Vs},(∀t∈l,t.batch.length≤4)→zax all q l=some r→r.1.length≤4
 | [],r,_,e=>by simp [zax] at e
 | t::l,r,h,e=>by
  unfold zax at e;split at e
  ·split at e
   ·simp only [Option.some.injEq] at e;subst e;exact h t (by simp)
   ·exact zqk (fun t ht=>h t (by simp [ht])) e
  ·exact zqk (fun t ht=>h t (by simp [ht])) e
theorem zw6 {a:In} {seq:Int} {c:Cp} (h:InSm a) (e:commI a seq=some c):c.rs.length≤4:=by
 unfold commI at e;cases hp:plAt a seq with
 | none=>rw [hp] at e;simp at e
 | some p=>
  rw [hp] at e;simp only at e;split at e
  ·simp at e
  ·cases hs:zaq a.f p.sl with
   | none=>rw [hs] at e;simp at e
   | some vs=>rw [hs] at e;simp only [Option.map_some,Option.some.injEq] at e;subst e;exact zqk (sm_at h hp).cs hs
theorem zg3 {a:In} {seq:Int} (h:InSm a):InKeep a (zbk a seq):=by
 unfold zbk;split
 ·rename_i k c e1 e2
  refine zl4 (fun p _=>rfl) (fun p hp=>⟨hp.b,hp.ct,zw6 h e2,hp.cs⟩)
 ·exact .refl a
theorem zqs (f:Nat): ∀t∈(zbc f).cs,t.batch.length≤4:=by
 intro t ht;have:=List.eq_of_mem_replicate ht;subst this;simp [noVt]
theorem zra (a:In) (v:Int):InKeep a (zev a v):=by
 unfold zev;split
 ·refine ⟨rfl,rfl,rfl,fun h=>⟨fun p hp=> ?_⟩,?_⟩
  ·obtain ⟨q,hq,rfl⟩:=List.mem_map.1 hp
   have:=h.b q hq;exact ⟨by simp [zbc],this.ct,this.dw,zqs _⟩
  ·simp only [List.countP_map];exact Nat.le_refl _
 ·exact .refl a
theorem zob: ∀(bs:List (List Rq)) (ps:List Pl),(∀b∈bs,b.length≤4)→(∀p∈ps,PlSm p)→ ∀p∈zb6 bs ps,PlSm p
 | [],ps,_,h,p,hp=>by
  have:zb6 [] ps=ps:=by unfold zb6;rfl
  rw [this] at hp;exact h p hp
 | b::bs,[],_,_,p,hp=>by simp [zb6] at hp
 | b::bs,q::ps,hb,h,p,hp=>by
  simp only [zb6,List.mem_cons] at hp;rcases hp with rfl | hp
  ·have hq:=h q (by simp)
   refine ⟨?_,hq.ct,hq.dw,?_⟩
   ·unfold slPre;dsimp only;split
    ·exact hq.b
    ·exact hb b (by simp)
   ·unfold slPre;dsimp only;split<;>exact hq.cs
  ·exact zob bs ps (fun b hb'=>hb b (by simp [hb'])) (fun p hp=>h p (by simp [hp])) p hp
theorem zij: ∀(bs:List (List Rq)) (ps:List Pl),(zb6 bs ps).countP (·.done)=ps.countP (·.done)
 | [],ps=>by
  have:zb6 [] ps=ps:=by unfold zb6;rfl
  rw [this]
 | b::bs,[]=>by simp [zb6]
 | b::bs,q::ps=>by simp only [zb6,List.countP_cons,zij bs ps]
theorem zg4 {a:In} {bs:List (List Rq)} (hb: ∀b∈bs,b.length≤4):InKeep a (zcc a bs):=by
 unfold zcc;split
 ·exact ⟨rfl,rfl,rfl,fun h=>⟨zob bs _ hb h.b⟩,by simp only;rw [zij];exact Nat.le_refl _⟩
 ·exact .refl a
theorem zne {a:In} (h:InSm a) (seq:Int):(zbj a seq).1.length≤4:=by
 unfold zbj;cases hp:plAt a seq with
 | none=>simp
 | some p=>
  simp only [zfb];split
  ·exact (sm_at h hp).b
  ·simp
theorem zlt {a:In} {seq:Int} {c:Cp} (h:InSm a) (e:zbl a seq=some c):c.rs.length≤4:=by
 unfold zbl at e;cases hp:plAt a seq with
 | none=>rw [hp] at e;simp at e
 | some p=>
  rw [hp] at e;simp only at e;split at e
  ·simp only [Option.some.injEq] at e;subst e;exact (sm_at h hp).dw
  ·simp at e
theorem new_sm (f:Nat) (num ahead:Int):InSm (newI f num ahead):=⟨fun p hp=>by
 have:=List.eq_of_mem_replicate hp;subst this;exact ⟨by simp [zbg,zbc],by simp [zbg,noCp],by simp [zbg,noCp],zqs f⟩⟩
theorem zly {α:Type} {g:α→List Value} {n:Nat} (hg: ∀a,(g a).length=n) (l:List α):(l.flatMap g).length=l.length*n:=zc9 (cells:=g) (sz:=n) hg l
section
variable {B:Nat} {w0 w W W':World} {ss rs:List Res} {x:Np} {s s':Ns} {l l':Nt}
theorem NdIs.part (h:NdIs B w0 W x s l ss) (k:Nat) (hk:k<s.pts.length): ∃q:Int×Pt,(q.1,q.2.pa)=s.pts[k]∧(∀j,j<5→W.cell? ⟨x.pt,k*5+j,none⟩=(pqC q)[j]?)∧(∀j,W.frozen? ⟨x.pt,j,none⟩=false)∧
  q.2.vs.length≤100000∧q.2.cts.length≤100000∧NdIs B w0 W x s l (redR q.2.vv 2 q.2.vs.length (zaf q.2.vs)::redR q.2.cv 5 q.2.cts.length (q.2.cts.flatMap zag)::ctsR q.2.cts::ss):=by
 have hok:=h.ok;obtain ⟨v,rr,c,d,g⟩:=h.lens 8 (by omega) (by omega);have hkx:k<v.ps.length:=by rw [←c.ps,List.length_map] at hk;exact hk
 have d1:=Own.open d;obtain ⟨-,q2,q3⟩:=zez d1.head;have hp:=zpp d1 1 rfl;have hm:=hp v.ps[k].2 (List.mem_map.2 ⟨v.ps[k],List.getElem_mem hkx,rfl⟩);refine ⟨v.ps[k],?_,fun j hj=> ?_,q3,hm.vn,hm.cn,g W s v (_::_::_::ss) _ hok c rfl (Own.shut (rs:=pqL x.pt v.ps) ?_)⟩
 ·have:(v.ps.map fun q=>(q.1,q.2.pa))[k]'(by simpa using hkx)=s.pts[k]:=by simp only [c.ps]
  simpa using this
 ·rw [q2 _ (by rw [zly (n:=5) (fun _=>rfl)];omega),zd4 pqC 5 (fun _=>rfl) v.ps k j hkx hj]
 ·have e1:Own B w0 W (ctsR v.ps[k].2.cts::_):=d1.mkCts hm.cs
  have e2:Own B w0 W (redR v.ps[k].2.cv 5 v.ps[k].2.cts.length (v.ps[k].2.cts.flatMap zag)::_):=e1.mkRed (by rw [zyy rfl];exact hm.c);have e3:Own B w0 W (redR v.ps[k].2.vv 2 v.ps[k].2.vs.length (zaf v.ps[k].2.vs)::_):=e2.mkRed (by rw [zyy rfl,zyy rfl];exact hm.v);exact e3.perm (List.perm_append_comm (l₁:=[_,_,_]) (l₂:=[_,_]) |>.append_right _)
theorem NdIs.putPart {p:Pt} (h:NdIs B w0 W x s l (redR p.vv 2 p.vs.length (zaf p.vs)::redR p.cv 5 p.cts.length (p.cts.flatMap zag)::ctsR p.cts::ss)) (k:Nat) (hk:k<s.pts.length) (u:Int) (h1:p.vs.length≤100000) (h2:p.cts.length≤100000):
  NdIs B w0 (((((W.setCell ⟨x.pt,k*5,none⟩ (.int .i64 u)).setCell ⟨x.pt,k*5+1,none⟩ (.int .i64 p.fm)).setCell ⟨x.pt,k*5+2,none⟩ p.vv).setCell ⟨x.pt,k*5+3,none⟩ p.cv).setCell ⟨x.pt,k*5+4,none⟩ (.int .i64 p.sl)) x {s with pts:=s.pts.set k (u,p.pa)} l ss:=by
 have hok:=h.ok;obtain ⟨v,rr,c,d,g⟩:=h.lens 8 (by omega) (by omega);have hkx:k<v.ps.length:=by rw [←c.ps,List.length_map] at hk;exact hk
 have d1:Own B w0 W (segR x.pt 260 (v.ps.flatMap pqC)::ptsR (v.ps.map Prod.snd)::redR p.vv 2 p.vs.length (zaf p.vs)::redR p.cv 5 p.cts.length (p.cts.flatMap zag)::ctsR p.cts::(ss++rr)):=Own.open d;have hp:=zpp d1 1 rfl;have hn:PtIn W p (Fr W _):=⟨d1.redFr 2 rfl,h1,d1.redFr 3 rfl,h2,zkd d1 4 rfl⟩;have d2:Own B w0 W (ptsR ((v.ps.set k (u,p)).map Prod.snd)::_):=d1.mkPts (fun q hq=>by
  rw [List.map_set] at hq;rcases List.mem_or_eq_of_mem_set hq with hq | rfl
  ·exact hp q hq
  ·exact hn)
 have d3:Own B w0 W (segR x.pt 260 (v.ps.flatMap pqC)::ptsR ((v.ps.set k (u,p)).map Prod.snd)::(ss++rr)):=((((d2.dropAt 2 (by simp)).dropAt 2 (by simp)).dropAt 2 (by simp)).dropAt 2 (by simp)).swap;have e:=d3.put (k*5+0) (.int .i64 u);have e:=e.put (k*5+1) (.int .i64 p.fm);have e:=e.put (k*5+2) p.vv;have e:=e.put (k*5+3) p.cv;have e:=e.put (k*5+4) (.int .i64 p.sl);have q:(((((v.ps.flatMap pqC).set (k*5+0) (.int .i64 u)).set (k*5+1) (.int .i64 p.fm)).set (k*5+2) p.vv).set (k*5+3) p.cv).set (k*5+4) (.int .i64 p.sl)=(v.ps.set k (u,p)).flatMap pqC:=by
  refine List.ext_getElem? (fun j=> ?_);have hlen:(v.ps.flatMap pqC).length=v.ps.length*5:=zly (n:=5) (fun _=>rfl) _;by_cases hj:j<v.ps.length*5
  ·obtain ⟨a,b,rfl,hb⟩: ∃a b,j=a*5+b∧b<5:=⟨j/5,j%5,by omega,by omega⟩
   have ha:a<v.ps.length:=by omega
   rw [zd4 pqC 5 (fun _=>rfl) (v.ps.set k (u,p)) a b (by simpa using ha) hb,List.getElem_set];simp only [List.getElem?_set,List.length_set,hlen];by_cases hak:k=a
   ·subst hak
    rcases (by omega:b=0∨b=1∨b=2∨b=3∨b=4) with rfl | rfl | rfl | rfl | rfl<;>simp [hj,hkx,pqC,zaj]
   ·have n0:k*5+0≠a*5+b:=by omega
    have n1:k*5+1≠a*5+b:=by omega
    have n2:k*5+2≠a*5+b:=by omega
    have n3:k*5+3≠a*5+b:=by omega
    have n4:k*5+4≠a*5+b:=by omega
    rw [if_neg n4,if_neg n3,if_neg n2,if_neg n1,if_neg n0,if_neg hak,zd4 pqC 5 (fun _=>rfl) v.ps a b ha hb]
  ·rw [List.getElem?_eq_none (by simp only [List.length_set,hlen];omega),List.getElem?_eq_none (by rw [zly (n:=5) (fun _=>rfl),List.length_set];omega)]
 rw [q] at e;refine g _ {s with pts:=s.pts.set k (u,p.pa)} {v with ps:=v.ps.set k (u,p)} ss (joinR (pqL x.pt (v.ps.set k (u,p)))) {hok with pts:=by simpa using hok.pts} {c with ps:= ?_} rfl (Own.shut (rs:=pqL x.pt (v.ps.set k (u,p))) e);rw [List.map_set,c.ps]
theorem NdIs.outs (h:NdIs B w0 W x s l ss): ∃v rr,NvOk x s v∧Own B w0 W (segR x.p 141 (nsC x s v.ov)::ownR 62 2 v.ov v.os.length (v.os.flatMap sdC)::sdsR v.os::(ss++rr))∧
  ∀W' ov' os' ss',(∃a k,ov'= .slice a os'.length k)→Own B w0 W' (segR x.p 141 (nsC x s ov')::ownR 62 2 ov' os'.length (os'.flatMap sdC)::sdsR os'::(ss'++rr))→NdIs B w0 W' x {s with out:=os'.map Sd.p} l ss':=by
 obtain ⟨a,b,v,c,d⟩:=h;have d1:Own B w0 W (nsL x s v++(blk x.nt (noB x.nm)::ntR x.nm l::ss)):=Own.open d;have hq: ∀(r1 r2:Res) (m ll:List Res),((r1::(m++[r2]))++([blk x.nt (noB x.nm),ntR x.nm l]++ll)).Perm (r2::(r1::(ll++(m++[blk x.nt (noB x.nm),ntR x.nm l])))):=fun r1 r2 m ll=>by
  have e1:(r1::(m++[r2]))++([blk x.nt (noB x.nm),ntR x.nm l]++ll)=(r1::m)++(r2::([blk x.nt (noB x.nm),ntR x.nm l]++ll)):=by simp
  have e2:ll++(m++[blk x.nt (noB x.nm),ntR x.nm l])=(ll++m)++[blk x.nt (noB x.nm),ntR x.nm l]:=(List.append_assoc _ _ _).symm;rw [e1,e2];refine List.perm_middle.trans (List.Perm.cons _ (List.Perm.cons _ ?_));refine (List.perm_append_comm_assoc m [blk x.nt (noB x.nm),ntR x.nm l] ll).trans ?_;exact List.perm_append_comm.trans (List.perm_append_comm.append_right _)
 refine ⟨v,((nsL x s v).drop 1).take 11++[blk x.nt (noB x.nm),ntR x.nm l],c,?_,fun W' ov' os' ss' hov h'=>⟨{a with},b,{v with ov:=ov',os:=os'},{c with os:=rfl,ov:=hov},?_⟩⟩
 ·have d2:Own B w0 W (joinR (ouL v.ov v.os)::(segR x.p 141 (nsC x s v.ov)::(ss++(((nsL x s v).drop 1).take 11++[blk x.nt (noB x.nm),ntR x.nm l])))):=d1.perm (hq (segR x.p 141 (nsC x s v.ov)) (joinR (ouL v.ov v.os)) (((nsL x s v).drop 1).take 11) ss)
  exact (Own.open d2).rot
 ·refine Own.shut (rs:=nsL x {s with out:=os'.map Sd.p} {v with ov:=ov',os:=os'}) ?_
  have d2:Own B w0 W' (joinR (ouL ov' os')::(segR x.p 141 (nsC x s ov')::(ss'++(((nsL x s v).drop 1).take 11++[blk x.nt (noB x.nm),ntR x.nm l])))):=Own.shut (rs:=ouL ov' os') h'.rot';exact d2.perm (hq (segR x.p 141 (nsC x s ov')) (joinR (ouL ov' os')) (((nsL x s v).drop 1).take 11) ss').symm
end
def tabK (l:List Td) (r:Rq):Nat:=(l.takeWhile fun t=>decide (cmpRq t.r r<0)).length
def newTd (r:Rq):Td:=⟨r,List.replicate 13 false,false,0⟩
def byLen (t:Td):Nat:=t.by_.countP id
def zf2 (l:List Td) (r:Rq):Option Int:=match l[tabK l r]? with
 | some t=>if t.r=r∧t.ready then some t.since else none
 | none=>none
def zs7 (l:List Td):List Rq:=(l.filter (·.ready)).map (·.r)
def zs6 (l:List Td) (client time:Int):List Td:=l.filter fun t=>decide (t.r.client≠client) || decide (time<t.r.time)
abbrev NSt:=Ns×Nt
def zas (n:Nat) (id:Int):List Int:=((List.range n).map fun (k:Nat)=>(k:Int)).filter (fun k=>decide (k≠id))
def zfp (m:Ms) (i:Int):Ms:= {m with fm:=i}
def sendS (p:NSt) (m:Ms):NSt:=match sealP p.2 (zfp m p.1.id) with
 | (none,l')=>(p.1,l')
 | (some b,l')=>({p.1 with out:=p.1.out++(zas (3*p.1.c.f+1) p.1.id).map fun k=>(k,b)},l')
def sendB (p:NSt) (m:Ms):Bool:=(sealP p.2 (zfp m p.1.id)).1.isSome
def sendN (p:NSt) (m:Ms):Int:=if sendB p m then msS p.2 (zfp m p.1.id) else 0
def repM (id client time res:Int):Ms:=⟨10,id,0,client,time,res,[],[],[],[]⟩
def replyS (p:NSt) (client time res:Int):NSt:=match sealP p.2 (repM p.1.id client time res) with
 | (none,l')=>(p.1,l')
 | (some b,l')=>({p.1 with out:=p.1.out++[(100+client,b)]},l')
def noIn:In:=⟨1,0,1,0,false,[]⟩
def insAt (s:Ns) (k:Nat):In:=s.ins.getD k noIn
def zbn (s:Ns) (k:Nat) (st:In):Ns:= {s with ins:=s.ins.set k st}
def balM' (kind view k seq:Int) (rs:List Rq):Ms:=⟨kind,0,view,k,seq,0,rs,[],[],[]⟩
def zcw (kind:Int) (k:Nat) (seq:Int) (rs:List Rq) (p:NSt):NSt:=
 let m:=balM' kind p.1.view k seq rs
 let q:=sendS p m
 (zbn q.1 k (voteI (insAt q.1 k) kind seq q.1.id (sendN p m) rs),q.2)
def zyz (k:Nat) (t:Int) (s:Ns):Ns:=if 0≤t∧t≤1048576 then {s with mt:=s.mt.modify k fun z=>(z.1+1,z.2+t)} else s
def zl1 (k:Nat) (s:Ns) (r:Rq):Ns:=match zf2 s.tab r with
 | some t=>zyz k (s.now-t) s
 | none=>s
def zq2 (k:Nat) (s:Ns) (rs:List Rq):Ns:=rs.foldl (zl1 k) s
def zbr (st:List (Bool×Int)) (r:Rq):Int×List (Bool×Int):=
 if r.key<0∨64≤r.key∨r.val≤ -2147483648∨2147483648≤r.val then (0,st) else
 let was:=(st.getD r.key.toNat (false,0)).2
 if r.kind=1 then (was,st.set r.key.toNat (true,r.val)) else
 if r.kind=2 then (was,st) else
 if r.kind=3 then (if¬(-2147483648<was+r.val∧was+r.val<2147483648) then (was,st) else (was+r.val,st.set r.key.toNat (true,was+r.val))) else
 if r.kind=4 then (was,st.set r.key.toNat (false,0)) else
 if r.kind=5 then ((st.map Prod.snd).sum,st) else (0,st)
def lastL (b:Lp) (c:Int):Int:=if 0≤c∧c<b.rp.length then (b.rp.getD c.toNat (0,0)).1 else 0
def stepL (b:Lp) (r:Rq):Lp×List En:=
 if r.client<0∨b.clients≤r.client∨r.time≤lastL b r.client then (b,[]) else
 let a:=zbr b.st r
 ({b with st:=a.2,rp:=b.rp.set r.client.toNat (r.time,a.1)},[⟨r,a.1⟩])
def zgi (b:Lp) (rs:List Rq):Lp×List En:=rs.foldl (fun q r=>((stepL q.1 r).1,q.2++(stepL q.1 r).2)) (b,[])
def runL (b:Lp) (rs:List Rq):Lp×List En:=let q:=zgi b rs;({q.1 with es:=b.es++q.2},q.2)
def zh1 (q:NSt) (e:En):NSt:=let q':=replyS q e.rq.client e.rq.time e.res;({q'.1 with tab:=zs6 q'.1.tab e.rq.client e.rq.time},q'.2)
def zhr (p:NSt):NSt:=
 let s:Ns:= {p.1 with run:=p.1.run+1}
 let r:=runL s.bk ((zbl (insAt s 0) s.run).getD noCp).rs
 r.2.foldl zh1 ({s with bk:=r.1},p.2)
def runGo:Nat→NSt→NSt
 | 0,p=>p
 | n+1,p=>if p.1.run<doneI (insAt p.1 0) then runGo n (zhr p) else p
def doneS (k:Nat) (rs:List Rq) (p:NSt):NSt:=
 let s:=zq2 k p.1 rs
 if k≠0 then (s,p.2) else
 let q:=runGo 16 (s,p.2)
 if 16≤q.1.run then ({q.1 with stop:=true},q.2) else q
def setRow (l:List (List Int)) (k j:Nat) (v:Int):List (List Int):=l.modify k fun r=>r.set j v
def lookS (k:Nat) (seq:Int) (p:NSt):NSt:=
 let p1:NSt:=match prepI (insAt p.1 k) seq with
  | some c=>zcw 5 k seq c.rs ({zbn p.1 k (zbi (insAt p.1 k) seq) with com:=setRow p.1.com k seq.toNat (p.1.view+1)},p.2)
  | none=>p
 match commI (insAt p1.1 k) seq with
 | some c=>doneS k c.rs (zbn p1.1 k (zbk (insAt p1.1 k) seq),p1.2)
 | none=>p1
def zd3 (k:Nat) (seq:Int) (p:NSt):NSt:=lookS k seq (zcw 4 k seq (zbj (insAt p.1 k) seq).1 p)
def za4 (ps:List Pa):List Cp:=ps.flatMap (·.cs)
def zi5 (inst:Int) (ps:List Pa):Int:=(za4 ps).foldl (fun n c=>if c.inst=inst∧c.seq≤16 then max n c.seq else n) 0
def bestP (inst seq:Int) (ps:List Pa):Option Cp:=(za4 ps).foldl (fun b c=>if c.inst=inst∧c.seq=seq∧(∀d,b=some d→d.view<c.view) then some c else b) none
def za8 (inst:Int) (ps:List Pa):List (List Rq):=(List.range (zi5 inst ps).toNat).map fun (j:Nat)=>((bestP inst ((j:Int)+1) ps).getD noCp).rs
def ze2 (k:Nat) (ps:List Pa) (p:NSt):NSt:=
 let bs:=za8 k ps
 let q:=(List.range bs.length).foldl (fun q (j:Nat)=>zd3 k ((j:Int)+1) q) (zbn p.1 k (zcc (insAt p.1 k) bs),p.2)
 if k=0 then ({q.1 with since:=q.1.now,start:=q.1.now},q.2) else q
def lowP (s:Ns):List Pa:=((s.pts.filter fun q=>decide (0<s.view)&&decide (q.1=s.view)).map Prod.snd).take (2*s.c.f+1)
def nvM (id view k:Int) (ps:List Pa):Ms:=⟨8,id,view,k,0,0,[],[],[],ps⟩
def zgx (p:NSt) (k:Nat):NSt:=
 if (insAt p.1 k).on || !decide (zan p.1.c.f p.1.view k=p.1.id) || !decide ((lowP p.1).length=2*p.1.c.f+1) then p else
 let m:=nvM p.1.id p.1.view k (lowP p.1)
 ze2 k (lowP p.1) (sendS ({p.1 with bg:=p.1.bg.set k (p.1.view,m)},p.2) m)
def zlq (p:NSt):NSt:=(List.range (p.1.c.f+1)).foldl zgx p
def za9 (s:Ns):List Cp:=s.ins.flatMap ziy
def vcM (id view:Int) (vs:Vs) (cs:List Cp):Ms:=⟨7,id,view,0,0,0,[],vs,cs,[]⟩
def gone (w:Int) (s:Ns):Ns:= {s with view:=w,ins:=s.ins.map (zev · w),since:=s.now,start:=s.now,mt:=s.mt.map fun _=>(0,0),vo:=s.vo.map (dropV w)}
def moveS (w:Int) (vs:Vs) (p:NSt):NSt:=
 let s:=gone w p.1
 let m:=vcM s.id w vs (za9 s)
 let q:=sendS (s,p.2) m
 zlq ({q.1 with pts:=q.1.pts.set s.id.toNat (w,⟨s.id,vs,za9 s,sendN (s,p.2) m⟩)},q.2)
def noPa:Pa:=⟨0,[],[],0⟩
def zjc (m:Ms) (p:NSt):Int×NSt:=
 if m.ps.any fun a=> !ze0 p.2 m.view a p.1.c.f p.1.c.cl then (3,p) else
 if m.view<p.1.view∨(m.view=p.1.view∧(insAt p.1 m.inst.toNat).on) then (1,p) else
 let p1:=if p.1.view<m.view then moveS m.view (m.ps.headD noPa).vs p else p
 (0,if (insAt p1.1 m.inst.toNat).on then p1 else ze2 m.inst.toNat m.ps p1)
def zlu (src:Int) (q:Int×NSt):NSt:=
 let s:=q.2.1
 (if q.1=0 then {s with used:=s.used+1} else if q.1=1 then {s with stale:=s.stale+1} else if q.1=2 then {s with full:=s.full+1} else
  {s with gd:=bumpP s.c.fl s.c.sh s.now src s.gd,bad:=s.bad+1},q.2.2)
def rowAt (l:List (List Int)) (k j:Nat):Int:=(l.getD k []).getD j 0
def slotOne (k:Nat) (p:NSt) (j:Nat):NSt:=
 let seq:Int:=j+1
 let i:=insAt p.1 k
 if !(zbj i seq).2 || (zbl i seq).isSome then p else
 let b:=(zbj i seq).1
 let p1:=if decide (zan p.1.c.f p.1.view k=p.1.id)&&decide (rowAt p.1.pre k (j+1)=p.1.view+1) then sendS p (balM' 3 p.1.view k seq b) else p
 let p2:=sendS p1 (balM' 4 p.1.view k seq b)
 if rowAt p.1.com k (j+1)=p.1.view+1 then sendS p2 (balM' 5 p.1.view k seq b) else p2
def slotsS (p:NSt) (k:Nat):NSt:=if (insAt p.1 k).on then (List.range 16).foldl (slotOne k) p else p
def zv1 (s:Ns):Ns:= {s with mt:=s.mt.map fun _=>(0,0)}
theorem zv6 (l:Nt) (p:Int) (b:Bys):sealL (sealL l p b) p b=sealL l p b:=by
 have h:=zer l p b;generalize sealL l p b=l2 at*;unfold sealL;rw [if_pos h]
section
variable {B:Nat} {w0 w W W':World} {ss rs:List Res} {x:Np} {s s':Ns} {l l':Nt}
theorem zvc {m:Mm} {b:Bys} (h:NdIs B w0 W x s l (mmR m ss)) (hm:MmOk m) (hb:bodyP m.ms=some b) (hfm:m.fm=s.id) (hn:l.length≤1000000000):
  Calls Tryz.prog 219 #[ptrV x.p,.agg (mmA m)] W fun e w'=>e= .returned (.int .i64 (sealN l s.id b))∧NdIs B w0 w' x s (sealL l s.id b) (mmR m ss):=by
 have hok:=h.ok;have hid0:=hok.id0;have hid1:=hok.id1;have hf2:=hok.c.f2;have hsk:SOk (s.id,b):=hfm ▸ zd9 hb (by show _≤m.fm;rw [hfm];omega) (by show m.fm≤_;rw [hfm];omega);have h7:NdIs B w0 (W.alloc (mmO m)) x s l (mmR m (blk W.heap.size (mmO m)::ss)):=(h.box (mmO m)).perm ((List.perm_append_comm (l₁:=[_]) (l₂:=[_,_,_,_,_,_])).append_right ss);obtain ⟨r,hs,hback⟩:=h7.side;have HB:=zq (zlr (ss:=blk W.heap.size (mmO m)::(ss++[r])) hs hm);rw [hb] at HB;have HK:=zq hback;have hb0:(W.alloc (mmO m)).heap[W.heap.size]?=some (mmO m):=heap_alloc_new W _;have HS:=zq hsk;clear hok hback h7 hm hb hid0 hid1 hf2 hsk hfm;obtain ⟨kind,fm,view,inst,seq,res,vb,rs,vv,vs,vc,cts,vp,pts⟩:=m;obtain ⟨a1,c1,rfl⟩: ∃a c,vb= .slice a rs.length c:=let ⟨a,c,e,_⟩:=zad (k:=5) hs rfl;⟨a,c,e⟩;obtain ⟨a2,c2,rfl⟩: ∃a c,vv= .slice a vs.length c:=let ⟨a,c,e,_⟩:=zad (k:=4) hs rfl;⟨a,c,e⟩;obtain ⟨a3,c3,rfl⟩: ∃a c,vc= .slice a cts.length c:=let ⟨a,c,e,_⟩:=zad (k:=2) hs rfl;⟨a,c,e⟩;obtain ⟨a4,c4,rfl⟩: ∃a c,vp= .slice a pts.length c:=let ⟨a,c,e,_⟩:=zad (k:=0) hs rfl;⟨a,c,e⟩;clear hs h;go_enter Tryz.func219,Tryz.ntmps219
 go_wp2_with fail
 refine HB.out.mono ?_;rintro e w1 ⟨v1,rfl,h2⟩;simp only [bysO,Option.getD_some] at h2;have h3:=HK.out w1 (bysR v1 b::mmR ⟨kind,fm,view,inst,seq,res,.slice a1 rs.length c1,rs,.slice a2 vs.length c2,vs,.slice a3 cts.length c3,cts,.slice a4 pts.length c4,pts⟩ (blk W.heap.size (mmO ⟨kind,fm,view,inst,seq,res,.slice a1 rs.length c1,rs,.slice a2 vs.length c2,vs,.slice a3 cts.length c3,cts,.slice a4 pts.length c4,pts⟩)::ss)) h2;obtain ⟨r2,h4,hk2⟩:=h3.drew.sideN;have HY:Byt w1.drew v1 b:=⟨zao (k:=2) h4 rfl,HS.out.b⟩;have c15:=h3.drew.cell 15 rfl (by decide);have c16:=h3.drew.cell 16 rfl (by decide);have HSE:=zq (zmx h4 h3.nok HS.out HY hn);have HK2:=zq hk2;have HN3:=zq h3.nok;obtain ⟨ao,cap,rfl,-,-⟩:=zcl HY;clear h2 h3 h4 HY hk2 HB HK hb0;simp only [Option.isSome_some]
 go_upto_region 2 with fail
 refine Mix.wp_text2 (by kernel_rfl) (by kernel_rfl) ?_
 go_wp2_with fail
 refine HSE.out.mono ?_;rintro e w2 ⟨rfl,h5⟩;have HF:=zq ((HK2.out w2 (sealL l s.id b) _ (ze5 HN3.out HS.out) h5).drop);clear h5 HK2 HSE
 go_wp2_with fail
 refine ⟨by rfl,?_⟩
 go_wp2_with fail
 go_ret
 refine ⟨rfl,(HF.out.perm ((List.perm_append_comm (l₁:=[_,_,_,_,_,_]) (l₂:=[_])).append_right ss)).drop⟩
end
end Go.Proofs.YtannckelmojkoaaGreat
