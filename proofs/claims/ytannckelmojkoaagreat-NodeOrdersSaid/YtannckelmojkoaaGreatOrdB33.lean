/- Parts of the proof, one behind the other. -/
import Derived.Test.YtannckelmojkoaaGreatOrdB32
set_option maxHeartbeats 32000000
set_option maxRecDepth 100000
set_option linter.unusedVariables false
set_option linter.unusedSimpArgs false
namespace Go.Proofs.YtannckelmojkoaaGreat
open Go.RowKit Go.Heap
abbrev ks4 (f id:Nat):List Int:=List.replicate (zh6 f id) 4
abbrev ks5 (f id:Nat):List Int:=List.replicate (zh6 f id) 5
def St1 (f id:Nat) (r:Rq) (k i:Nat) (u:Int) (s:Ns) (l:Nt):Prop:=
 (k<2*f∧ ∃hp:Nat→Bool,(∀j,i≤j→j≠id→hp j=false)∧OrN f id r (k+1) hp 0 (fun _=>false) (ks4 f id) u s l)∨
 (k=2*f∧ ∃hp:Nat→Bool,OrN f id r (2*f+1) hp 1 (hAdd (fun _=>false) id) (ks4 f id++ks5 f id) u s l)
def St2 (f id:Nat) (r:Rq) (k i:Nat) (u:Int) (s:Ns) (l:Nt):Prop:=
 (k<2*f∧ ∃hp hc:Nat→Bool,(∀j,i≤j→j≠id→hc j=false)∧OrN f id r (2*f+1) hp (k+1) hc (ks4 f id++ks5 f id) u s l)∨
 (k=2*f∧OrF f id r (ks4 f id++ks5 f id++[10]) u s l)
section
variable {f id i k np nc:Nat} {hp hc:Nat→Bool} {r:Rq} {s s':Ns} {l l':Nt} {u:Int} {ks:List Int}
theorem St1.skip (h:St1 f id r k i u s l):St1 f id r k (i+1) u s l:=by
 rcases h with ⟨h1,hp,h2,h3⟩ | h
 ·exact .inl ⟨h1,hp,fun j hj hne=>h2 j (by omega) hne,h3⟩
 ·exact .inr h
theorem St2.skip (h:St2 f id r k i u s l):St2 f id r k (i+1) u s l:=by
 rcases h with ⟨h1,hp,hc,h2,h3⟩ | h
 ·exact .inl ⟨h1,hp,hc,fun j hj hne=>h2 j (by omega) hne,h3⟩
 ·exact .inr h
theorem St1.two (hf:1≤f) (h:St1 f id r (2*f) i u s l):St2 f id r 0 0 u s l:=by
 rcases h with ⟨h1,-⟩ | ⟨-,hp,h2⟩
 ·omega
 ·refine .inl ⟨by omega,hp,_,fun j _ hne=> ?_,h2⟩
  unfold hAdd
  rw [if_neg hne]
structure OrOk (f id:Nat) (u:Int) (s:Ns):Prop where
 c:s.c=stdC f
 id:s.id=(id:Int)
 st:s.stop=false
 gd:s.gd=[]
 u:s.used=u
 bad:s.bad=0
 sl:s.stale=0
 fu:s.full=0
theorem OrN.ok (h:OrN f id r np hp nc hc ks u s l):OrOk f id u s∧s.out.length=ks.length∧OutK l f s.out ks∧s.bk.es=[]:=by
 obtain ⟨p,com,out,rfl,hP,hO⟩:=h
 exact ⟨⟨rfl,rfl,rfl,rfl,rfl,rfl,rfl,rfl⟩,hO.n,hO,rfl⟩
theorem OrF.ok (h:OrF f id r ks u s l):OrOk f id u s∧s.out.length=ks.length∧OutK l f s.out ks∧ ∃e,s.bk.es=[e]∧e.rq=r:=by
 obtain ⟨p,com,bk,out,e,rfl,hd,he,hr,hO⟩:=h
 exact ⟨⟨rfl,rfl,rfl,rfl,rfl,rfl,rfl,rfl⟩,hO.n,hO,e,he,hr⟩
theorem OrN.use (h:OrN f id r np hp nc hc ks u s l):OrN f id r np hp nc hc ks (u+1) {s with used:=s.used+1} l:=by
 obtain ⟨p,com,out,rfl,hP,hO⟩:=h
 exact ⟨p,com,out,rfl,hP,hO⟩
theorem OrF.use (h:OrF f id r ks u s l):OrF f id r ks (u+1) {s with used:=s.used+1} l:=by
 obtain ⟨p,com,bk,out,e,rfl,hd,he,hr,hO⟩:=h
 exact ⟨p,com,bk,out,e,rfl,hd,he,hr,hO⟩
theorem OrN.px (h:OrN f id r np hp nc hc ks u s l) (hx:Px l l'):OrN f id r np hp nc hc ks u s l':=by
 obtain ⟨p,com,out,rfl,hP,hO⟩:=h
 exact ⟨p,com,out,rfl,hP,hO.px hx⟩
theorem zmo (f id:Nat):zh6 f id≤3*f+1:=by
 unfold zh6 za1
 refine Nat.le_trans (List.length_filter_le _ _) ?_
 simp
theorem zq7 (h: ∀j,i≤j→j≠id→hp j=false): ∀j,i+1≤j→j≠id→hAdd hp i j=false:=fun j hj hne=>by
 unfold hAdd
 rw [if_neg (by omega)]
 exact h j (by omega) hne
end
section
variable {B:Nat} {w0 w W W':World} {ss rs:List Res} {x:Np} {s s':Ns} {l l':Nt} {rn:Nat} {vp vb:Value} {vt:Rn} {f i id k:Nat} {r:Rq} {u:Int}
theorem zxg (h:NdIs B w0 W x s l (mmR (balW 4 0 0 1 vb [r] (i:Int)) (rnR rn vp vt l ss))) (hS:St1 f id r k i u s l) (hk:k<2*f) (hne:i≠id) (hi:i≤3*f) (hf1:1≤f) (hf2:f≤4) (hid:id≤3*f) (hq:RqGood 2 r) (hb:zbh l 2 2 [r]=true) (hn:l.length≤1000) (hu:u≤1000):
  Calls Tryz.prog 23 #[ptrV x.p,.agg (twA x.nt rn),.agg (mmA (balW 4 0 0 1 vb [r] (i:Int)))] W fun e w'=>e= .returned (.tuple #[])∧ ∃s' l' vp' vt',St1 f id r (k+1) (i+1) (u+1) s' l'∧zbh l' 2 2 [r]=true∧l'.length≤l.length+2∧NdIs B w0 w' x s' l' (mmR (balW 4 0 0 1 vb [r] (i:Int)) (rnR rn vp' vt' l' ss)):=by
 rcases hS with ⟨-,hp,hh,hO⟩ | ⟨h1,-⟩
 ·have hp1:=zk1 l (i:Int) (balB 4 r i)
  have hl1:=(zd4 l (i:Int) (balB 4 r i)).2
  have hb1:=hp1.batch hb
  have hO1:=hO.px hp1
  have hok:=hO.ok
  have hot:=zmo f id
  have hol:s.out.length≤1000:=by rw [hok.2.1];simp;omega
  have h0:=hh i (Nat.le_refl _) hne
  by_cases hl:k+1=2*f
  ·rw [hl] at hO1
   obtain ⟨s',l',e1,e2,e3,e4⟩:=zv0 (i:=i) (sl:=sealN l (i:Int) (balB 4 r i)) hO1 hq hf1 hf2 hid hi h0 hb1 (by omega)
   have hok':=e2.ok.1
   refine (zi6 h hok.1.c hf1 hf2 hok.1.st hok.1.gd hq (.inl rfl) hi (by omega) (by omega) e1 e3 (by rw [hok'.gd];simp) (by rw [hok'.u];omega) (by rw [hok'.bad];omega) (by rw [hok'.sl];omega) (by rw [hok'.fu];omega)).mono ?_
   rintro e w' ⟨he,vp',vt',h5⟩
   exact ⟨he,_,l',vp',vt',.inr ⟨hl,_,e2.use⟩,e3.batch hb1,by omega,h5⟩
  ·obtain ⟨s',e1,e2⟩:=prep_few (i:=i) (sl:=sealN l (i:Int) (balB 4 r i)) hO1 hi h0 (by omega) (by omega) hb1
   have hok':=e2.ok.1
   refine (zi6 h hok.1.c hf1 hf2 hok.1.st hok.1.gd hq (.inl rfl) hi (by omega) (by omega) e1 (.refl _) (by rw [hok'.gd];simp) (by rw [hok'.u];omega) (by rw [hok'.bad];omega) (by rw [hok'.sl];omega) (by rw [hok'.fu];omega)).mono ?_
   rintro e w' ⟨he,vp',vt',h5⟩
   exact ⟨he,_,_,vp',vt',.inl ⟨by omega,_,zq7 hh,e2.use⟩,hb1,by omega,h5⟩
 ·omega
theorem give_p2 (h:NdIs B w0 W x s l (mmR (balW 5 0 0 1 vb [r] (i:Int)) (rnR rn vp vt l ss))) (hS:St2 f id r k i u s l) (hk:k<2*f) (hne:i≠id) (hi:i≤3*f) (hf1:1≤f) (hf2:f≤4) (hid:id≤3*f) (hq:RqGood 2 r) (hcl:r.client=1) (htm:0<r.time) (hb:zbh l 2 2 [r]=true) (hn:l.length≤1000) (hu:u≤1000):
  Calls Tryz.prog 23 #[ptrV x.p,.agg (twA x.nt rn),.agg (mmA (balW 5 0 0 1 vb [r] (i:Int)))] W fun e w'=>e= .returned (.tuple #[])∧ ∃s' l' vp' vt',St2 f id r (k+1) (i+1) (u+1) s' l'∧zbh l' 2 2 [r]=true∧l'.length≤l.length+2∧NdIs B w0 w' x s' l' (mmR (balW 5 0 0 1 vb [r] (i:Int)) (rnR rn vp' vt' l' ss)):=by
 rcases hS with ⟨-,hp,hc,hh,hO⟩ | ⟨h1,-⟩
 ·have hp1:=zk1 l (i:Int) (balB 5 r i)
  have hl1:=(zd4 l (i:Int) (balB 5 r i)).2
  have hb1:=hp1.batch hb
  have hO1:=hO.px hp1
  have hok:=hO.ok
  have hot:=zmo f id
  have hol:s.out.length≤1000:=by rw [hok.2.1];simp;omega
  have h0:=hh i (Nat.le_refl _) hne
  by_cases hl:k+1=2*f
  ·rw [hl] at hO1
   obtain ⟨s',l',e1,e2,e3,e4⟩:=zua (i:=i) (sl:=sealN l (i:Int) (balB 5 r i)) hO1 hq hcl htm hf2 hid hi h0 hb1 (by omega)
   have hok':=e2.ok.1
   refine (zi6 h hok.1.c hf1 hf2 hok.1.st hok.1.gd hq (.inr rfl) hi (by omega) (by omega) e1 e3 (by rw [hok'.gd];simp) (by rw [hok'.u];omega) (by rw [hok'.bad];omega) (by rw [hok'.sl];omega) (by rw [hok'.fu];omega)).mono ?_
   rintro e w' ⟨he,vp',vt',h5⟩
   exact ⟨he,_,l',vp',vt',.inr ⟨hl,e2.use⟩,e3.batch hb1,by omega,h5⟩
  ·obtain ⟨s',e1,e2⟩:=zyk (i:=i) (sl:=sealN l (i:Int) (balB 5 r i)) hO1 hi h0 (by omega) hb1
   have hok':=e2.ok.1
   refine (zi6 h hok.1.c hf1 hf2 hok.1.st hok.1.gd hq (.inr rfl) hi (by omega) (by omega) e1 (.refl _) (by rw [hok'.gd];simp) (by rw [hok'.u];omega) (by rw [hok'.bad];omega) (by rw [hok'.sl];omega) (by rw [hok'.fu];omega)).mono ?_
   rintro e w' ⟨he,vp',vt',h5⟩
   exact ⟨he,_,_,vp',vt',.inl ⟨by omega,_,_,zq7 hh,e2.use⟩,hb1,by omega,h5⟩
 ·omega
end
section
variable {B:Nat} {w0 w W W':World} {ss rs:List Res} {x:Np} {s s':Ns} {l l':Nt} {rn:Nat} {vp vb:Value} {vt:Rn} {f id:Nat} {r:Rq}
theorem give_p0 (h:NdIs B w0 W x (newS (stdC f) (id:Int)) l (mmR (balW 3 0 0 1 vb [r] 0) (rnR rn vp vt l ss))) (hf1:1≤f) (hf2:f≤4) (hid:id≤3*f) (hq:RqGood 2 r) (hb:zbh l 2 2 [r]=true) (hn:l.length≤900):
  Calls Tryz.prog 23 #[ptrV x.p,.agg (twA x.nt rn),.agg (mmA (balW 3 0 0 1 vb [r] 0))] W fun e w'=>e= .returned (.tuple #[])∧ ∃s' l' vp' vt',St1 f id r 0 0 1 s' l'∧zbh l' 2 2 [r]=true∧l'.length≤l.length+2∧NdIs B w0 w' x s' l' (mmR (balW 3 0 0 1 vb [r] 0) (rnR rn vp' vt' l' ss)):=by
 have hbd:=zlv (kind:=3) (k:=0) hq.w (by omega) (by omega) (by omega) (by omega)
 have hp1:=zk1 l 0 (balB 3 r 0)
 have hl1:=(zd4 l 0 (balB 3 r 0)).2
 have hb1:=hp1.batch hb
 obtain ⟨s',l',e1,e2,e3,e4⟩:=pre_or (l:=sealL l 0 (balB 3 r 0)) hq hf1 hf2 hid hb1 (by omega)
 have hok':=e2.ok.1
 have key:=zno (m:=balW 3 0 0 1 vb [r] 0) (b:=balB 3 r 0) (v:=0) (p:=(s',l')) h ⟨by simp,by simp,by simp,by simp⟩ (by omega) (by show (0:Int)≤0;omega) (by show (0:Int)≤100;omega) hbd (zp7 _ _ _ _ _ _) (by show formP f 2 (crtM 3 0 0 1 [r] 0)=true;exact zlw hq.ok (.inl rfl) (by omega) (by omega) (fun _=>rfl)) rfl rfl (fun mm hmm=>by
  have e5:mm.kind=3:=congrArg Ms.kind hmm
  have e6:mm.inst=0:=congrArg Ms.inst hmm
  have e7:mm.rs=[r]:=congrArg Ms.rs hmm
  refine zvg e5 (fun W2 ss2 h2=> ?_)
  have h3:=zzz h2 (by rw [e6];omega) (by rw [e6];omega) (by rw [e7];simp) (by show (sealL l 0 (balB 3 r 0)).length≤_;omega) (by show ([]:List (Int×Bys)).length≤_;simp)
  rw [hmm] at h3
  have h4:zcj (balW 3 0 0 1 vb [r] 0).ms (newS (stdC f) (id:Int),sealL l 0 (balB 3 r 0))=(0,(s',l')):=e1
  rw [show (balW 3 0 0 1 vb [r] 0).fm=(0:Int) from rfl] at h3
  rw [h4] at h3
  exact h3) (.inl rfl) (by rw [hok'.gd];simp) (by rw [hok'.u];omega) (by rw [hok'.bad];omega) (by rw [hok'.sl];omega) (by rw [hok'.fu];omega)
 refine key.mono ?_
 rintro e w' ⟨he,vp',vt',h5⟩
 have h6:=(h5.perm (ss':=rnR rn vp' vt' (sealL l 0 (balB 3 r 0)) (mmR (balW 3 0 0 1 vb [r] 0) ss)) ((List.perm_append_comm (l₁:=[_,_,_,_,_,_]) (l₂:=[_,_,_])).append_right ss)).more e3
 refine ⟨he,{s' with used:=s'.used+1},l',vp',vt',.inl ⟨by omega,_,fun j _ hne=> ?_,e2.use⟩,e3.batch hb1,by omega,h6.perm ((List.perm_append_comm (l₁:=[_,_,_]) (l₂:=[_,_,_,_,_,_])).append_right ss)⟩
 unfold hAdd
 rw [if_neg hne]
end
section
variable {B:Nat} {w0 w W W':World} {ss rs:List Res} {x:Np} {s s':Ns} {l l':Nt} {rn:Nat} {vp:Value} {vt:Rn} {f id k e6 e11 e12 e16:Nat} {r:Rq} {u:Int} {ab:Option Addr} {cb:Nat}
abbrev orL (x:Np) (rn e6 e11 e12 e16:Nat) (id:Nat) (kd fm:Int) (ab:Option Addr) (cb:Nat) (r:Rq) (ss:List Res):List Res:=
 blk e16 (mmO (balW kd 0 0 1 (.slice ab 1 cb) [r] fm))::blk e6 (.cells #[.int .i64 id] 3 (0,0))::blk e11 (.cells #[ptrV x.p] 24 (0,0))::blk e12 (twO x.nt rn)::ss
abbrev orR (x:Np) (rn:Nat) (vp:Value) (vt:Rn) (l:Nt) (e6 e11 e12 e16:Nat) (id:Nat) (kd fm:Int) (ab:Option Addr) (cb:Nat) (r:Rq) (ss:List Res):List Res:=
 mmR (balW kd 0 0 1 (.slice ab 1 cb) [r] fm) (rnR rn vp vt l (orL x rn e6 e11 e12 e16 id kd fm ab cb r ss))
theorem zhg {kd fm:Int} (h:NdIs B w0 W x s l (orR x rn vp vt l e6 e11 e12 e16 id kd fm ab cb r ss)): ∃rr,Own B w0 W (orR x rn vp vt l e6 e11 e12 e16 id kd fm ab cb r ss++[rr]):=let ⟨rr,hs,_⟩:=h.side;⟨rr,hs⟩
theorem zz5 {kd fm kd' fm':Int} (h:NdIs B w0 W x s l (orR x rn vp vt l e6 e11 e12 e16 id kd fm ab cb r ss)):NdIs B w0 ((W.setCell ⟨e16,0,none⟩ (.int .i64 kd')).setCell ⟨e16,1,none⟩ (.int .i64 fm')) x s l (orR x rn vp vt l e6 e11 e12 e16 id kd' fm' ab cb r ss):=by
 obtain ⟨rr,hs,hk⟩:=h.side
 have h1:=hs.front 9 rfl rfl
 have h2:=(h1.store 0 (.int .i64 kd')).store 1 (.int .i64 fm')
 have h3:=h2.perm ((List.perm_append_comm (l₁:=[_]) (l₂:=[_,_,_,_,_,_,_,_,_])).append_right _)
 exact hk _ _ h3
theorem zfy {kind kd fm u0:Int} {n:Nat} {St:Nat→Nat→Int→Ns→Nt→Prop} (hskip: ∀k i u s l,St k i u s l→St k (i+1) u s l)
  (hgive: ∀(w:World) (i k:Nat) (u:Int) (s:Ns) (l:Nt) (vp:Value) (vt:Rn) (ss:List Res),NdIs B w0 w x s l (mmR (balW kind 0 0 1 (.slice ab 1 cb) [r] (i:Int)) (rnR rn vp vt l ss))→St k i u s l→k<2*f→i≠id→i≤3*f→zbh l 2 2 [r]=true→l.length≤1000→u≤1000→
   Calls Tryz.prog 23 #[ptrV x.p,.agg (twA x.nt rn),.agg (mmA (balW kind 0 0 1 (.slice ab 1 cb) [r] (i:Int)))] w fun e w'=>e= .returned (.tuple #[])∧ ∃s' l' vp' vt',St (k+1) (i+1) (u+1) s' l'∧zbh l' 2 2 [r]=true∧l'.length≤l.length+2∧NdIs B w0 w' x s' l' (mmR (balW kind 0 0 1 (.slice ab 1 cb) [r] (i:Int)) (rnR rn vp' vt' l' ss)))
  (h:NdIs B w0 W x s l (orR x rn vp vt l e6 e11 e12 e16 id kd fm ab cb r ss)) (hS:St 0 0 u0 s l) (hn:n≤2*f) (hf1:1≤f) (hf2:f≤4) (hid:id≤3*f) (hb:zbh l 2 2 [r]=true) (hl:l.length≤500) (hu:u0≤500):
  Calls Tryz.prog 54 #[.int .i64 kind,.int .i64 n,ptrV e6,ptrV e16,ptrV e11,ptrV e12] W fun e w'=>e= .returned (.tuple #[])∧ ∃(s':Ns) (l':Nt) (vp':Value) (vt':Rn) (kd' fm':Int) (i:Nat),St n i (u0+n) s' l'∧zbh l' 2 2 [r]=true∧l'.length≤l.length+2*n∧NdIs B w0 w' x s' l' (orR x rn vp' vt' l' e6 e11 e12 e16 id kd' fm' ab cb r ss):=by
 have H:=Lib.hid h
 have HS:=Lib.hid hS
 have HB:=Lib.hid hb
 have HSK:=Lib.hid hskip
 have HG:=Lib.hid hgive
 obtain ⟨ll,hll⟩: ∃ll,ll=l.length:=⟨_,rfl⟩
 have HLL:Hid (l.length≤ll):=Lib.hid (by omega)
 rw [←hll] at hl⊢
 clear h hS hb hskip hgive hll
 go_enter Tryz.func54,Tryz.ntmps54
 go_wp2_with fail
 go_loopw [8,9] (fun iv kv wr=> ∃(i k:Nat) (s':Ns) (l':Nt) (vp':Value) (vt':Rn) (kd' fm':Int),iv= .int .i64 i∧kv= .int .i64 k∧k≤n∧i≤k+1∧(k<i→i=k+1→id<i)∧Hid (St k i (u0+k) s' l')∧Hid (zbh l' 2 2 [r]=true)∧Hid (l'.length≤ll+2*k)∧Hid (NdIs B w0 wr x s' l' (orR x rn vp' vt' l' e6 e11 e12 e16 id kd' fm' ab cb r ss))) (fun iv _ _=>20-(intOf iv).toNat)
 case atStart=>exact ⟨0,0,s,l,vp,vt,kd,fm,rfl,rfl,by omega,by omega,by omega,Lib.hid (by simpa using HS.out),HB,Lib.hid (by have:=HLL.out;omega),H⟩
 case round=>
  clear H HS HB HLL
  obtain ⟨i,k,s1,l1,vp1,vt1,kd1,fm1,rfl,rfl,hkn,hik,hid2,HS,HB,HLL,H⟩:=hrel
  have HID:=Lib.hid hid2
  clear hid2
  by_cases hlt:k<n
  ·have hkI:(k:Int)<(n:Int):=by omega
   have hi9:(i:Int)≤100:=by omega
   have hi0:(0:Int)≤(i:Int):=by omega
   have hk9:(k:Int)≤100:=by omega
   have hk0:(0:Int)≤(k:Int):=by omega
   obtain ⟨rr,hr⟩:=zhg H.out
   have c6:=zaa (hr.blkAt 10 rfl) 0 rfl
   by_cases hne:i=id
   ·subst hne
    have HS2:=Lib.hid (HSK.out _ _ _ _ _ HS.out)
    clear hr HS
    go_wp2_with fail
    go_roundw
    case rel=>exact ⟨i+1,k,s1,l1,vp1,vt1,kd1,fm1,by go_num,rfl,by omega,(by
     have:=HID.out
     omega),by omega,HS2,HB,HLL,H⟩
    case measure=>simp [intOf];omega
   ·have hneI:decide ((i:Int)=(id:Int))=false:=by simp;omega
    have hneB:((i:Int)==(id:Int))=false:=by simp;omega
    have b16:=hr.blkAt 9 rfl
    have d0:=zaa b16 0 rfl
    have d1:=zaa b16 1 rfl
    have z:=zac b16
    have z0:=z 0
    have z1:=z 1
    have h2:=zz5 (kd':=kind) (fm':=(i:Int)) H.out
    have H2:=Lib.hid h2
    clear b16 z H hr
    obtain ⟨w9,hw9⟩: ∃w9,w9=(wr.setCell ⟨e16,0,none⟩ (.int .i64 kind)).setCell ⟨e16,1,none⟩ (.int .i64 (i:Int)):=⟨_,rfl⟩
    rw [←hw9] at H2
    go_upto_region 5 with fail
    rw [←hw9]
    clear c6 d0 d1 z0 z1 hw9 h2
    obtain ⟨rr,hr⟩:=zhg H2.out
    have b16:=hr.blkAt 9 rfl
    have d0:=zaa b16 0 rfl
    have d1:=zaa b16 1 rfl
    have d2:=zaa b16 2 rfl
    have d3:=zaa b16 3 rfl
    have d4:=zaa b16 4 rfl
    have d5:=zaa b16 5 rfl
    have d6:=zaa b16 6 rfl
    have d7:=zaa b16 7 rfl
    have d8:=zaa b16 8 rfl
    have d9:=zaa b16 9 rfl
    have c11:=zaa (hr.blkAt 11 rfl) 0 rfl
    have t0:=zaa (hr.blkAt 12 rfl) 0 rfl
    have t1:=zaa (hr.blkAt 12 rfl) 1 rfl
    have HX:=Lib.hid (HG.out w9 i k (u0+k) s1 l1 vp1 vt1 _ H2.out HS.out (by omega) hne (by omega) HB.out (by have:=HLL.out;omega) (by omega))
    clear b16 hr H2 HS HB
    go_wp2_with fail
    with_reducible refine HX.out.mono ?_
    rintro e w10 ⟨rfl,s2,l2,vp2,vt2,hS2,hb2,hl2,h2⟩
    have HS2:=Lib.hid hS2
    have HB2:=Lib.hid hb2
    have HL2:=Lib.hid hl2
    have H2:=Lib.hid h2
    clear hS2 hb2 hl2 h2 HX d0 d1 d2 d3 d4 d5 d6 d7 d8 d9 c11 t0 t1
    go_wp2_with fail
    go_roundw
    case rel=>exact ⟨i+1,k+1,s2,l2,vp2,vt2,kind,(i:Int),by go_num,by go_num,by omega,by omega,(by have:=HID.out;omega),Lib.hid (by have:=HS2.out;rw [show u0+((k+1:Nat):Int)=u0+(k:Int)+1 by omega];exact this),HB2,Lib.hid (by have:=HL2.out;have:=HLL.out;omega),H2⟩
    case measure=>simp [intOf];omega
  ·have hkI:decide ((k:Int)<(n:Int))=false:=by simp;omega
   obtain rfl:k=n:=by omega
   go_wp2_with fail
   refine bodyPost_end (v:= .tuple #[]) (by simp [results,Tryz.results54,go_sem]) rfl ⟨rfl,s1,l1,vp1,vt1,kd1,fm1,i,HS.out,HB.out,HLL.out,H.out⟩
end
theorem rqSL_ok {l:Nt} {r:Rq} (h:NtOk l):NtOk (rqSL l r):=by
 unfold rqSL
 split
 ·rename_i hw;exact zhy h (rqX_ok hw)
 ·exact h
theorem zp8 {l:Nt} {r:Rq} (h:rqSealed l 2 r=true):zbh l 2 2 [r]=true:=by
 unfold zbh
 rw [Bool.and_eq_true,decide_eq_true_eq]
 refine ⟨by simp,zc8 (fun k hk=> ?_)⟩
 obtain rfl:k=0:=by simpa using hk
 unfold zfa
 simp [reqAt,h]
section
variable {B:Nat} {w0 w W W':World} {ss rs:List Res} {x:Np} {s s':Ns} {l l':Nt} {rn:Nat} {vp:Value} {vt:Rn}
theorem nd_req (r:Rq) (h:NdIs B w0 W x s l (rnR rn vp vt l ss)) (hn:l.length≤1000000000):
  Calls Tryz.prog 42 #[.agg (twA x.nt rn),rqAgg r] W fun e w'=>e= .returned (rqAgg (rqS l r))∧ ∃vp' vt',NdIs B w0 w' x s (rqSL l r) (rnR rn vp' vt' (rqSL l r) ss):=by
 obtain ⟨rr,hs,hk⟩:=h.sideN
 refine (zwr r (ss:=ss++[rr]) hs h.nok hn).mono ?_
 rintro e w' ⟨he,vp',vt',h2⟩
 exact ⟨he,vp',vt',hk w' (rqSL l r) (rnR rn vp' vt' (rqSL l r) ss) (rqSL_ok h.nok) h2⟩
theorem zvr (h:Own B w0 W rs) (r:Rq):Own B w0 (W.alloc (rqO r)) (mmR (balW 0 0 0 1 (.slice (some ⟨W.heap.size,0,none⟩) 1 1) [r] 0) rs):=by
 have h0:=h.alloc (rqO r)
 have hbk:(W.alloc (rqO r)).heap[W.heap.size]?=some (rqO r):=heap_alloc_new W (rqO r)
 have h1:Own B w0 (W.alloc (rqO r)) (redR (.slice (some ⟨W.heap.size,0,none⟩) 1 1) 6 1 ([r].flatMap za8)::rs):=h0.red ⟨_,_,rfl,by omega,by unfold maxLen;omega,rfl,(fun e=>by cases e),fun _=>⟨W.heap.size,0,rfl,by simp,fun j hj=>by
  rw [Nat.zero_add,zab (heap_alloc_new W (rqO r))]
  simp [za8]⟩⟩ (fun k hk hm=>by
  simp [blkIf,blkOf] at hk
  subst hk
  exact h.fresh (Nat.le_refl _) hm)
 have h2:Own B w0 (W.alloc (rqO r)) (redR (.slice none 0 0) 2 0 []::_):=zdn 2 h1
 have h3:Own B w0 (W.alloc (rqO r)) (ctsR []::_):=h2.mkCts (by simp)
 have h4:=zdn 5 h3
 have h5:Own B w0 (W.alloc (rqO r)) (ptsR []::_):=h4.mkPts (by simp)
 exact zdn 4 h5
end
theorem zny (id:Nat): ∀n,(za1 n (id:Int)).length=if id<n then n-1 else n
 | 0=>by simp [za1]
 | n+1=>by
  have ih:=zny id n
  have e:za1 (n+1) (id:Int)=za1 n id++if n=id then [] else [(n:Int)]:=by
   unfold za1
   rw [List.range_succ,List.map_append,List.filter_append]
   congr 1
   by_cases h:n=id
   ·subst h;simp
   ·have: ¬(n:Int)=(id:Int):=by omega
    simp [h,this]
  rw [e,List.length_append,ih]
  by_cases h:n=id
  ·subst h;simp
  ·rw [if_neg h]
   simp only [List.length_singleton]
   split<;>split<;>omega
theorem zmn {f id:Nat} (h:id≤3*f):zh6 f id=3*f:=by
 unfold zh6
 rw [zny,if_pos (by omega)]
 omega
theorem zfw: ∀(a b c:List Int),zc7 (a++b) c=zc7 b (zc7 a c)
 | [],_,_=>rfl
 | k::a,b,c=>by
  show zc7 (a++b) (c.set k.toNat (c.getD k.toNat 0+1))=zc7 b (zc7 a (c.set k.toNat (c.getD k.toNat 0+1)))
  exact zfw a b _
theorem zfx (k:Nat): ∀(n:Nat) (c:List Int),k<c.length→zc7 (List.replicate n (k:Int)) c=c.set k (c.getD k 0+n)
 | 0,c,h=>by
  rw [List.getD_eq_getElem?_getD,List.getElem?_eq_getElem h]
  simp [zc7]
 | n+1,c,h=>by
  rw [List.replicate_succ]
  unfold zc7
  rw [Int.toNat_natCast,zfx k n _ (by simpa using h),List.set_set]
  congr 1
  rw [List.getD_eq_getElem?_getD,List.getElem?_eq_getElem (by simpa using h)]
  simp
  omega
abbrev endK (f id:Nat) (a b:Bool):List Int:=ks4 f id++((if a then ks5 f id else [])++if b then [10] else [])
theorem zu0 {f id:Nat} (h:id≤3*f) (a b:Bool):zuy (endK f id a b)=[0,0,0,0,3*(f:Int),if a then 3*(f:Int) else 0,0,0,0,0,if b then 1 else 0]:=by
 unfold zuy
 rw [zfw,zfw]
 have e4:=zfx 4 (zh6 f id) (List.replicate 11 0) (by simp)
 rw [show ((4:Nat):Int)=4 from rfl] at e4
 rw [e4,zmn h]
 have e1:(List.replicate 11 (0:Int)).set 4 ((List.replicate 11 (0:Int)).getD 4 0+((3*f:Nat):Int))=[0,0,0,0,3*(f:Int),0,0,0,0,0,0]:=by
  show [0,0,0,0,0+((3*f:Nat):Int),0,0,0,0,0,0]=_
  have:0+((3*f:Nat):Int)=3*(f:Int):=by omega
  rw [this]
 rw [e1]
 have e5:=zfx 5 (zh6 f id) [0,0,0,0,3*(f:Int),0,0,0,0,0,0] (by simp)
 rw [show ((5:Nat):Int)=5 from rfl,zmn h] at e5
 have e6:([0,0,0,0,3*(f:Int),0,0,0,0,0,0]:List Int).set 5 (([0,0,0,0,3*(f:Int),0,0,0,0,0,0]:List Int).getD 5 0+((3*f:Nat):Int))=[0,0,0,0,3*(f:Int),3*(f:Int),0,0,0,0,0]:=by
  show [0,0,0,0,3*(f:Int),0+((3*f:Nat):Int),0,0,0,0,0]=_
  have:0+((3*f:Nat):Int)=3*(f:Int):=by omega
  rw [this]
 rw [e6] at e5
 cases a with
 | true=>
  rw [if_pos rfl,if_pos rfl,show ks5 f id=List.replicate (3*f) 5 by unfold ks5;rw [zmn h],e5]
  cases b<;>rfl
 | false=>cases b<;>rfl
structure OrE (f id:Nat) (r:Rq) (a b:Bool) (s:Ns) (l:Nt):Prop where
 c:s.c=stdC f
 out:OutK l f s.out (endK f id a b)
 es: ∃es:List En,s.bk.es=es∧es.map En.rq=if b then [r] else []
 cm:cmtN s 16=if b then 1 else 0
section
variable {f id np nc k i:Nat} {hp hc:Nat→Bool} {r:Rq} {s:Ns} {l:Nt} {u:Int} {ks:List Int} {p:Pl} {com:List (List Int)} {bk:Lp} {out:List (Int×Bys)} {n:Int}
theorem zyj:cmtN (orS f id p com n bk out u) 16=if p.done then 1 else 0:=by
 have e: ∀j:Nat,1≤j→zap (ordI f 4 p) ((j:Int)+1)=none:=fun j hj=>by
  unfold zap
  cases hq:plAt (ordI f 4 p) ((j:Int)+1) with
  | none=>rfl
  | some q=>
   have hq2:q=zbf f:=by
    unfold plAt at hq
    cases hi:idx ((j:Int)+1) with
    | none=>rw [hi] at hq;simp at hq
    | some k=>
     rw [hi] at hq
     have:=zkh hi
     obtain rfl:k=j:=by omega
     obtain ⟨k',rfl⟩: ∃k',k=k'+1:=⟨k-1,by omega⟩
     have h2:(List.replicate 15 (zbf f))[k']?=some q:=hq
     rw [List.getElem?_replicate] at h2
     split at h2
     ·exact (Option.some.inj h2).symm
     ·cases h2
   subst hq2
   rfl
 unfold cmtN
 rw [show List.range 16=0::(List.range 15).map (· +1) from rfl,List.countP_cons]
 have e0:((List.range 15).map (· +1)).countP (fun (j:Nat)=>(zap (insAt (orS f id p com n bk out u) 0) ((j:Int)+1)).isSome)=0:=by
  rw [List.countP_eq_zero]
  intro j hj
  simp only [List.mem_map,List.mem_range] at hj
  obtain ⟨j',-,rfl⟩:=hj
  rw [or_at,e (j'+1) (by omega)]
  simp
 rw [e0,or_at]
 have e2:=zfi (f:=f) (ah:=4) (p:=p)
 have e3:zap (ordI f 4 p) (((0:Nat):Int)+1)=if p.done then some p.dw else none:=e2
 rw [e3]
 cases p.done<;>rfl
theorem OrN.e (h:OrN f id r np hp nc hc (ks4 f id) u s l):OrE f id r false false s l:=by
 obtain ⟨p,com,out,rfl,hP,hO⟩:=h
 exact ⟨rfl,(by show OutK l f out (ks4 f id++([]++[]));rw [List.append_nil,List.append_nil];exact hO),⟨[],rfl,rfl⟩,by rw [zyj,hP.done]⟩
theorem OrN.e5 (h:OrN f id r np hp nc hc (ks4 f id++ks5 f id) u s l):OrE f id r true false s l:=by
 obtain ⟨p,com,out,rfl,hP,hO⟩:=h
 exact ⟨rfl,(by show OutK l f out (ks4 f id++(ks5 f id++[]));rw [List.append_nil];exact hO),⟨[],rfl,rfl⟩,by rw [zyj,hP.done]⟩
theorem OrF.e (h:OrF f id r (ks4 f id++ks5 f id++[10]) u s l):OrE f id r true true s l:=by
 obtain ⟨p,com,bk,out,e,rfl,hd,he,hr,hO⟩:=h
 exact ⟨rfl,(by show OutK l f out (ks4 f id++(ks5 f id++[10]));rw [←List.append_assoc];exact hO),⟨[e],he,by rw [List.map_cons,hr];rfl⟩,by rw [zyj,hd]⟩
theorem St1.e (h:St1 f id r k i u s l):OrE f id r (decide (k=2*f)) false s l:=by
 rcases h with ⟨h1,hp,-,h2⟩ | ⟨h1,hp,h2⟩
 ·rw [decide_eq_false (by omega)];exact h2.e
 ·rw [decide_eq_true h1];exact h2.e5
theorem St2.e (h:St2 f id r k i u s l):OrE f id r true (decide (k=2*f)) s l:=by
 rcases h with ⟨h1,hp,hc,-,h2⟩ | ⟨h1,h2⟩
 ·rw [decide_eq_false (by omega)];exact h2.e5
 ·rw [decide_eq_true h1];exact h2.e
end
section
variable {B:Nat} {w0 w W W':World} {ss:List Res} {x:Np} {s:Ns} {l:Nt} {f id:Nat} {r:Rq} {a b:Bool}
abbrev k5 (f:Nat) (a:Bool):Int:=if a then 3*(f:Int) else 0
abbrev k10 (b:Bool):Int:=if b then 1 else 0
theorem zml {oa:Option Addr} {k:Nat} {os:List Sd} (hE:OrE f id r a b s l) (hid:id≤3*f) (hf:f≤4) (hos:os.map Sd.p=s.out) (h:NdIs B w0 W x {s with out:=[]} l (redR (.slice oa os.length k) 2 os.length (os.flatMap sdC)::sdsR os::ss)):
  Calls Tryz.prog 39 #[.slice oa os.length k,.agg #[.int .i64 f,.int .i64 2,.int .i64 2,.int .i64 4,.int .i64 64,.int .i64 8,.int .i64 8,.int .i64 8,.int .i64 1,.int .i64 2,.int .i64 12,.int .i64 8,.int .i64 6,.int .i64 2,.int .i64 6],ptrV x.nt] W fun e w'=>e= .returned (.agg #[.int .i64 0,.int .i64 0,.int .i64 0,.int .i64 0,.int .i64 (3*(f:Int)),.int .i64 (k5 f a),.int .i64 0,.int .i64 0,.int .i64 0,.int .i64 0,.int .i64 (k10 b)])∧NdIs B w0 w' x {s with out:=[]} l (redR (.slice oa os.length k) 2 os.length (os.flatMap sdC)::sdsR os::ss):=by
 have hl:os.length=s.out.length:=by rw [←hos,List.length_map]
 obtain ⟨s',hs'⟩: ∃s':Ns,s'= {s with out:=[]}:=⟨_,rfl⟩
 have hc:s'.c=stdC f:=by rw [hs'];exact hE.c
 rw [←hs'] at h⊢
 have hlk:(endK f id a b).length=os.length:=by rw [hl];exact hE.out.n.symm
 have hk0: ∀k∈endK f id a b,0≤k∧k≤10:=by
  intro k hk
  simp only [endK,List.mem_append,List.mem_replicate] at hk
  rcases hk with hk | hk | hk
  ·omega
  ·cases a with
   | true=>simp only [if_true,List.mem_replicate] at hk;omega
   | false=>simp at hk
  ·cases b with
   | true=>simp only [if_true,List.mem_singleton] at hk;omega
   | false=>simp at hk
 have hlen:os.length≤1000000000:=by
  rw [←hlk]
  have h4:=zmo f id
  simp only [endK,List.length_append,List.length_replicate]
  cases a<;>cases b<;>simp<;>omega
 have h1:=zuz (s:=s') (l:=l) (os:=os) (ks:=endK f id a b) hlk (fun j hj hj2=>by
  have hj3:j<s.out.length:=by omega
  have e1:s.out[j]?=some (Sd.p os[j]):=by rw [←hos,List.getElem?_map,List.getElem?_eq_getElem hj];rfl
  obtain ⟨m,sl,e2,e3⟩:=hE.out.k j _ _ e1 (List.getElem?_eq_getElem hj2)
  refine ⟨m,sl,?_,e3,hk0 _ (List.getElem_mem hj2)⟩
  rw [hc]
  exact e2) hlen h
 rw [zu0 hid,hc] at h1
 rw [show (intC [0,0,0,0,3*(f:Int),if a then 3*(f:Int) else 0,0,0,0,0,if b then 1 else 0]).toArray=#[.int .i64 0,.int .i64 0,.int .i64 0,.int .i64 0,.int .i64 (3*(f:Int)),.int .i64 (k5 f a),.int .i64 0,.int .i64 0,.int .i64 0,.int .i64 0,.int .i64 (k10 b)] from rfl] at h1
 exact h1
theorem zvn (h:NdIs B w0 W x {s with out:=[]} l ss):Calls Tryz.prog 49 #[ptrV x.p] W fun e w'=> ∃y:Lg,e= .returned (ptrV y.p)∧LgOk y∧y.lp=s.bk∧NdIs B w0 w' x {s with out:=[]} l (lgL y++ss):=zpb h
theorem or_all {y:Lg} {es:List En} (h:NdIs B w0 W x {s with out:=[]} l (lgL y++ss)) (hy:LgOk y) (e:y.lp=s.bk) (he:s.bk.es=es):Calls Tryz.prog 51 #[ptrV y.p] W fun e w'=> ∃va c,e= .returned (.slice va es.length c)∧es.length≤c∧NdIs B w0 w' x {s with out:=[]} l (enR (.slice va es.length c) es::ss):=by
 obtain ⟨r,hs,hk⟩:=h.side
 refine (zkk (x:=y) (ss:=ss++[r]) (by simpa [List.append_assoc] using hs) hy).mono ?_
 rintro e' w' ⟨v,rfl,h2⟩
 have h3:y.es=es:=by rw [←he,←e];rfl
 rw [h3] at h2
 have h4:Own B w0 w' (enR v es::(ss++[r])):=((((h2.dropAt 1 (by simp)).dropAt 1 (by simp)).dropAt 1 (by simp)).dropAt 1 (by simp)).dropAt 1 (by simp)
 obtain ⟨a,c,hv,hc,-⟩:=owns_reads (zak h4.head)
 subst hv
 exact ⟨a,c,rfl,hc,hk w' (_::ss) h4⟩
theorem or_cmt (hE:OrE f id r a b s l) (h:NdIs B w0 W x {s with out:=[]} l ss):Calls Tryz.prog 55 #[ptrV x.p,.int .i64 0] W fun e w'=> ∃a' c,e= .returned (.slice a' (if b then 1 else 0) c)∧NdIs B w0 w' x {s with out:=[]} l ss:=by
 have h1:=zme h
 have h2:cmtN ({s with out:=[]}:Ns) 16=if b then 1 else 0:=hE.cm
 rw [h2] at h1
 exact h1
end
abbrev OrC (p nt q f:Nat) (w:World):Prop:=w.cell? ⟨q,0,none⟩=some (ptrV p)∧w.cell? ⟨q+1,0,none⟩=some (ptrV nt)∧w.cell? ⟨q+2,0,none⟩=some (.int .i64 f)∧w.cell? ⟨q+2,1,none⟩=some (.int .i64 2)∧w.cell? ⟨q+2,2,none⟩=some (.int .i64 2)∧w.cell? ⟨q+2,3,none⟩=some (.int .i64 4)∧w.cell? ⟨q+2,4,none⟩=some (.int .i64 64)∧w.cell? ⟨q+2,5,none⟩=some (.int .i64 8)∧w.cell? ⟨q+2,6,none⟩=some (.int .i64 8)∧w.cell? ⟨q+2,7,none⟩=some (.int .i64 8)∧w.cell? ⟨q+2,8,none⟩=some (.int .i64 1)∧w.cell? ⟨q+2,9,none⟩=some (.int .i64 2)∧w.cell? ⟨q+2,10,none⟩=some (.int .i64 12)∧w.cell? ⟨q+2,11,none⟩=some (.int .i64 8)∧w.cell? ⟨q+2,12,none⟩=some (.int .i64 6)∧w.cell? ⟨q+2,13,none⟩=some (.int .i64 2)∧w.cell? ⟨q+2,14,none⟩=some (.int .i64 6)
abbrev arO (c0 c1 c2 c3 c4 c5 c6 c7 c8 c9 c10:Value):Obj:= .cells #[c0,c1,c2,c3,c4,c5,c6,c7,c8,c9,c10] 84 (0,0)
abbrev arZ:Obj:=arO (.int .i64 0) (.int .i64 0) (.int .i64 0) (.int .i64 0) (.int .i64 0) (.int .i64 0) (.int .i64 0) (.int .i64 0) (.int .i64 0) (.int .i64 0) (.int .i64 0)
section
variable {B:Nat} {w0 w W W':World} {rs ss:List Res} {x:Np} {s:Ns} {l:Nt} {p nt rn q f b:Nat}
theorem zmk (i j k:Nat) (h:Own B w0 w rs) (e1:rs[i]?=some (blk q (.cells #[ptrV p] 24 (0,0)))) (e2:rs[j]?=some (blk (q+1) (twO nt rn))) (e3:rs[k]?=some (blk (q+2) (stdO f))):OrC p nt q f w:=by
 have b1:=h.blkAt i e1
 have b2:=h.blkAt j e2
 have b3:=h.blkAt k e3
 exact ⟨zaa b1 0 rfl,zaa b2 0 rfl,zaa b3 0 rfl,zaa b3 1 rfl,zaa b3 2 rfl,zaa b3 3 rfl,zaa b3 4 rfl,zaa b3 5 rfl,zaa b3 6 rfl,zaa b3 7 rfl,zaa b3 8 rfl,zaa b3 9 rfl,zaa b3 10 rfl,zaa b3 11 rfl,zaa b3 12 rfl,zaa b3 13 rfl,zaa b3 14 rfl⟩
theorem zvl {ob:Obj} (h:OrC p nt q f w):OrC p nt q f (w.alloc ob):=by
 obtain ⟨h0,h1,h2,h3,h4,h5,h6,h7,h8,h9,h10,h11,h12,h13,h14,h15,h16⟩:=h
 exact ⟨zad h0,zad h1,zad h2,zad h3,zad h4,zad h5,zad h6,zad h7,zad h8,zad h9,zad h10,zad h11,zad h12,zad h13,zad h14,zad h15,zad h16⟩
theorem orC_add {ob:Obj} (h:OrC p nt q f w.drew):OrC p nt q f (w.alloc ob).drew:=zvl (w:=w) h
theorem ziv {b c:Nat} (h:b≠c): ∀(cs:List Value) (o:Nat) (w:World),(w.setCells c o cs).heap[b]?=w.heap[b]?
 | [],_,_=>rfl
 | v::cs,o,w=>by
  show ((w.setCell ⟨c,o,none⟩ v).setCells c (o+1) cs).heap[b]?=_
  rw [ziv h cs (o+1) _,zch h]
theorem zaz {b c i:Nat} {cs:List Value} {v:Value} (h:b≠c) (k:w.cell? ⟨b,i,none⟩=some v):(w.setCells c 0 cs).cell? ⟨b,i,none⟩=some v:=(World.cell?_of_block (ziv h cs 0 w)).trans k
theorem zxu {e:Nat} {cs:List Value} (h:OrC p nt q f w) (g:q≠e∧q+1≠e∧q+2≠e):OrC p nt q f (w.setCells e 0 cs):=by
 obtain ⟨g0,g1,g2⟩:=g
 obtain ⟨h0,h1,h2,h3,h4,h5,h6,h7,h8,h9,h10,h11,h12,h13,h14,h15,h16⟩:=h
 exact ⟨zaz g0 h0,zaz g1 h1,zaz g2 h2,zaz g2 h3,zaz g2 h4,zaz g2 h5,zaz g2 h6,zaz g2 h7,zaz g2 h8,zaz g2 h9,zaz g2 h10,zaz g2 h11,zaz g2 h12,zaz g2 h13,zaz g2 h14,zaz g2 h15,zaz g2 h16⟩
theorem zr3 {c0 c1 c2 c3 c4 c5 c6 c7 c8 c9 c10 v0 v1 v2 v3 v4 v5 v6 v7 v8 v9 v10:Value} (h:Own B w0 W (blk b (arO c0 c1 c2 c3 c4 c5 c6 c7 c8 c9 c10)::rs)):
  Own B w0 (((((((((((W.setCell ⟨b,0,none⟩ v0).setCell ⟨b,1,none⟩ v1).setCell ⟨b,2,none⟩ v2).setCell ⟨b,3,none⟩ v3).setCell ⟨b,4,none⟩ v4).setCell ⟨b,5,none⟩ v5).setCell ⟨b,6,none⟩ v6).setCell ⟨b,7,none⟩ v7).setCell ⟨b,8,none⟩ v8).setCell ⟨b,9,none⟩ v9).setCell ⟨b,10,none⟩ v10) (blk b (arO v0 v1 v2 v3 v4 v5 v6 v7 v8 v9 v10)::rs):=Own.storeTo (Own.storeTo (Own.storeTo (Own.storeTo (Own.storeTo (Own.storeTo (Own.storeTo (Own.storeTo (Own.storeTo (Own.storeTo (Own.storeTo h 0 v0 (o':=arO v0 c1 c2 c3 c4 c5 c6 c7 c8 c9 c10) rfl) 1 v1 (o':=arO v0 v1 c2 c3 c4 c5 c6 c7 c8 c9 c10) rfl) 2 v2 (o':=arO v0 v1 v2 c3 c4 c5 c6 c7 c8 c9 c10) rfl) 3 v3 (o':=arO v0 v1 v2 v3 c4 c5 c6 c7 c8 c9 c10) rfl) 4 v4 (o':=arO v0 v1 v2 v3 v4 c5 c6 c7 c8 c9 c10) rfl) 5 v5 (o':=arO v0 v1 v2 v3 v4 v5 c6 c7 c8 c9 c10) rfl) 6 v6 (o':=arO v0 v1 v2 v3 v4 v5 v6 c7 c8 c9 c10) rfl) 7 v7 (o':=arO v0 v1 v2 v3 v4 v5 v6 v7 c8 c9 c10) rfl) 8 v8 (o':=arO v0 v1 v2 v3 v4 v5 v6 v7 v8 c9 c10) rfl) 9 v9 (o':=arO v0 v1 v2 v3 v4 v5 v6 v7 v8 v9 c10) rfl) 10 v10 (o':=arO v0 v1 v2 v3 v4 v5 v6 v7 v8 v9 v10) rfl
theorem zt1:(w.alloc arZ).there w.heap.size 0 11:=zoj rfl (by simp)
theorem zr2 {cs:List Value} (hl:cs.length=11) (h:Own B w0 W (blk b (.cells #[.int .i64 0,.int .i64 0,.int .i64 0,.int .i64 0,.int .i64 0,.int .i64 0,.int .i64 0,.int .i64 0,.int .i64 0,.int .i64 0,.int .i64 0] 84 (0,0))::rs)):Own B w0 (W.setCells b 0 cs) (blk b (.cells cs.toArray 84 (0,0))::rs):=by
 match cs,hl with
 | [v0,v1,v2,v3,v4,v5,v6,v7,v8,v9,v10],_=>exact zr3 h
theorem zoi {z:Array Value} {T:TypeId} {n:Nat} (hb:w.heap[b]?=some (.cells z T (0,0))) (hk:n≤z.size):w.there b 0 n:=fun j hj=>by
 have hj':j<z.size:=by omega
 refine ⟨?_,zac hb _⟩
 rw [Nat.zero_add,zab hb]
 simp [hj']
theorem zz3 {e:Nat} {ob:Obj} (i j k m:Nat) (h:Own B w0 w rs) (e1:rs[i]?=some (blk q (.cells #[ptrV p] 24 (0,0)))) (e2:rs[j]?=some (blk (q+1) (twO nt rn))) (e3:rs[k]?=some (blk (q+2) (stdO f))) (e4:rs[m]?=some (blk e ob)) (g1:m<i) (g2:m<j) (g3:m<k):q≠e∧q+1≠e∧q+2≠e:=
 ⟨(zr5 h m i e4 e1 g1 (List.mem_singleton.2 rfl) (List.mem_singleton.2 rfl)).symm,(zr5 h m j e4 e2 g2 (List.mem_singleton.2 rfl) (List.mem_singleton.2 rfl)).symm,(zr5 h m k e4 e3 g3 (List.mem_singleton.2 rfl) (List.mem_singleton.2 rfl)).symm⟩
end
theorem or_row {B:Nat} {w0 W:World} {es:List En} {rs:List Res} {r:Rq} {i c:Nat} {va:Option Addr} (h:Own B w0 W rs) (e1:rs[i]?=some (enR (.slice va es.length c) es)) (hr:es.map En.rq=[r]):
  es.length=1∧ ∃b o,va=some ⟨b,o,none⟩∧W.cell? ⟨b,o,none⟩=some (.int .i64 r.client)∧W.cell? ⟨b,o+1,none⟩=some (.int .i64 r.time)∧W.cell? ⟨b,o+2,none⟩=some (.int .i64 r.kind)∧W.cell? ⟨b,o+3,none⟩=some (.int .i64 r.key)∧W.cell? ⟨b,o+4,none⟩=some (.int .i64 r.val)∧W.cell? ⟨b,o+5,none⟩=some (.int .i64 r.sl):=by
 have hn:es.length=1:=by have:=congrArg List.length hr;simpa using this
 refine ⟨hn,?_⟩
 obtain ⟨e,rfl⟩:=List.length_eq_one_iff.1 hn
 simp only [List.map_cons,List.map_nil,List.cons.injEq,and_true] at hr
 obtain ⟨a,cp,hv,-,-,-,-,hcell⟩:=owns_reads (zak (h.get i e1))
 simp only [Value.slice.injEq] at hv
 obtain ⟨rfl,-,-⟩:=hv
 obtain ⟨b,o,rfl,-,hcl⟩:=hcell (by simp)
 have g: ∀i,i<6→W.cell? ⟨b,o+i,none⟩=(zd5 e)[i]?:=fun i hi=>by
  have:=hcl i (by simp;omega)
  rw [this]
  show (([e]:List En).flatMap zd5)[i]?=_
  have h2:=flat_get (cells:=zd5) (sz:=7) (fun _=>rfl) [e] 0 i e (by simp) (by omega)
  rw [Nat.zero_mul,Nat.zero_add] at h2
  exact h2
 rw [←hr]
 exact ⟨b,o,rfl,g 0 (by omega),g 1 (by omega),g 2 (by omega),g 3 (by omega),g 4 (by omega),g 5 (by omega)⟩
abbrev OrD (b1 ov e15 e20 q p:Nat) (key val sl:Int) (w:World):Prop:=w.cell? ⟨b1,ov,none⟩=some (.int .i64 1)∧w.cell? ⟨b1,ov+1,none⟩=some (.int .i64 4)∧w.cell? ⟨b1,ov+2,none⟩=some (.int .i64 1)∧w.cell? ⟨b1,ov+3,none⟩=some (.int .i64 key)∧w.cell? ⟨b1,ov+4,none⟩=some (.int .i64 val)∧w.cell? ⟨b1,ov+5,none⟩=some (.int .i64 sl)∧
 w.cell? ⟨e15,0,none⟩=some (.int .i64 1)∧w.cell? ⟨e15,1,none⟩=some (.int .i64 4)∧w.cell? ⟨e15,2,none⟩=some (.int .i64 1)∧w.cell? ⟨e15,3,none⟩=some (.int .i64 key)∧w.cell? ⟨e15,4,none⟩=some (.int .i64 val)∧w.cell? ⟨e15,5,none⟩=some (.int .i64 sl)∧
 w.cell? ⟨e20,10,none⟩=some (.int .i64 1)∧w.cell? ⟨q,0,none⟩=some (ptrV p)
theorem orD_of {B:Nat} {w0 w:World} {rs:List Res} {es:List En} {b1 ov e15 e20 q p c i j m n:Nat} {key val sl:Int} {v0 v1 v2 v3 v4 v5 v6 v7 v8 v9 v10:Value} (h:Own B w0 w rs) (e1:rs[i]?=some (enR (.slice (some ⟨b1,ov,none⟩) es.length c) es)) (hr:es.map En.rq=[⟨1,4,1,key,val,sl⟩]) (e2:rs[j]?=some (blk e20 (arO v0 v1 v2 v3 v4 v5 v6 v7 v8 v9 v10))) (hv:v10= .int .i64 1) (e3:rs[m]?=some (blk q (.cells #[ptrV p] 24 (0,0)))) (e4:rs[n]?=some (blk e15 (rqO ⟨1,4,1,key,val,sl⟩))):OrD b1 ov e15 e20 q p key val sl w:=by
 obtain ⟨-,b2,ov2,hv2,g0,g1,g2,g3,g4,g5⟩:=or_row h e1 hr
 simp only [Option.some.injEq,Addr.mk.injEq,and_true] at hv2
 obtain ⟨rfl,rfl⟩:=hv2
 subst hv
 have u15:=h.blkAt n e4
 exact ⟨g0,g1,g2,g3,g4,g5,zaa u15 0 rfl,zaa u15 1 rfl,zaa u15 2 rfl,zaa u15 3 rfl,zaa u15 4 rfl,zaa u15 5 rfl,zaa (h.blkAt j e2) 10 rfl,zaa (h.blkAt m e3) 0 rfl⟩
theorem orD_upd {b1 ov e15 e20 q p:Nat} {key val sl:Int} {w w':World} (hu:Upd [] w w') (h:OrD b1 ov e15 e20 q p key val sl w):OrD b1 ov e15 e20 q p key val sl w':=by
 obtain ⟨h0,h1,h2,h3,h4,h5,h6,h7,h8,h9,h10,h11,h12,h13⟩:=h
 exact ⟨zah hu h0,zah hu h1,zah hu h2,zah hu h3,zah hu h4,zah hu h5,zah hu h6,zah hu h7,zah hu h8,zah hu h9,zah hu h10,zah hu h11,zah hu h12,zah hu h13⟩
end Go.Proofs.YtannckelmojkoaaGreat
