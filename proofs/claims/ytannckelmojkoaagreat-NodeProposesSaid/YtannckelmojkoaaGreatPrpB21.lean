/- Parts of the proof, one behind the other. -/
import Derived.Test.YtannckelmojkoaaGreatPrpB20
set_option maxHeartbeats 32000000
set_option maxRecDepth 100000
set_option linter.unusedVariables false
set_option linter.unusedSimpArgs false
namespace Go.Proofs.YtannckelmojkoaaGreat
open Go.RowKit Go.Heap
theorem zm9:FloatKind.f64.nearest 0=0:=by kernel_rfl
section
variable {B:Nat} {w0 w W W':World} {ss rs:List Res} {x:Np} {s s':Ns} {l l':Nt}
theorem NdIs.inst (h:NdIs B w0 W x s l ss) (k:Nat) (hk:k<s.ins.length): ∃i rr,x.is[k]?=some i∧AtI B w0 W i s.ins[k] (ss++rr)∧
  ∀W' st' ss',InKeep s.ins[k] st'→AtI B w0 W' i st' (ss'++rr)→NdIs B w0 W' x {s with ins:=s.ins.set k st'} l ss':=by
 obtain ⟨v,rr,c,d,g⟩:=h.lens 7 (by omega) (by omega);have hok:=h.ok;have hkx:k<v.xs.length:=by rw [←c.xs,List.length_map] at hk;exact hk
 have d1:Own B w0 W (joinR (inL x.ib x.is v.xs)::(ss++rr)):=d;have e1:Own B w0 W (instR v.xs[k]::([segR x.ib 142 (x.is.map ptrV)]++((v.xs.eraseIdx k).map instR++(ss++rr)))):=Own.pick (hd:=[segR x.ib 142 (x.is.map ptrV)]) (f:=instR) (l:=v.xs) (ss:=ss++rr) (Own.open (rs:=inL x.ib x.is v.xs) d1) k hkx;have hp: ∀l':List Res,([segR x.ib 142 (x.is.map ptrV)]++((v.xs.eraseIdx k).map instR++(l'++rr))).Perm (l'++(rr++([segR x.ib 142 (x.is.map ptrV)]++(v.xs.eraseIdx k).map instR))):=fun l'=>by
  have e1:[segR x.ib 142 (x.is.map ptrV)]++((v.xs.eraseIdx k).map instR++(l'++rr))=([segR x.ib 142 (x.is.map ptrV)]++(v.xs.eraseIdx k).map instR)++(l'++rr):=(List.append_assoc _ _ _).symm;have e2:l'++(rr++([segR x.ib 142 (x.is.map ptrV)]++(v.xs.eraseIdx k).map instR))=(l'++rr)++([segR x.ib 142 (x.is.map ptrV)]++(v.xs.eraseIdx k).map instR):=(List.append_assoc _ _ _).symm;rw [e1,e2];exact List.perm_append_comm
 have hst:v.xs[k].st=s.ins[k]:=by
  have:(v.xs.map Ins.st)[k]'(by simpa using hkx)=s.ins[k]:=by simp only [c.xs]
  simpa using this
 have hi:x.is[k]?=some v.xs[k].i:=by rw [←c.is];simp [hkx]
 refine ⟨v.xs[k].i,rr++([segR x.ib 142 (x.is.map ptrV)]++(v.xs.eraseIdx k).map instR),hi,⟨v.xs[k],rfl,hst,e1.perm ((hp ss).cons _)⟩,fun W' st' ss' kp ha=> ?_⟩;obtain ⟨y,y1,y2,y3⟩:=ha;have e2:=Own.unpick (hd:=[segR x.ib 142 (x.is.map ptrV)]) (ss:=ss'++rr) (l:=v.xs) k hkx (y3.perm ((hp ss').symm.cons _));refine g W' {s with ins:=s.ins.set k st'} {v with xs:=v.xs.set k y} ss' (joinR (inL x.ib x.is (v.xs.set k y))) {hok with ins:=by simpa using hok.ins,insk:= ?_,mtn:= ?_} {c with xs:= ?_,is:= ?_} rfl (Own.shut (rs:=inL x.ib x.is (v.xs.set k y)) e2)
 ·intro j hj
  simp only [List.length_set] at hj;simp only [List.getElem_set];have h9:=hok.insk j hj;split
  ·rename_i e;subst e;exact ⟨kp.f.trans h9.1,kp.num.trans h9.2.1,kp.ahead.trans h9.2.2.1,kp.sm h9.2.2.2⟩
  ·exact h9
 ·intro j hj hj2
  simp only [List.length_set] at hj2;simp only [List.getElem_set];obtain ⟨m1,m2,m3,m4⟩:=hok.mtn j hj hj2;refine ⟨m1,?_,m3,m4⟩;split
  ·rename_i e;subst e;have:=kp.dn;exact Int.le_trans m2 (by omega)
  ·exact m2
 ·rw [List.map_set,c.xs,y2]
 ·rw [List.map_set,c.is,y1]
  refine List.ext_getElem (by simp) (fun j h1 h2=> ?_);rw [List.getElem_set];split
  ·rename_i e;subst e;exact (List.getElem?_eq_some_iff.1 hi).2.symm
  ·rfl
theorem NdIs.instAt (h:NdIs B w0 W x s l ss) (k:Nat) {i:Nat} (hi:x.is[k]?=some i):W.cell? ⟨x.ib,k,none⟩=some (ptrV i):=by
 obtain ⟨v,rr,c,d,g⟩:=h.lens 7 (by omega) (by omega);exact (zb9 (Own.open d) 0 rfl k (v:=ptrV i) (by rw [List.getElem?_map,hi];rfl)).1
theorem NdIs.isLen (h:NdIs B w0 W x s l ss):x.is.length=s.c.f+1:=by
 have hok:=h.ok.ins;obtain ⟨a,b,v,c,d⟩:=h;rw [←c.is,List.length_map,←hok,←c.xs,List.length_map]
theorem NdIs.iAt (h:NdIs B w0 W x s l ss) {k:Nat} (hk:k<s.c.f+1): ∃i,x.is[k]?=some i∧W.cell? ⟨x.ib,k,none⟩=some (ptrV i):=by
 have h1:k<x.is.length:=by rw [h.isLen];exact hk
 exact ⟨x.is[k],by simp [h1],h.instAt k (by simp [h1])⟩
theorem NdIs.caps (h:NdIs B w0 W x s l ss):s.c.f+1≤x.ic∧3*s.c.f+1≤x.pk∧s.c.f+1≤x.bgk∧s.c.f+1≤x.prk∧s.c.f+1≤x.cok∧s.c.f+1≤x.mtk∧3*s.c.f+1≤x.vk:=by
 obtain ⟨_,_,v,c,_⟩:=h;exact ⟨c.ic,c.pk,c.bgk,c.prk,c.cok,c.mtk,c.vk⟩
theorem zgw (h:NdIs B w0 W x s l ss):Calls Tryz.prog 90 #[ptrV x.t] W fun e w'=>e= .returned (.int .i64 s.now)∧W=w':=by
 obtain ⟨v,rr,c,d,-⟩:=h.lens 1 (by omega) (by omega);exact now_any d.blk_out
theorem nd_tick (h:NdIs B w0 W x s l ss) (hn:s.now<1048576):Calls Tryz.prog 88 #[ptrV x.t] W fun e w'=>e= .returned (.bool true)∧NdIs B w0 w' x {s with now:=s.now+1} l ss:=by
 obtain ⟨v,rr,c,d,g⟩:=h.lens 1 (by omega) (by omega);have hok:=h.ok;have n0:=hok.now0;have c0:=zaa d.blk_out 0 rfl;have z0:=zab d.blk_out 0;have hI:decide ((1048576:Int)≤s.now)=false:=by simp;omega
 have HE:Hid (NdIs B w0 (W.setCell ⟨x.t,0,none⟩ (.int .i64 (s.now+1))) x {s with now:=s.now+1} l ss):=zq (g _ {s with now:=s.now+1} v ss _ {hok with now0:=by simp only;omega,now1:=by simp only;omega} {c with} rfl (d.store 0 _));generalize {s with now:=s.now+1}=s1 at*;clear hok g d h;go_enter Tryz.func88,Tryz.ntmps88
 go_wp2_with fail
 go_ret
 exact ⟨rfl,HE.out⟩
theorem zo1 (h:NdIs B w0 W x s l ss) (hn: ¬s.now<1048576):Calls Tryz.prog 88 #[ptrV x.t] W fun e w'=>e= .returned (.bool false)∧W=w':=by
 obtain ⟨v,rr,c,d,g⟩:=h.lens 1 (by omega) (by omega);have c0:=zaa d.blk_out 0 rfl;have hI:(1048576:Int)≤s.now:=by omega
 clear g d h hn;go_enter Tryz.func88,Tryz.ntmps88
 go_wp2_with fail
 go_ret
 exact ⟨rfl,rfl⟩
theorem nd_shut (h:NdIs B w0 W x s l ss) (src c:Int) (hg:s.gd.length≤1000):
  Calls Tryz.prog 97 #[ptrV x.gd,.int .i64 src,.int .i64 c] W fun e w'=>e= .returned (.bool (shutP s.gd src c))∧Upd [] W w':=by
 obtain ⟨v,rr,-,d,-⟩:=h.lens 4 (by omega) (by omega);exact shut_any src c (by omega) (Own.open d)
theorem nd_bad (h:NdIs B w0 W x s l ss) (src c:Int) (hg:s.gd.length≤1000) (hb: ∀q∈bumpP s.c.fl s.c.sh c src s.gd,0≤q.bad∧q.bad≤s.c.fl):
  Calls Tryz.prog 99 #[ptrV x.gd,.int .i64 src,.int .i64 c] W fun e w'=>(∃b,e= .returned (.bool b))∧NdIs B w0 w' x {s with gd:=bumpP s.c.fl s.c.sh c src s.gd} l ss:=by
 obtain ⟨v,rr,cc,d,g⟩:=h.lens 4 (by omega) (by omega);have hok:=h.ok;refine (zy7 src c hok.c.fl1 hok.c.fl2 hok.c.sh1 hok.c.sh2 hg hok.gd (Own.open d)).mono ?_;rintro e w' ⟨gv',rb,he,ho⟩;exact ⟨⟨rb,he⟩,g _ {s with gd:=bumpP s.c.fl s.c.sh c src s.gd} {v with gv:=gv'} ss _ {hok with gd:=hb} {cc with} rfl (Own.shut (rs:=[_,_]) ho)⟩
end
theorem InKeep.refl (a:In):InKeep a a:=⟨rfl,rfl,rfl,id,Nat.le_refl _⟩
theorem InKeep.trans {a b c:In} (h:InKeep a b) (g:InKeep b c):InKeep a c:=⟨g.f.trans h.f,g.num.trans h.num,g.ahead.trans h.ahead,fun x=>g.sm (h.sm x),Nat.le_trans h.dn g.dn⟩
theorem zft {α:Type} (p:α→Bool) (g:α→α) (hg: ∀a,p a=true→p (g a)=true): ∀(l:List α) (k:Nat),l.countP p≤(l.modify k g).countP p
 | [],k=>by simp
 | a::l,0=>by
  simp only [List.modify_zero_cons,List.countP_cons];cases h:p a with
  | true=>rw [hg a h];simp
  | false=>simp
 | a::l,k+1=>by
  simp only [List.modify_succ_cons,List.countP_cons];have:=zft p g hg l k;omega
theorem zin {a:In} {k:Nat} {g:Pl→Pl} (h1: ∀p,p.done=true→(g p).done=true) (h2: ∀p,PlSm p→PlSm (g p)):InKeep a (a.upd k g):=by
 refine ⟨rfl,rfl,rfl,fun h=>⟨fun p hp=> ?_⟩,zft _ _ h1 _ _⟩;have hp':p∈a.l.modify k g:=hp;obtain ⟨j,hj,rfl⟩:=List.getElem_of_mem hp';rw [List.getElem_modify];have hj':j<a.l.length:=by simpa using hj
 split
 ·exact h2 _ (h.b _ (List.getElem_mem hj'))
 ·exact h.b _ (List.getElem_mem hj')
theorem sm_at {a:In} {s:Int} {p:Pl} (h:InSm a) (e:plAt a s=some p):PlSm p:=by
 unfold plAt at e;cases hi:idx s with
 | none=>rw [hi] at e;simp at e
 | some k=>rw [hi] at e;exact h.b _ (List.mem_of_getElem? e)
theorem zq5 {a:In} {seq:Int} {rs:List Rq} (hr:rs.length≤4):InKeep a (preI a seq rs):=by
 unfold preI;split
 ·exact .refl a
 ·split
  ·refine zin (fun p h=>h) (fun p h=>⟨?_,h.ct,h.dw,?_⟩)
   ·unfold slPre;dsimp only;split
    ·exact h.b
    ·exact hr
   ·unfold slPre;dsimp only;split<;>exact h.cs
  ·exact .refl a
theorem znd {a:In} {kind seq node sl:Int} {rs:List Rq} (hr:rs.length≤4):InKeep a (voteI a kind seq node sl rs):=by
 unfold voteI;split
 ·exact .refl a
 ·split
  ·refine zin (fun p h=>h) (fun p h=> ?_)
   unfold voteS;split
   ·split
    ·exact ⟨h.b,h.ct,h.dw,h.cs⟩
    ·refine ⟨h.b,h.ct,h.dw,fun t ht=> ?_⟩
     rcases List.mem_or_eq_of_mem_set ht with ht | rfl
     ·exact h.cs t ht
     ·exact hr
   ·exact h
  ·exact .refl a
theorem zse {a:In} {seq:Int} {c:Cp} (h:InSm a) (e:prepI a seq=some c):c.rs.length≤4:=by
 unfold prepI at e;cases hp:plAt a seq with
 | none=>rw [hp] at e;simp at e
 | some p=>
  rw [hp] at e;simp only at e;split at e
  ·cases hs:zbj a.f p.sl with
   | none=>rw [hs] at e;simp at e
   | some vs=>rw [hs] at e;simp only [Option.map_some,Option.some.injEq] at e;subst e;exact (sm_at h hp).b
  ·simp at e
theorem zfv {a:In} {seq:Int} (h:InSm a):InKeep a (zbi a seq):=by
 unfold zbi;split
 ·rename_i k c e1 e2
  refine zin (fun p h=>h) (fun p hp=>⟨hp.b,zse h e2,hp.dw,hp.cs⟩)
 ·exact .refl a
theorem zqa {all:List Vt} {q:Nat}: ∀ {l:List Vt} {r:List Rq×Vs},(∀t∈l,t.batch.length≤4)→zay all q l=some r→r.1.length≤4
 | [],r,_,e=>by simp [zay] at e
 | t::l,r,h,e=>by
  unfold zay at e;split at e
  ·split at e
   ·simp only [Option.some.injEq] at e;subst e;exact h t (by simp)
   ·exact zqa (fun t ht=>h t (by simp [ht])) e
  ·exact zqa (fun t ht=>h t (by simp [ht])) e
theorem zxe {a:In} {seq:Int} {c:Cp} (h:InSm a) (e:commI a seq=some c):c.rs.length≤4:=by
 unfold commI at e;cases hp:plAt a seq with
 | none=>rw [hp] at e;simp at e
 | some p=>
  rw [hp] at e;simp only at e;split at e
  ·simp at e
  ·cases hs:zap a.f p.sl with
   | none=>rw [hs] at e;simp at e
   | some vs=>rw [hs] at e;simp only [Option.map_some,Option.some.injEq] at e;subst e;exact zqa (sm_at h hp).cs hs
theorem zgs {a:In} {seq:Int} (h:InSm a):InKeep a (zbk a seq):=by
 unfold zbk;split
 ·rename_i k c e1 e2
  refine zin (fun p _=>rfl) (fun p hp=>⟨hp.b,hp.ct,zxe h e2,hp.cs⟩)
 ·exact .refl a
theorem zyw (f:Nat): ∀t∈(zb4 f).cs,t.batch.length≤4:=by
 intro t ht;have:=List.eq_of_mem_replicate ht;subst this;simp [noVt]
theorem zm3 {a:In} (h:InSm a) (seq:Int):(zbl a seq).1.length≤4:=by
 unfold zbl;cases hp:plAt a seq with
 | none=>simp
 | some p=>
  simp only [zda];split
  ·exact (sm_at h hp).b
  ·simp
theorem zlm {a:In} {seq:Int} {c:Cp} (h:InSm a) (e:zbb a seq=some c):c.rs.length≤4:=by
 unfold zbb at e;cases hp:plAt a seq with
 | none=>rw [hp] at e;simp at e
 | some p=>
  rw [hp] at e;simp only at e;split at e
  ·simp only [Option.some.injEq] at e;subst e;exact (sm_at h hp).dw
  ·simp at e
theorem new_sm (f:Nat) (num ahead:Int):InSm (newI f num ahead):=⟨fun p hp=>by
 have:=List.eq_of_mem_replicate hp;subst this;exact ⟨by simp [zbu,zb4],by simp [zbu,noCp],by simp [zbu,noCp],zyw f⟩⟩
theorem zy1 {α:Type} {g:α→List Value} {n:Nat} (hg: ∀a,(g a).length=n) (l:List α):(l.flatMap g).length=l.length*n:=zcb (cells:=g) (sz:=n) hg l
section
variable {B:Nat} {w0 w W W':World} {ss rs:List Res} {x:Np} {s s':Ns} {l l':Nt}
theorem NdIs.part (h:NdIs B w0 W x s l ss) (k:Nat) (hk:k<s.pts.length): ∃q:Int×Pt,(q.1,q.2.pa)=s.pts[k]∧(∀j,j<5→W.cell? ⟨x.pt,k*5+j,none⟩=(pqC q)[j]?)∧(∀j,W.frozen? ⟨x.pt,j,none⟩=false)∧
  q.2.vs.length≤100000∧q.2.cts.length≤100000∧NdIs B w0 W x s l (redR q.2.vv 2 q.2.vs.length (zan q.2.vs)::redR q.2.cv 5 q.2.cts.length (q.2.cts.flatMap zar)::ctsR q.2.cts::ss):=by
 have hok:=h.ok;obtain ⟨v,rr,c,d,g⟩:=h.lens 8 (by omega) (by omega);have hkx:k<v.ps.length:=by rw [←c.ps,List.length_map] at hk;exact hk
 have d1:=Own.open d;obtain ⟨-,q2,q3⟩:=zdu d1.head;have hp:=pts_fr d1 1 rfl;have hm:=hp v.ps[k].2 (List.mem_map.2 ⟨v.ps[k],List.getElem_mem hkx,rfl⟩);refine ⟨v.ps[k],?_,fun j hj=> ?_,q3,hm.vn,hm.cn,g W s v (_::_::_::ss) _ hok c rfl (Own.shut (rs:=pqL x.pt v.ps) ?_)⟩
 ·have:(v.ps.map fun q=>(q.1,q.2.pa))[k]'(by simpa using hkx)=s.pts[k]:=by simp only [c.ps]
  simpa using this
 ·rw [q2 _ (by rw [zy1 (n:=5) (fun _=>rfl)];omega),zd1 pqC 5 (fun _=>rfl) v.ps k j hkx hj]
 ·have e1:Own B w0 W (ctsR v.ps[k].2.cts::_):=d1.mkCts hm.cs
  have e2:Own B w0 W (redR v.ps[k].2.cv 5 v.ps[k].2.cts.length (v.ps[k].2.cts.flatMap zar)::_):=e1.mkRed (by rw [zy5 rfl];exact hm.c);have e3:Own B w0 W (redR v.ps[k].2.vv 2 v.ps[k].2.vs.length (zan v.ps[k].2.vs)::_):=e2.mkRed (by rw [zy5 rfl,zy5 rfl];exact hm.v);exact e3.perm (List.perm_append_comm (l₁:=[_,_,_]) (l₂:=[_,_]) |>.append_right _)
theorem NdIs.outs (h:NdIs B w0 W x s l ss): ∃v rr,NvOk x s v∧Own B w0 W (segR x.p 141 (nsC x s v.ov)::ownR 62 2 v.ov v.os.length (v.os.flatMap sdC)::sdsR v.os::(ss++rr))∧
  ∀W' ov' os' ss',(∃a k,ov'= .slice a os'.length k)→Own B w0 W' (segR x.p 141 (nsC x s ov')::ownR 62 2 ov' os'.length (os'.flatMap sdC)::sdsR os'::(ss'++rr))→NdIs B w0 W' x {s with out:=os'.map Sd.p} l ss':=by
 obtain ⟨a,b,v,c,d⟩:=h;have d1:Own B w0 W (nsL x s v++(blk x.nt (noB x.nm)::ntR x.nm l::ss)):=Own.open d;have hq: ∀(r1 r2:Res) (m ll:List Res),((r1::(m++[r2]))++([blk x.nt (noB x.nm),ntR x.nm l]++ll)).Perm (r2::(r1::(ll++(m++[blk x.nt (noB x.nm),ntR x.nm l])))):=fun r1 r2 m ll=>by
  have e1:(r1::(m++[r2]))++([blk x.nt (noB x.nm),ntR x.nm l]++ll)=(r1::m)++(r2::([blk x.nt (noB x.nm),ntR x.nm l]++ll)):=by simp
  have e2:ll++(m++[blk x.nt (noB x.nm),ntR x.nm l])=(ll++m)++[blk x.nt (noB x.nm),ntR x.nm l]:=(List.append_assoc _ _ _).symm;rw [e1,e2];refine List.perm_middle.trans (List.Perm.cons _ (List.Perm.cons _ ?_));refine (List.perm_append_comm_assoc m [blk x.nt (noB x.nm),ntR x.nm l] ll).trans ?_;exact List.perm_append_comm.trans (List.perm_append_comm.append_right _)
 refine ⟨v,((nsL x s v).drop 1).take 11++[blk x.nt (noB x.nm),ntR x.nm l],c,?_,fun W' ov' os' ss' hov h'=>⟨{a with},b,{v with ov:=ov',os:=os'},{c with os:=rfl,ov:=hov},?_⟩⟩
 ·have d2:Own B w0 W (joinR (ouL v.ov v.os)::(segR x.p 141 (nsC x s v.ov)::(ss++(((nsL x s v).drop 1).take 11++[blk x.nt (noB x.nm),ntR x.nm l])))):=d1.perm (hq (segR x.p 141 (nsC x s v.ov)) (joinR (ouL v.ov v.os)) (((nsL x s v).drop 1).take 11) ss)
  exact (Own.open d2).rot
 ·refine Own.shut (rs:=nsL x {s with out:=os'.map Sd.p} {v with ov:=ov',os:=os'}) ?_
  have d2:Own B w0 W' (joinR (ouL ov' os')::(segR x.p 141 (nsC x s ov')::(ss'++(((nsL x s v).drop 1).take 11++[blk x.nt (noB x.nm),ntR x.nm l])))):=Own.shut (rs:=ouL ov' os') h'.rot';exact d2.perm (hq (segR x.p 141 (nsC x s ov')) (joinR (ouL ov' os')) (((nsL x s v).drop 1).take 11) ss').symm
end
def tabK (l:List Td) (r:Rq):Nat:=(l.takeWhile fun t=>decide (cmpRq t.r r<0)).length
def tabIs (l:List Td) (r:Rq):Bool:=match l[tabK l r]? with
 | some t=>decide (t.r=r)
 | none=>false
def newTd (r:Rq):Td:=⟨r,List.replicate 13 false,false,0⟩
def byLen (t:Td):Nat:=t.by_.countP id
def tellT (f:Nat) (node:Nat) (clock:Int) (t:Td):Td:=
 let u:Td:= {t with by_:=t.by_.set node true}
 if !u.ready&&decide (f+1≤byLen u) then {u with ready:=true,since:=clock} else u
def ztc (f:Nat) (cl:Int) (r:Rq) (node:Int):Bool:=decide (r.client<0) || (decide (cl≤r.client) || (decide (node<0) || decide (3*(f:Int)+1≤node)))
def zee (l:List Td) (r:Rq):Bool:= !tabIs l r&&decide (4≤l.countP (fun t=>t.r.client==r.client))
def tabE (f:Nat) (cl:Int) (l:List Td) (r:Rq) (node:Int):Int:=if ztc f cl r node then 1 else if zee l r then 3 else 0
def tabIn (l:List Td) (r:Rq):List Td:=if tabIs l r then l else l.insertIdx (tabK l r) (newTd r)
def zet (f:Nat) (cl:Int) (l:List Td) (r:Rq) (node clock:Int):List Td:=
 if tabE f cl l r node=0 then (tabIn l r).modify (tabK l r) (tellT f node.toNat clock) else l
def zcl (l:List Td) (r:Rq) (node:Int):Bool:=match l[tabK l r]? with
 | some t=>decide (t.r=r)&&(decide (0≤node)&&t.by_.getD node.toNat false)
 | none=>false
def za8 (l:List Td) (r:Rq):Option Int:=match l[tabK l r]? with
 | some t=>if t.r=r∧t.ready then some t.since else none
 | none=>none
def zai (l:List Td):List Rq:=(l.filter (·.ready)).map (·.r)
def tabAll (l:List Td):List Rq:=l.map (·.r)
def ztd (l:List Td) (client time:Int):List Td:=l.filter fun t=>decide (t.r.client≠client) || decide (time<t.r.time)
abbrev NSt:=Ns×Nt
def zaz (n:Nat) (id:Int):List Int:=((List.range n).map fun (k:Nat)=>(k:Int)).filter (fun k=>decide (k≠id))
def zjr (m:Ms) (i:Int):Ms:= {m with fm:=i}
def sendS (p:NSt) (m:Ms):NSt:=match sealP p.2 (zjr m p.1.id) with
 | (none,l')=>(p.1,l')
 | (some b,l')=>({p.1 with out:=p.1.out++(zaz (3*p.1.c.f+1) p.1.id).map fun k=>(k,b)},l')
def sendB (p:NSt) (m:Ms):Bool:=(sealP p.2 (zjr m p.1.id)).1.isSome
def sendN (p:NSt) (m:Ms):Int:=if sendB p m then msS p.2 (zjr m p.1.id) else 0
def repM (id client time res:Int):Ms:=⟨10,id,0,client,time,res,[],[],[],[]⟩
def zv6 (p:NSt) (client time res:Int):NSt:=match sealP p.2 (repM p.1.id client time res) with
 | (none,l')=>(p.1,l')
 | (some b,l')=>({p.1 with out:=p.1.out++[(100+client,b)]},l')
def prgM (r:Rq):Ms:=⟨2,0,0,0,0,0,[r],[],[],[]⟩
def propS (p:NSt) (r:Rq):NSt:=sendS p (prgM r)
def noIn:In:=⟨1,0,1,0,false,[]⟩
def insAt (s:Ns) (k:Nat):In:=s.ins.getD k noIn
def zbp (s:Ns) (k:Nat) (st:In):Ns:= {s with ins:=s.ins.set k st}
def balM' (kind view k seq:Int) (rs:List Rq):Ms:=⟨kind,0,view,k,seq,0,rs,[],[],[]⟩
def zch (kind:Int) (k:Nat) (seq:Int) (rs:List Rq) (p:NSt):NSt:=
 let m:=balM' kind p.1.view k seq rs
 let q:=sendS p m
 (zbp q.1 k (voteI (insAt q.1 k) kind seq q.1.id (sendN p m) rs),q.2)
def zy6 (k:Nat) (t:Int) (s:Ns):Ns:=if 0≤t∧t≤1048576 then {s with mt:=s.mt.modify k fun z=>(z.1+1,z.2+t)} else s
def zlr (k:Nat) (s:Ns) (r:Rq):Ns:=match za8 s.tab r with
 | some t=>zy6 k (s.now-t) s
 | none=>s
def zqu (k:Nat) (s:Ns) (rs:List Rq):Ns:=rs.foldl (zlr k) s
def zbn (st:List (Bool×Int)) (r:Rq):Int×List (Bool×Int):=
 if r.key<0∨64≤r.key∨r.val≤ -2147483648∨2147483648≤r.val then (0,st) else
 let was:=(st.getD r.key.toNat (false,0)).2
 if r.kind=1 then (was,st.set r.key.toNat (true,r.val)) else
 if r.kind=2 then (was,st) else
 if r.kind=3 then (if¬(-2147483648<was+r.val∧was+r.val<2147483648) then (was,st) else (was+r.val,st.set r.key.toNat (true,was+r.val))) else
 if r.kind=4 then (was,st.set r.key.toNat (false,0)) else
 if r.kind=5 then ((st.map Prod.snd).sum,st) else (0,st)
def lastL (b:Lp) (c:Int):Int:=if 0≤c∧c<b.rp.length then (b.rp.getD c.toNat (0,0)).1 else 0
def stepL (b:Lp) (r:Rq):Lp×List En:=
 if r.client<0∨b.clients≤r.client∨r.time≤lastL b r.client then (b,[]) else
 let a:=zbn b.st r
 ({b with st:=a.2,rp:=b.rp.set r.client.toNat (r.time,a.1)},[⟨r,a.1⟩])
def zf6 (b:Lp) (rs:List Rq):Lp×List En:=rs.foldl (fun q r=>((stepL q.1 r).1,q.2++(stepL q.1 r).2)) (b,[])
def runL (b:Lp) (rs:List Rq):Lp×List En:=let q:=zf6 b rs;({q.1 with es:=b.es++q.2},q.2)
def zhk (q:NSt) (e:En):NSt:=let q':=zv6 q e.rq.client e.rq.time e.res;({q'.1 with tab:=ztd q'.1.tab e.rq.client e.rq.time},q'.2)
def zhb (p:NSt):NSt:=
 let s:Ns:= {p.1 with run:=p.1.run+1}
 let r:=runL s.bk ((zbb (insAt s 0) s.run).getD noCp).rs
 r.2.foldl zhk ({s with bk:=r.1},p.2)
def runGo:Nat→NSt→NSt
 | 0,p=>p
 | n+1,p=>if p.1.run<doneI (insAt p.1 0) then runGo n (zhb p) else p
def doneS (k:Nat) (rs:List Rq) (p:NSt):NSt:=
 let s:=zqu k p.1 rs
 if k≠0 then (s,p.2) else
 let q:=runGo 16 (s,p.2)
 if 16≤q.1.run then ({q.1 with stop:=true},q.2) else q
def setRow (l:List (List Int)) (k j:Nat) (v:Int):List (List Int):=l.modify k fun r=>r.set j v
def lookS (k:Nat) (seq:Int) (p:NSt):NSt:=
 let p1:NSt:=match prepI (insAt p.1 k) seq with
  | some c=>zch 5 k seq c.rs ({zbp p.1 k (zbi (insAt p.1 k) seq) with com:=setRow p.1.com k seq.toNat (p.1.view+1)},p.2)
  | none=>p
 match commI (insAt p1.1 k) seq with
 | some c=>doneS k c.rs (zbp p1.1 k (zbk (insAt p1.1 k) seq),p1.2)
 | none=>p1
def zcz (k:Nat) (seq:Int) (p:NSt):NSt:=lookS k seq (zch 4 k seq (zbl (insAt p.1 k) seq).1 p)
def zpv (ps:List Pa):List Cp:=ps.flatMap (·.cs)
def greatP (inst:Int) (ps:List Pa):Int:=(zpv ps).foldl (fun n c=>if c.inst=inst∧c.seq≤16 then max n c.seq else n) 0
def bestP (inst seq:Int) (ps:List Pa):Option Cp:=(zpv ps).foldl (fun b c=>if c.inst=inst∧c.seq=seq∧(∀d,b=some d→d.view<c.view) then some c else b) none
def zyo (inst:Int) (ps:List Pa):List (List Rq):=(List.range (greatP inst ps).toNat).map fun (j:Nat)=>((bestP inst ((j:Int)+1) ps).getD noCp).rs
def zzi (k:Nat) (ps:List Pa) (p:NSt):NSt:=
 let bs:=zyo k ps
 let q:=(List.range bs.length).foldl (fun q (j:Nat)=>zcz k ((j:Int)+1) q) (zbp p.1 k (zzh (insAt p.1 k) bs),p.2)
 if k=0 then ({q.1 with since:=q.1.now,start:=q.1.now},q.2) else q
def lowP (s:Ns):List Pa:=((s.pts.filter fun q=>decide (0<s.view)&&decide (q.1=s.view)).map Prod.snd).take (2*s.c.f+1)
def nvM (id view k:Int) (ps:List Pa):Ms:=⟨8,id,view,k,0,0,[],[],[],ps⟩
def zyp (p:NSt) (k:Nat):NSt:=
 if (insAt p.1 k).on || !decide (zak p.1.c.f p.1.view k=p.1.id) || !decide ((lowP p.1).length=2*p.1.c.f+1) then p else
 let m:=nvM p.1.id p.1.view k (lowP p.1)
 zzi k (lowP p.1) (sendS ({p.1 with bg:=p.1.bg.set k (p.1.view,m)},p.2) m)
def beginS (p:NSt):NSt:=(List.range (p.1.c.f+1)).foldl zyp p
def zp4 (s:Ns):List Cp:=s.ins.flatMap certsI
def vcM (id view:Int) (vs:Vs) (cs:List Cp):Ms:=⟨7,id,view,0,0,0,[],vs,cs,[]⟩
def gone (w:Int) (s:Ns):Ns:= {s with view:=w,ins:=s.ins.map (leaveI · w),since:=s.now,start:=s.now,mt:=s.mt.map fun _=>(0,0),vo:=s.vo.map (dropV w)}
def moveS (w:Int) (vs:Vs) (p:NSt):NSt:=
 let s:=gone w p.1
 let m:=vcM s.id w vs (zp4 s)
 let q:=sendS (s,p.2) m
 beginS ({q.1 with pts:=q.1.pts.set s.id.toNat (w,⟨s.id,vs,zp4 s,sendN (s,p.2) m⟩)},q.2)
def chM (w:Int):Ms:=⟨6,0,w,0,0,0,[],[],[],[]⟩
def enoughP (s:Ns) (w:Int):Bool:=decide ((zkh s.vo w (2*s.c.f+1)).length=2*s.c.f+1)
def zt1 (w:Int) (p:NSt):NSt:=if enoughP p.1 w then moveS (w+1) (zkh p.1.vo w (2*p.1.c.f+1)) p else p
def zfk (p:NSt):NSt:=
 let w:=p.1.view
 if 12≤w∨w≤p.1.voted then p else
 let p1:NSt:=({p.1 with voted:=w},p.2)
 let q:=sendS p1 (chM w)
 zt1 w ({q.1 with vo:=putL q.1.vo q.1.id w (sendN p1 (chM w))},q.2)
def replyOf (b:Lp) (c t:Int):Int:=if 0≤c∧c<b.rp.length∧1≤t∧(b.rp.getD c.toNat (0,0)).1=t then (b.rp.getD c.toNat (0,0)).2 else 0
def putT (s:Ns) (r:Rq) (node:Int):Ns:= {s with tab:=zet s.c.f s.c.cl s.tab r node s.now}
def zbw (m:Ms) (p:NSt):Int×NSt:=
 let r:=m.rs.headD ⟨0,0,0,0,0,0⟩
 if !rqSealed p.2 p.1.c.cl r then (3,p) else
 if r.time≤lastL p.1.bk r.client then
  (if m.kind≠1∨r.time≠lastL p.1.bk r.client then (1,p) else (0,zv6 p r.client r.time (replyOf p.1.bk r.client r.time))) else
 let node:=if m.kind=1 then p.1.id else m.fm
 if zcl p.1.tab r node then (1,p) else
 if !zcl p.1.tab r p.1.id&&decide (tabE p.1.c.f p.1.c.cl p.1.tab r p.1.id≠0) then (2,p) else
 let q:=if zcl p.1.tab r p.1.id then p else propS (putT p.1 r p.1.id,p.2) r
 (0,if m.kind=2 then (putT q.1 r node,q.2) else q)
def noPa:Pa:=⟨0,[],[],0⟩
def zqd (src:Int) (q:Int×NSt):NSt:=
 let s:=q.2.1
 (if q.1=0 then {s with used:=s.used+1} else if q.1=1 then {s with stale:=s.stale+1} else if q.1=2 then {s with full:=s.full+1} else
  {s with gd:=bumpP s.c.fl s.c.sh s.now src s.gd,bad:=s.bad+1},q.2.2)
def pickB (i:In) (bt:Int) (rs:List Rq):List Rq:=rs.foldl (fun b r=>if (b.length:Int)<bt∧ !usedI i r then b++[r] else b) []
def zaw (p:NSt) (k:Nat):NSt:=
 let i:=insAt p.1 k
 let seq:Int:=nextI i
 if !i.on || !decide (zak p.1.c.f p.1.view k=p.1.id) || decide (16<seq) || decide ((doneI i:Int)+p.1.c.ah<seq) then p else
 let b:=pickB i p.1.c.bt (zai p.1.tab)
 if b.isEmpty || !preB i seq then p else
 zcz k seq (sendS ({zbp p.1 k (preI i seq b) with pre:=setRow p.1.pre k seq.toNat (p.1.view+1)},p.2) (balM' 3 p.1.view k seq b))
def rowAt (l:List (List Int)) (k j:Nat):Int:=(l.getD k []).getD j 0
def slotOne (k:Nat) (p:NSt) (j:Nat):NSt:=
 let seq:Int:=j+1
 let i:=insAt p.1 k
 if !(zbl i seq).2 || (zbb i seq).isSome then p else
 let b:=(zbl i seq).1
 let p1:=if decide (zak p.1.c.f p.1.view k=p.1.id)&&decide (rowAt p.1.pre k (j+1)=p.1.view+1) then sendS p (balM' 3 p.1.view k seq b) else p
 let p2:=sendS p1 (balM' 4 p.1.view k seq b)
 if rowAt p.1.com k (j+1)=p.1.view+1 then sendS p2 (balM' 5 p.1.view k seq b) else p2
def slotsS (p:NSt) (k:Nat):NSt:=if (insAt p.1 k).on then (List.range 16).foldl (slotOne k) p else p
def vcMs (s:Ns):Ms:=let a:=(s.pts.getD s.id.toNat (0,noPa)).2;⟨7,0,s.view,0,0,0,[],a.vs,a.cs,[]⟩
def bgOne (p:NSt) (b:Int×Ms):NSt:=if b.1=p.1.view∧0<b.1 then sendS p b.2 else p
def pfM (c:Cp):Ms:=⟨9,0,0,0,0,0,[],[],[c],[]⟩
def pfOne (p:NSt) (i:In):NSt:=if 0<doneI i then sendS p (pfM ((zbb i (1+(p.1.now/p.1.c.ag)%(doneI i:Int))).getD noCp)) else p
def tellOne (p:NSt) (r:Rq):NSt:=if zcl p.1.tab r p.1.id then propS p r else p
def allOn (s:Ns):Bool:=s.ins.all (·.on)
def zle (p:NSt):NSt:=
 let p1:=(List.range (p.1.c.f+1)).foldl slotsS p
 let p2:=if p1.1.voted=p1.1.view then sendS p1 (chM p1.1.view) else p1
 let p3:=if allOn p2.1 then p2 else sendS p2 (vcMs p2.1)
 let p4:=p3.1.bg.foldl bgOne p3
 let p5:=p4.1.ins.foldl pfOne p4
 (tabAll p5.1.tab).foldl tellOne p5
def oldP (s:Ns):Bool:=(zai s.tab).any fun r=>decide (s.c.la<s.now-max ((za8 s.tab r).getD 0) s.since)
def slowP (c:Cf) (l:List (Int×Int)):Bool:=match l with
 | []=>false
 | z::b=> !b.isEmpty&&decide (z.1*c.de*b.length<c.nu*(b.map Prod.fst).sum)
def lateP (c:Cf) (l:List (Int×Int)):Bool:=match l with
 | []=>false
 | z::b=> !b.isEmpty&&(decide (0<z.1)&&(decide (0<(b.map Prod.fst).sum)&&decide ((b.map Prod.snd).sum*z.1+c.om*z.1*(b.map Prod.fst).sum<z.2*(b.map Prod.fst).sum)))
def zcu (c:Cf) (l:List (Int×Int)):Bool:=slowP c l || lateP c l
def zkk (s:Ns):Ns:= {s with mt:=s.mt.map fun _=>(0,0)}
def zk6 (p:NSt):NSt:=
 if p.1.now<p.1.start+p.1.c.pe then p else
 let q:=if (insAt p.1 0).on&&zcu p.1.c p.1.mt then zfk p else p
 ({zkk q.1 with start:=q.1.now},q.2)
def tickS (p:NSt):NSt:=
 if p.1.stop then p else
 if 1048576≤p.1.now then ({p.1 with stop:=true},p.2) else
 let p1:=(List.range (p.1.c.f+1)).foldl zaw ({p.1 with now:=p.1.now+1},p.2)
 let p2:=if p1.1.now%p1.1.c.ag=0 then zle p1 else p1
 let p3:=if !(insAt p2.1 0).on&&decide (p2.1.since+p2.1.c.wa≤p2.1.now) then zfk p2 else p2
 let p4:=if (insAt p3.1 0).on&&oldP p3.1 then zfk p3 else p3
 zk6 p4
theorem zwf (l:Nt) (p:Int) (b:Bys):sealL (sealL l p b) p b=sealL l p b:=by
 have h:=ze4 l p b;generalize sealL l p b=l2 at*;unfold sealL;rw [if_pos h]
section
variable {B:Nat} {w0 w W W':World} {ss rs:List Res} {x:Np} {s s':Ns} {l l':Nt}
theorem zvg {m:Mm} {b:Bys} (h:NdIs B w0 W x s l (mmR m ss)) (hm:MmOk m) (hb:bodyP m.ms=some b) (hfm:m.fm=s.id) (hn:l.length≤1000000000):
  Calls Tryz.prog 219 #[ptrV x.p,.agg (mmA m)] W fun e w'=>e= .returned (.int .i64 (sealN l s.id b))∧NdIs B w0 w' x s (sealL l s.id b) (mmR m ss):=by
 have hok:=h.ok;have hid0:=hok.id0;have hid1:=hok.id1;have hf2:=hok.c.f2;have hsk:SOk (s.id,b):=hfm ▸ zgl hb (by show _≤m.fm;rw [hfm];omega) (by show m.fm≤_;rw [hfm];omega);have h7:NdIs B w0 (W.alloc (mmO m)) x s l (mmR m (blk W.heap.size (mmO m)::ss)):=(h.box (mmO m)).perm ((List.perm_append_comm (l₁:=[_]) (l₂:=[_,_,_,_,_,_])).append_right ss);obtain ⟨r,hs,hback⟩:=h7.side;have HB:=zq (zp0 (ss:=blk W.heap.size (mmO m)::(ss++[r])) hs hm);rw [hb] at HB;have HK:=zq hback;have hb0:(W.alloc (mmO m)).heap[W.heap.size]?=some (mmO m):=heap_alloc_new W _;have HS:=zq hsk;clear hok hback h7 hm hb hid0 hid1 hf2 hsk hfm;obtain ⟨kind,fm,view,inst,seq,res,vb,rs,vv,vs,vc,cts,vp,pts⟩:=m;obtain ⟨a1,c1,rfl⟩: ∃a c,vb= .slice a rs.length c:=let ⟨a,c,e,_⟩:=zae (k:=5) hs rfl;⟨a,c,e⟩;obtain ⟨a2,c2,rfl⟩: ∃a c,vv= .slice a vs.length c:=let ⟨a,c,e,_⟩:=zae (k:=4) hs rfl;⟨a,c,e⟩;obtain ⟨a3,c3,rfl⟩: ∃a c,vc= .slice a cts.length c:=let ⟨a,c,e,_⟩:=zae (k:=2) hs rfl;⟨a,c,e⟩;obtain ⟨a4,c4,rfl⟩: ∃a c,vp= .slice a pts.length c:=let ⟨a,c,e,_⟩:=zae (k:=0) hs rfl;⟨a,c,e⟩;clear hs h;go_enter Tryz.func219,Tryz.ntmps219
 go_wp2_with fail
 refine HB.out.mono ?_;rintro e w1 ⟨v1,rfl,h2⟩;simp only [bysO,Option.getD_some] at h2;have h3:=HK.out w1 (bysR v1 b::mmR ⟨kind,fm,view,inst,seq,res,.slice a1 rs.length c1,rs,.slice a2 vs.length c2,vs,.slice a3 cts.length c3,cts,.slice a4 pts.length c4,pts⟩ (blk W.heap.size (mmO ⟨kind,fm,view,inst,seq,res,.slice a1 rs.length c1,rs,.slice a2 vs.length c2,vs,.slice a3 cts.length c3,cts,.slice a4 pts.length c4,pts⟩)::ss)) h2;obtain ⟨r2,h4,hk2⟩:=h3.drew.sideN;have HY:Byt w1.drew v1 b:=⟨zao (k:=2) h4 rfl,HS.out.b⟩;have c15:=h3.drew.cell 15 rfl (by decide);have c16:=h3.drew.cell 16 rfl (by decide);have HSE:=zq (zml h4 h3.nok HS.out HY hn);have HK2:=zq hk2;have HN3:=zq h3.nok;obtain ⟨ao,cap,rfl,-,-⟩:=zcp HY;clear h2 h3 h4 HY hk2 HB HK hb0;simp only [Option.isSome_some]
 go_upto_region 2 with fail
 refine Mix.wp_text2 (by kernel_rfl) (by kernel_rfl) ?_
 go_wp2_with fail
 refine HSE.out.mono ?_;rintro e w2 ⟨rfl,h5⟩;have HF:=zq ((HK2.out w2 (sealL l s.id b) _ (zhd HN3.out HS.out) h5).drop);clear h5 HK2 HSE
 go_wp2_with fail
 refine ⟨by rfl,?_⟩
 go_wp2_with fail
 go_ret
 refine ⟨rfl,(HF.out.perm ((List.perm_append_comm (l₁:=[_,_,_,_,_,_]) (l₂:=[_])).append_right ss)).drop⟩
end
theorem Tryz.infoSd2:(Tryz.prog.info? 62).map (fun i=>(i.zero,i.size,i.bytes))=some (some (.agg #[.int .i64 0,.slice none 0 0]),2,32):=by kernel_rfl
theorem sealP_ok {l:Nt} {m:Ms} (h:NtOk l) (h1: -9223372036854775808≤m.fm) (h2:m.fm≤9223372036854775807):NtOk (sealP l m).2:=by
 unfold sealP;cases hb:bodyP m with
 | none=>exact h
 | some b=>exact zhd h (zgl hb h1 h2)
theorem zkp {l:Nt} {m:Ms} {e:Bys} (h:(sealP l m).1=some e): ∃b,bodyP m=some b∧e=numB (sealN l m.fm b)++b∧e.length≤65536∧(sealP l m).2=sealL l m.fm b∧numOk (sealN l m.fm b)=true:=by
 unfold sealP at h⊢;cases hb:bodyP m with
 | none=>rw [hb] at h;simp at h
 | some b=>
  rw [hb] at h;simp only at h⊢;unfold envP at h;split at h
  ·rename_i hc
   simp only [Bool.and_eq_true,decide_eq_true_eq] at hc;simp only [Option.some.injEq] at h;exact ⟨b,rfl,h.symm,by rw [←h,List.length_append];exact hc.2,rfl,hc.1⟩
  ·simp at h
theorem zsy {l:Nt} {m:Ms} {e:Bys} (h:(sealP l m).1=some e): ∀c∈e,c<256:=by
 obtain ⟨b,h1,h2,-,-,h3⟩:=zkp h;subst h2;exact za3 (zbo h3) (zex h1).1
theorem zgf {l:Nt} {m:Ms}:(sealP l m).2.length≤l.length+1:=by
 unfold sealP;cases bodyP m with
 | none=>simp
 | some b=>simp only;unfold sealL;split<;>simp
theorem zgz (k:Nat) (id:Int):zaz (k+1) id=zaz k id++if (k:Int)=id then [] else [(k:Int)]:=by
 unfold zaz;rw [List.range_succ,List.map_append,List.filter_append];congr 1
 by_cases h:(k:Int)=id<;>simp [h]
theorem zh2 (n:Nat) (id:Int):(zaz n id).length≤n:=by
 unfold zaz;exact Nat.le_trans (List.length_filter_le _ _) (by simp)
section
variable {B:Nat} {w0 w W W':World} {ss rs:List Res} {x:Np} {s s':Ns} {l l':Nt}
theorem ziu {m:Mm} (h:NdIs B w0 W x s l (mmR m ss)) (hm:MmOk m) (hn:l.length≤900000000) (ho:s.out.length≤900000000):
  Calls Tryz.prog 160 #[ptrV x.p,.agg (mmA m)] W fun e w'=>e= .returned (.tuple #[.int .i64 (sendN (s,l) m.ms),.bool (sendB (s,l) m.ms)])∧NdIs B w0 w' x (sendS (s,l) m.ms).1 (sendS (s,l) m.ms).2 (mmR m ss):=by
 obtain ⟨i0,hi,hz0,hz1,hz2⟩:=info_parts Tryz.infoU8;obtain ⟨j0,hj,hy0,hy1,hy2⟩:=info_parts Tryz.infoSd2;have hok:=h.ok;have hid0:=hok.id0;have hid1:=hok.id1;have hf1:=hok.c.f1;have hf2:=hok.c.f2;have c15:=(h.alloc (mmO m)).cell 15 rfl (by decide);have hb0:(W.alloc (mmO m)).heap[W.heap.size]?=some (mmO m):=heap_alloc_new W _;obtain ⟨kind,fm,view,inst,seq,res,vb,rs,vv,vs,vc,cts,vp,pts⟩:=m;obtain ⟨r0,hs0,-⟩:=h.side;obtain ⟨a1,c1,rfl⟩: ∃a c,vb= .slice a rs.length c:=let ⟨a,c,e,_⟩:=zae (k:=5) hs0 rfl;⟨a,c,e⟩;obtain ⟨a2,c2,rfl⟩: ∃a c,vv= .slice a vs.length c:=let ⟨a,c,e,_⟩:=zae (k:=4) hs0 rfl;⟨a,c,e⟩;obtain ⟨a3,c3,rfl⟩: ∃a c,vc= .slice a cts.length c:=let ⟨a,c,e,_⟩:=zae (k:=2) hs0 rfl;⟨a,c,e⟩;obtain ⟨a4,c4,rfl⟩: ∃a c,vp= .slice a pts.length c:=let ⟨a,c,e,_⟩:=zae (k:=0) hs0 rfl;⟨a,c,e⟩;obtain ⟨m,hmdef⟩: ∃m:Mm,m=⟨kind,s.id,view,inst,seq,res,.slice a1 rs.length c1,rs,.slice a2 vs.length c2,vs,.slice a3 cts.length c3,cts,.slice a4 pts.length c4,pts⟩:=⟨_,rfl⟩;have hmok:MmOk m:=by subst hmdef;exact ⟨hm.r,hm.v,hm.c,hm.p⟩
 have hmfm:m.fm=s.id:=by subst hmdef;rfl
 have hmms:zjr (Mm.ms ⟨kind,fm,view,inst,seq,res,.slice a1 rs.length c1,rs,.slice a2 vs.length c2,vs,.slice a3 cts.length c3,cts,.slice a4 pts.length c4,pts⟩) s.id=m.ms:=by subst hmdef;rfl
 have H7:Hid (NdIs B w0 (W.alloc (mmO m)) x s l (mmR m (blk W.heap.size (mmO m)::ss))):=zq (by
  have h8:NdIs B w0 W x s l (mmR m ss):=by subst hmdef;exact h
  exact (h8.box (mmO m)).perm ((List.perm_append_comm (l₁:=[_]) (l₂:=[_,_,_,_,_,_])).append_right ss))
 have HS:Hid (sendS (s,l) (Mm.ms ⟨kind,fm,view,inst,seq,res,.slice a1 rs.length c1,rs,.slice a2 vs.length c2,vs,.slice a3 cts.length c3,cts,.slice a4 pts.length c4,pts⟩)=match sealP l m.ms with
  | (none,l')=>(s,l')
  | (some b,l')=>({s with out:=s.out++(zaz (3*s.c.f+1) s.id).map fun k=>(k,b)},l')):=zq (by unfold sendS;simp only;rw [hmms];try rfl)
 have HB:Hid (sendB (s,l) (Mm.ms ⟨kind,fm,view,inst,seq,res,.slice a1 rs.length c1,rs,.slice a2 vs.length c2,vs,.slice a3 cts.length c3,cts,.slice a4 pts.length c4,pts⟩)=(sealP l m.ms).1.isSome):=zq (by unfold sendB;simp only;rw [hmms]);have HN:Hid (sendN (s,l) (Mm.ms ⟨kind,fm,view,inst,seq,res,.slice a1 rs.length c1,rs,.slice a2 vs.length c2,vs,.slice a3 cts.length c3,cts,.slice a4 pts.length c4,pts⟩)=if (sealP l m.ms).1.isSome then msS l m.ms else 0):=zq (by unfold sendN sendB;simp only;rw [hmms]);generalize sendS (s,l) (Mm.ms ⟨kind,fm,view,inst,seq,res,.slice a1 rs.length c1,rs,.slice a2 vs.length c2,vs,.slice a3 cts.length c3,cts,.slice a4 pts.length c4,pts⟩)=sS at*;generalize sendB (s,l) (Mm.ms ⟨kind,fm,view,inst,seq,res,.slice a1 rs.length c1,rs,.slice a2 vs.length c2,vs,.slice a3 cts.length c3,cts,.slice a4 pts.length c4,pts⟩)=sB at*;generalize sendN (s,l) (Mm.ms ⟨kind,fm,view,inst,seq,res,.slice a1 rs.length c1,rs,.slice a2 vs.length c2,vs,.slice a3 cts.length c3,cts,.slice a4 pts.length c4,pts⟩)=sN at*;show Calls _ _ _ _ fun e w'=>_∧NdIs B w0 w' x sS.1 sS.2 (mmR ⟨kind,fm,view,inst,seq,res,.slice a1 rs.length c1,rs,.slice a2 vs.length c2,vs,.slice a3 cts.length c3,cts,.slice a4 pts.length c4,pts⟩ ss);obtain ⟨FIN,HFIN⟩: ∃F:World→Prop,Hid (∀w',NdIs B w0 w' x sS.1 sS.2 (mmR m ss)→F w')∧Hid (∀w',F w'→NdIs B w0 w' x sS.1 sS.2 (mmR ⟨kind,fm,view,inst,seq,res,.slice a1 rs.length c1,rs,.slice a2 vs.length c2,vs,.slice a3 cts.length c3,cts,.slice a4 pts.length c4,pts⟩ ss)):=⟨fun w'=>NdIs B w0 w' x sS.1 sS.2 (mmR m ss),zq (fun _ h=>h),zq (fun w' h'=>by subst hmdef;exact h')⟩;have HMD:=zq hmdef;have HMF:=zq hmfm;have HMO:=zq hmok;have hnodes:=zq (fun w=>zax (s.c.f:Int) w (by omega) (by omega));clear h hs0 hm hok hmms hmdef hmfm hmok;go_enter Tryz.func160,Tryz.ntmps160
 go_upto_region 2 with fail
 have e:=HMD.out;clear HMD;subst e;have H8:=H7;clear H7 hb0 c15;obtain ⟨r,hs,hback⟩:=H8.out.drew.sideN;have hs':Own B w0 _ (mmR ⟨kind,s.id,view,inst,seq,res,.slice a1 rs.length c1,rs,.slice a2 vs.length c2,vs,.slice a3 cts.length c3,cts,.slice a4 pts.length c4,pts⟩ (blk x.nt (noB x.nm)::ntR x.nm l::blk W.heap.size (mmO ⟨kind,s.id,view,inst,seq,res,.slice a1 rs.length c1,rs,.slice a2 vs.length c2,vs,.slice a3 cts.length c3,cts,.slice a4 pts.length c4,pts⟩)::(ss++[r]))):=hs.perm ((List.perm_append_comm (l₁:=[_,_]) (l₂:=[_,_,_,_,_,_])).append_right _);have HSE:=zq (zvc hs' HMO.out H8.out.nok (by omega) (by show _≤s.id;omega) (by show s.id≤_;omega));have HBK:=zq hback;have hbq:=hs'.blkAt 8 rfl;have c16:=H8.out.drew.cell 16 rfl (by decide);have c15':=H8.out.drew.cell 15 rfl (by decide);have HSO:Hid (∀e,(sealP l (Mm.ms ⟨kind,s.id,view,inst,seq,res,.slice a1 rs.length c1,rs,.slice a2 vs.length c2,vs,.slice a3 cts.length c3,cts,.slice a4 pts.length c4,pts⟩)).1=some e→ ∃b,bodyP (Mm.ms ⟨kind,s.id,view,inst,seq,res,.slice a1 rs.length c1,rs,.slice a2 vs.length c2,vs,.slice a3 cts.length c3,cts,.slice a4 pts.length c4,pts⟩)=some b∧(∀c∈e,c<256)∧e.length≤65536∧(sealP l (Mm.ms ⟨kind,s.id,view,inst,seq,res,.slice a1 rs.length c1,rs,.slice a2 vs.length c2,vs,.slice a3 cts.length c3,cts,.slice a4 pts.length c4,pts⟩)).2=sealL l s.id b∧msS l (Mm.ms ⟨kind,s.id,view,inst,seq,res,.slice a1 rs.length c1,rs,.slice a2 vs.length c2,vs,.slice a3 cts.length c3,cts,.slice a4 pts.length c4,pts⟩)=sealN l s.id b):=zq (fun e he=>by
  obtain ⟨b,q1,q2,q3,q4,q5⟩:=zkp he;refine ⟨b,q1,zsy he,q3,?_,?_⟩
  ·rw [q4];rfl
  ·unfold msS;rw [q1];rfl)
 have HNK:Hid (NtOk (sealP l (Mm.ms ⟨kind,s.id,view,inst,seq,res,.slice a1 rs.length c1,rs,.slice a2 vs.length c2,vs,.slice a3 cts.length c3,cts,.slice a4 pts.length c4,pts⟩)).2):=zq (sealP_ok H8.out.nok (by show _≤s.id;omega) (by show s.id≤_;omega));have HLN:Hid ((sealP l (Mm.ms ⟨kind,s.id,view,inst,seq,res,.slice a1 rs.length c1,rs,.slice a2 vs.length c2,vs,.slice a3 cts.length c3,cts,.slice a4 pts.length c4,pts⟩)).2.length≤900000001):=zq (Nat.le_trans zgf (by omega));generalize sealP l (Mm.ms ⟨kind,s.id,view,inst,seq,res,.slice a1 rs.length c1,rs,.slice a2 vs.length c2,vs,.slice a3 cts.length c3,cts,.slice a4 pts.length c4,pts⟩)=sp at*;obtain ⟨o,l2⟩:=sp;simp only at HNK HLN HSO HSE HS HB HN;clear hs hs' hback H8;refine Mix.wp_text2 (by kernel_rfl) (by kernel_rfl) ?_
 go_wp2_with fail
 refine HSE.out.mono ?_;rintro e w2 ⟨v2,rfl,h3⟩;have H4:=zq (HBK.out w2 l2 (bysR v2 (bysO o)::mmR ⟨kind,s.id,view,inst,seq,res,.slice a1 rs.length c1,rs,.slice a2 vs.length c2,vs,.slice a3 cts.length c3,cts,.slice a4 pts.length c4,pts⟩ (blk W.heap.size (mmO ⟨kind,s.id,view,inst,seq,res,.slice a1 rs.length c1,rs,.slice a2 vs.length c2,vs,.slice a3 cts.length c3,cts,.slice a4 pts.length c4,pts⟩)::ss)) HNK.out h3.rot');clear h3 HSE HBK hbq c16 c15';cases o with
 | none=>
  have e1:=HS.out;have e2:=HB.out;have e3:=HN.out;simp only [Option.isSome_none,Bool.false_eq_true,if_false] at e1 e2 e3;subst e1 e2 e3;have HF:=zq (HFIN.1.out w2 ((H4.out.drop.perm ((List.perm_append_comm (l₁:=[_,_,_,_,_,_]) (l₂:=[_])).append_right ss)).drop));clear H4;simp only [Option.isSome_none]
  go_wp2_with fail
  refine ⟨by rfl,?_⟩
  go_wp2_with fail
  go_ret2
  exact ⟨rfl,HFIN.2.out _ HF.out⟩
 | some eb=>
  obtain ⟨b,q1,q2,q3,q4,q5⟩:=HSO.out eb rfl;have HQ:=zq q1;have HQ2:=zq q2;have HQ3:=zq q3;have HQ4:=zq q4;have e1:=HS.out;have e2:=HB.out;have e3:=HN.out;simp only [Option.isSome_some,if_true] at e1 e2 e3;rw [q5] at e3;subst e1 e2 e3;clear HSO q1 q2 q3 q4 q5 HS HB HN;simp only [bysO,Option.getD_some] at H4;obtain ⟨r4,hs4,-⟩:=H4.out.side;obtain ⟨eo,ek,rfl,-,-⟩:=zao (k:=0) hs4 rfl;clear hs4;simp only [Option.isSome_some]
  go_wp2_with fail
  refine ⟨by rfl,?_⟩
  go_wp2_with fail
  go_loopw [8] (fun n wr=> ∃k:Nat,k≤3*s.c.f+1∧n= .int .i64 k∧Hid (NdIs B w0 wr x {s with out:=s.out++(zaz k s.id).map fun k=>(k,eb)} l2 (bysR (.slice eo eb.length ek) eb::mmR ⟨kind,s.id,view,inst,seq,res,.slice a1 rs.length c1,rs,.slice a2 vs.length c2,vs,.slice a3 cts.length c3,cts,.slice a4 pts.length c4,pts⟩ (blk W.heap.size (mmO ⟨kind,s.id,view,inst,seq,res,.slice a1 rs.length c1,rs,.slice a2 vs.length c2,vs,.slice a3 cts.length c3,cts,.slice a4 pts.length c4,pts⟩)::ss)))) (fun n _=>3*s.c.f+1-(intOf n).toNat)
  case atStart=>exact ⟨0,by omega,rfl,zq (by rw [show zaz 0 s.id=[] from rfl,List.map_nil,List.append_nil];exact H4.out)⟩
  case round=>
   clear H4;obtain ⟨k,hk,rfl,H1⟩:=hrel;have d0:=H1.out.cell 0 rfl (by decide);have d15:=H1.out.cell 15 rfl (by decide);by_cases hlt:k<3*s.c.f+1
   ·have hkI:(k:Int)<3*(s.c.f:Int)+1:=by omega
    by_cases hki:(k:Int)=s.id
    ·have HE:Hid (zaz (k+1) s.id=zaz k s.id):=zq (by rw [zgz,if_pos hki,List.append_nil])
     have hkb:((k:Int) !=s.id)=false:=by simp [hki]
     clear hki
     go_wp2_with fail
     refine (hnodes.out _).mono ?_;rintro e w' ⟨rfl,rfl⟩
     go_wp2_with fail
     go_roundw
     case rel=>exact ⟨k+1,by omega,by go_num,zq (by rw [HE.out];exact H1.out)⟩
     case measure=>simp [intOf];omega
    ·have HE:Hid (zaz (k+1) s.id=zaz k s.id++[(k:Int)]):=zq (by rw [zgz,if_neg hki])
     have hkb:((k:Int) !=s.id)=true:=by simp [hki]
     clear hki;obtain ⟨v,rr,hvo,hO,hB⟩:=H1.out.drew.outs;obtain ⟨av,kv,hav⟩:=hvo.ov;have HLO:Hid (v.os.length≤900000100):=zq (by
      have h1:=congrArg List.length hvo.os;rw [List.length_map,List.length_append,List.length_map] at h1;have h2:=zh2 k s.id;omega)
     have HVS:Hid (v.os.map Sd.p=s.out++(zaz k s.id).map fun k=>(k,eb)):=zq hvo.os;have HW:=zq hB;rw [hav] at hO;have HO:=zq hO;obtain ⟨c34,z34⟩:=zb9 hO 0 rfl 34 rfl;have HBR:=zq (zao (k:=3) hO rfl);have HBO:=zq (zfg eb);clear hO hB hvo
     go_wp2_with fail
     refine (hnodes.out _).mono ?_;rintro e w' ⟨rfl,rfl⟩
     go_wp2_with fail
     refine Held.wp_held [(x.p,34,[.slice av v.os.length kv])] [(4,0)] [13] [(8,true),(3,true)] (by kernel_rfl) (by kernel_rfl) ⟨⟨c34,trivial⟩,trivial⟩ ?_;simp only [Held.cutAt,Held.walk,List.take_succ_cons,List.take_zero,List.drop_succ_cons,List.drop_zero]
     go_wp2_with (at_builtin;refine zew rfl (.tmp 47) 60 rfl 5 i0 (.int .u8 0) 1 1 Tryz.underlying60 hi hz0 hz1 hz2 rfl (by decide) _ _ _ rfl HBR.out HBO.out (by have:=HQ3.out;omega) ?_)
     intro v5 w5 ho5 hu5;obtain ⟨b5,k5,rfl⟩:=zgd ho5;have h5:Own B w0 w5 (bysR (.slice b5 eb.length k5) eb::segR x.p 141 (nsC x {s with out:=s.out++(zaz k s.id).map fun k=>(k,eb)} (.slice av v.os.length kv))::ownR 62 2 (.slice av v.os.length kv) v.os.length (v.os.flatMap sdC)::sdsR v.os::((bysR (.slice eo eb.length ek) eb::mmR ⟨kind,s.id,view,inst,seq,res,.slice a1 rs.length c1,rs,.slice a2 vs.length c2,vs,.slice a3 cts.length c3,cts,.slice a4 pts.length c4,pts⟩ (blk W.heap.size (mmO ⟨kind,s.id,view,inst,seq,res,.slice a1 rs.length c1,rs,.slice a2 vs.length c2,vs,.slice a3 cts.length c3,cts,.slice a4 pts.length c4,pts⟩)::ss))++rr)):=HO.out.row1 hu5 ho5;have HX:=zq (h5.box (.cells #[.int .i64 k,.slice b5 eb.length k5] 62 (0,0)));have HN5:=zq (heap_alloc_new w5 (.cells #[.int .i64 k,.slice b5 eb.length k5] 62 (0,0)));obtain ⟨e34,-⟩:=zb9 h5 1 rfl 34 rfl;clear ho5 hu5 h5 HO HBR c34 z34
     go_wp2_with fail
     refine ⟨⟨⟨e34,trivial⟩,trivial⟩,?_⟩
     go_wp2_with (at_builtin;refine za9 rfl (.tmp 45) (.tmp 50) 54 rfl 62 j0 (.agg #[.int .i64 0,.slice none 0 0]) 2 32 Tryz.underlying54 hj hy0 hy1 hy2 rfl (by decide) HX.out 3 (.slice av v.os.length kv) v.os.length (v.os.flatMap sdC) rfl rfl w5.heap.size #[.int .i64 k,.slice b5 eb.length k5] 62 (0,0) rfl HN5.out rfl (by simp [Value.oneCell']) (by have:=HLO.out;unfold maxLen;omega) (by have:=HLO.out;omega) ?_)
     intro g6 cap6 w6 h6;have h7:Own B w0 w6 (bysR (.slice b5 eb.length k5) eb::segR x.p 141 (nsC x {s with out:=s.out++(zaz k s.id).map fun k=>(k,eb)} (.slice av v.os.length kv))::ownR 62 2 (.slice (some ⟨g6,0,none⟩) (v.os.length+1) cap6) (v.os.length+1) (v.os.flatMap sdC++[.int .i64 k,.slice b5 eb.length k5])::sdsR v.os::((bysR (.slice eo eb.length ek) eb::mmR ⟨kind,s.id,view,inst,seq,res,.slice a1 rs.length c1,rs,.slice a2 vs.length c2,vs,.slice a3 cts.length c3,cts,.slice a4 pts.length c4,pts⟩ (blk W.heap.size (mmO ⟨kind,s.id,view,inst,seq,res,.slice a1 rs.length c1,rs,.slice a2 vs.length c2,vs,.slice a3 cts.length c3,cts,.slice a4 pts.length c4,pts⟩)::ss))++rr)):=h6.drop;obtain ⟨f34,y34⟩:=zb9 h7 1 rfl 34 rfl;have h8:=h7.toRed.putAt 1 rfl 34 (.slice (some ⟨g6,0,none⟩) (v.os.length+1) cap6);have h9:Own B w0 (w6.setCell ⟨x.p,34,none⟩ (.slice (some ⟨g6,0,none⟩) (v.os.length+1) cap6)) (segR x.p 141 (nsC x {s with out:=s.out++(zaz k s.id).map fun k=>(k,eb)} (.slice (some ⟨g6,0,none⟩) (v.os++[(⟨k,.slice b5 eb.length k5,eb⟩:Sd)]).length cap6))::ownR 62 2 (.slice (some ⟨g6,0,none⟩) (v.os++[(⟨k,.slice b5 eb.length k5,eb⟩:Sd)]).length cap6) (v.os++[(⟨k,.slice b5 eb.length k5,eb⟩:Sd)]).length ((v.os++[(⟨k,.slice b5 eb.length k5,eb⟩:Sd)]).flatMap sdC)::sdsR (v.os++[(⟨k,.slice b5 eb.length k5,eb⟩:Sd)])::((bysR (.slice eo eb.length ek) eb::mmR ⟨kind,s.id,view,inst,seq,res,.slice a1 rs.length c1,rs,.slice a2 vs.length c2,vs,.slice a3 cts.length c3,cts,.slice a4 pts.length c4,pts⟩ (blk W.heap.size (mmO ⟨kind,s.id,view,inst,seq,res,.slice a1 rs.length c1,rs,.slice a2 vs.length c2,vs,.slice a3 cts.length c3,cts,.slice a4 pts.length c4,pts⟩)::ss))++rr)):=by
      have g1:Own B w0 _ (sdsR (v.os++[(⟨k,.slice b5 eb.length k5,eb⟩:Sd)])::_):=h8.mkSds (fun c hc=>by
       rcases List.mem_append.1 hc with hc | hc
       ·exact sds_fr h8 3 rfl c hc
       ·simp only [List.mem_singleton] at hc
        subst hc;exact ⟨h8.redFr 0 rfl,HQ2.out,HQ3.out⟩)
      have g2:=((g1.dropAt 1 (by simp)).dropAt 3 (by simp)).rot'
      simpa [List.length_append,List.flatMap_append,sdC] using g2
     have HF:=zq (HW.out _ (.slice (some ⟨g6,0,none⟩) (v.os++[(⟨k,.slice b5 eb.length k5,eb⟩:Sd)]).length cap6) (v.os++[(⟨k,.slice b5 eb.length k5,eb⟩:Sd)]) _ ⟨_,_,rfl⟩ h9);have HG:Hid (({({s with out:=s.out++(zaz k s.id).map fun k=>(k,eb)}:Ns) with out:=(v.os++[(⟨k,.slice b5 eb.length k5,eb⟩:Sd)]).map Sd.p}:Ns)= {s with out:=s.out++(zaz (k+1) s.id).map fun k=>(k,eb)}):=zq (by
      rw [HE.out,List.map_append,List.map_append,HVS.out];simp [Sd.p])
     clear h6 h7 h8 h9 HX HN5
     go_wp2_with fail
     refine ⟨⟨⟨f34,trivial⟩,trivial⟩,?_⟩
     go_wp2_with fail
     refine ⟨trivial,by rfl,⟨⟨rfl,.inl ⟨by kernel_rfl,rfl⟩⟩,trivial⟩,?_⟩
     go_wp2_with fail
     go_roundw
     case rel=>exact ⟨k+1,by omega,by go_num,zq (by rw [←HG.out];exact HF.out)⟩
     case measure=>simp [intOf];omega
   ·have hkI:decide ((k:Int)<3*(s.c.f:Int)+1)=false:=by simp;omega
    have hke:k=3*s.c.f+1:=by omega
    subst hke;have h9:NdIs B w0 wr x {s with out:=s.out++(zaz (3*s.c.f+1) s.id).map fun k=>(k,eb)} l2 (mmR ⟨kind,s.id,view,inst,seq,res,.slice a1 rs.length c1,rs,.slice a2 vs.length c2,vs,.slice a3 cts.length c3,cts,.slice a4 pts.length c4,pts⟩ (bysR (.slice eo eb.length ek) eb::blk W.heap.size (mmO ⟨kind,s.id,view,inst,seq,res,.slice a1 rs.length c1,rs,.slice a2 vs.length c2,vs,.slice a3 cts.length c3,cts,.slice a4 pts.length c4,pts⟩)::ss)):=H1.out.perm ((List.perm_append_comm (l₁:=[_]) (l₂:=[_,_,_,_,_,_])).append_right _);have HC:=zq (zvg h9 HMO.out HQ.out rfl (by have:=HLN.out;omega));obtain ⟨r9,hs9,-⟩:=h9.side;have hb9:=hs9.blkAt 7 rfl;have y0:=zaa hb9 0 rfl;have y1:=zaa hb9 1 rfl;have y2:=zaa hb9 2 rfl;have y3:=zaa hb9 3 rfl;have y4:=zaa hb9 4 rfl;have y5:=zaa hb9 5 rfl;have y6:=zaa hb9 6 rfl;have y7:=zaa hb9 7 rfl;have y8:=zaa hb9 8 rfl;have y9:=zaa hb9 9 rfl;clear hb9;clear h9 hs9 H1
    go_wp2_with fail
    refine (hnodes.out _).mono ?_;rintro e w' ⟨rfl,rfl⟩
    go_wp2_with fail
    refine HC.out.mono ?_;rintro e w7 ⟨rfl,h7⟩;have HF:=zq (HFIN.1.out w7 (by
     have h8:=(h7.perm ((List.perm_append_comm (l₁:=[_,_,_,_,_,_]) (l₂:=[_,_])).append_right ss)).drop.drop;show NdIs B w0 w7 x _ l2 _;have e2:sealL l2 s.id b=l2:=by rw [show l2=sealL l s.id b from HQ4.out,zwf]
     rw [←e2];exact h8))
    have HV:Hid (sealN l2 s.id b=sealN l s.id b):=zq (by rw [show l2=sealL l s.id b from HQ4.out,zh7]);clear h7 HC
    go_wp2_with fail
    go_ret2
    rw [HV.out];exact ⟨rfl,HFIN.2.out _ HF.out⟩
end
end Go.Proofs.YtannckelmojkoaaGreat
