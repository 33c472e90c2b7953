/- Parts of the proof, one behind the other. -/
import Derived.Test.YtannckelmojkoaaGreatAgnB4
import Derived.Deep.Slices
import Derived.Deep.RegionHeld3
import Derived.Deep.DeepCutAuto
import Derived.Deep.CutBlock
import Derived.Outline
import Derived.Deep.MidRow
set_option maxHeartbeats 32000000
set_option maxRecDepth 100000
set_option linter.unusedVariables false
set_option linter.unusedSimpArgs false
namespace Go.Heap
open Go Go.ChangeShapes Go.WideShapes Go.ChangeAt Go.RowKit Go.Deep
theorem zdd {α:Type} {cells:α→List Value} {sz:Nat} (hl: ∀x,(cells x).length=sz): ∀xs:List α,(xs.flatMap cells).length=xs.length*sz
 | []=>by simp
 | x::xs=>by rw [List.flatMap_cons,List.length_append,hl,zdd hl xs,List.length_cons,Nat.succ_mul];omega
theorem flat_get {α:Type} {cells:α→List Value} {sz:Nat} (hl: ∀x,(cells x).length=sz): ∀(xs:List α) (i r:Nat) (x:α),xs[i]?=some x→r<sz→(xs.flatMap cells)[i*sz+r]?=(cells x)[r]?
 | [],i,r,x,h,_=>by simp at h
 | y::ys,0,r,x,h,hr=>by
  simp only [List.getElem?_cons_zero,Option.some.injEq] at h;subst h;rw [List.flatMap_cons,List.getElem?_append_left (by rw [hl];omega),Nat.zero_mul,Nat.zero_add]
 | y::ys,i+1,r,x,h,hr=>by
  rw [List.flatMap_cons,List.getElem?_append_right (by rw [hl,Nat.succ_mul];omega),hl];rw [show (i+1)*sz+r-sz=i*sz+r by rw [Nat.succ_mul];omega];exact flat_get hl ys i r x (by simpa using h) hr
section
variable {H:Type} {enc:TypeId×Value→H} {W:World} {P:Program} {base:Nat} {spare:Nat→Bool} {held:Bool}
end
end Go.Heap
namespace Go.Proofs.YtannckelmojkoaaGreat
open Go.RowKit Go.Heap
structure Cp where
 view:Int
 inst:Int
 seq:Int
 rs:List Rq
 vs:Vs
deriving DecidableEq
structure Pl where
 sl:Sl
 told:Bool
 has:Bool
 ct:Cp
 done:Bool
 dw:Cp
structure In where
 f:Nat
 num:Int
 ahead:Int
 view:Int
 on:Bool
 l:List Pl
def noCp:Cp:=⟨0,0,0,[],[]⟩
def zbq (f:Nat):Pl:=⟨zcb f,false,false,noCp,false,noCp⟩
def newI (f:Nat) (num ahead:Int):In:=⟨f,num,ahead,0,true,List.replicate 16 (zbq f)⟩
def In.upd (st:In) (k:Nat) (g:Pl→Pl):In:= {st with l:=st.l.modify k g}
def idx (seq:Int):Option Nat:=if 1≤seq∧seq≤16 then some (seq.toNat-1) else none
def plAt (st:In) (seq:Int):Option Pl:=(idx seq).bind fun k=>st.l[k]?
def doneI (st:In):Nat:=(st.l.takeWhile (·.done)).length
def preB (st:In) (seq:Int):Bool:=match plAt st seq with | none=>false | some p=>st.on&&decide (seq≤doneI st+st.ahead)&& !p.sl.has
def slPre (rs:List Rq) (s:Sl):Sl:=if s.has then s else {s with has:=true,batch:=rs}
def preI (st:In) (seq:Int) (rs:List Rq):In:=
 match idx seq with
 | none=>st
 | some k=>if preB st seq then st.upd k fun p=> {p with sl:=slPre rs p.sl} else st
def voteB (st:In) (kind seq node:Int):Bool:=match plAt st seq with | none=>false | some p=>st.on&&zdj p.sl kind node
def voteI (st:In) (kind seq node sl:Int) (rs:List Rq):In:=
 match idx seq with
 | none=>st
 | some k=>if st.on then st.upd k fun p=> {p with sl:=voteS p.sl kind node sl rs} else st
def prepI (st:In) (seq:Int):Option Cp:=
 match plAt st seq with
 | none=>none
 | some p=>if st.on&& !p.told then (zbi st.f p.sl).map fun vs=>⟨st.view,st.num,seq,p.sl.batch,vs⟩ else none
def zbf (st:In) (seq:Int):In:=
 match idx seq,prepI st seq with
 | some k,some c=>st.upd k fun p=> {p with told:=true,has:=true,ct:=c}
 | _,_=>st
def commI (st:In) (seq:Int):Option Cp:=
 match plAt st seq with
 | none=>none
 | some p=>if p.done then none else (zaw st.f p.sl).map fun r=>⟨st.view,st.num,seq,r.1,r.2⟩
def zbg (st:In) (seq:Int):In:=
 match idx seq,commI st seq with
 | some k,some c=>st.upd k fun p=> {p with done:=true,dw:=c}
 | _,_=>st
def zai (st:In) (seq:Int):Option Cp:=match plAt st seq with | none=>none | some p=>if p.done then some p.dw else none
def leaveB (st:In) (v:Int):Bool:=decide (st.view<v)&&decide (v≤12)
def leaveI (st:In) (v:Int):In:=if leaveB st v then {st with view:=v,on:=false,l:=st.l.map fun p=> {p with sl:=zcb st.f,told:=false}} else st
def instB (st:In) (n:Nat):Bool:= !st.on&&decide (n≤16)
def preAll:List (List Rq)→List Pl→List Pl
 | b::bs,p::ps=> {p with sl:=slPre b p.sl}::preAll bs ps
 | _,ps=>ps
def installI (st:In) (bs:List (List Rq)):In:=if instB st bs.length then {st with on:=true,l:=preAll bs st.l} else st
def certsI (st:In):List Cp:=(st.l.filter (·.has)).map (·.ct)
def zau (st:In) (seq:Int):List Rq×Bool:=match plAt st seq with | none=>([],false) | some p=>(zbj p.sl,p.sl.has)
def zdy:List Pl→Nat
 | []=>0
 | p::l=>if 0<zdy l then zdy l+1 else if p.sl.has then 1 else 0
def nextI (st:In):Nat:=zdy st.l+1
theorem zg5: ∀(l:List Pl) (k:Nat),k≤l.length→(∀j (hj:j<l.length),k≤j→l[j].sl.has=false)→(∀j (hj:j<l.length),k=j+1→l[j].sl.has=true)→zdy l=k
 | [],k,h,_,_=>by simp at h;subst h;rfl
 | p::l,k,h,h1,h2=>by
  match k with
  | 0=>
   have e:=zg5 l 0 (by simp) (fun j hj _=>h1 (j+1) (by simpa using hj) (by omega)) (fun j _ e=>by omega);have:=h1 0 (by simp) (by omega);simp at this;simp [zdy,e,this]
  | k+1=>
   have e:=zg5 l k (by simpa using h) (fun j hj hk=>h1 (j+1) (by simpa using hj) (by omega)) (fun j hj e=>h2 (j+1) (by simpa using hj) (by omega));by_cases hk:k=0
   ·subst hk
    have:=h2 0 (by simp) rfl;simp at this;simp [zdy,e,this]
   ·simp [zdy,e];omega
def usedP (r:Rq) (p:Pl):Bool:=(p.sl.has&&decide (r∈zbj p.sl)) || (p.done&&decide (r∈p.dw.rs))
def usedI (st:In) (r:Rq):Bool:=st.l.any (usedP r)
theorem zkm {seq:Int} {k:Nat} (h:idx seq=some k):k<16∧seq=(k:Int)+1:=by
 unfold idx at h;split at h
 ·simp only [Option.some.injEq] at h;omega
 ·cases h
theorem zfq {seq:Int} (h:idx seq=none):seq<1∨16<seq:=by
 unfold idx at h;split at h
 ·cases h
 ·omega
structure Ct where
 view:Int
 inst:Int
 seq:Int
 vb:Value
 vv:Value
 rs:List Rq
 vs:Vs
def Ct.cp (c:Ct):Cp:=⟨c.view,c.inst,c.seq,c.rs,c.vs⟩
def zar (c:Ct):List Value:=[.int .i64 c.view,.int .i64 c.inst,.int .i64 c.seq,c.vb,c.vv]
abbrev ctAgg (c:Ct):Value:= .agg #[.int .i64 c.view,.int .i64 c.inst,.int .i64 c.seq,c.vb,c.vv]
structure Pm where
 lc:Loc
 sl:Sl
 told:Bool
 has:Bool
 ct:Ct
 done:Bool
 dw:Ct
def Pm.pl (p:Pm):Pl:=⟨p.sl,p.told,p.has,p.ct.cp,p.done,p.dw.cp⟩
def zao (p:Pm):List Value:=[p.lc.ptr,.bool p.told,.bool p.has,.int .i64 p.ct.view,.int .i64 p.ct.inst,.int .i64 p.ct.seq,p.ct.vb,p.ct.vv,.bool p.done,.int .i64 p.dw.view,.int .i64 p.dw.inst,.int .i64 p.dw.seq,p.dw.vb,p.dw.vv]
structure Ins where
 i:Nat
 b:Nat
 cap:Nat
 f:Nat
 num:Int
 ahead:Int
 view:Int
 on:Bool
 l:List Pm
def Ins.st (x:Ins):In:=⟨x.f,x.num,x.ahead,x.view,x.on,x.l.map Pm.pl⟩
abbrev Ins.ptr (x:Ins):Value:= .pointer (some ⟨x.i,0,none⟩)
abbrev insO (f:Nat) (num ahead view:Int) (on:Bool) (v:Value):Obj:= .cells #[.int .i64 f,.int .i64 num,.int .i64 ahead,.int .i64 view,.bool on,v] 214 (0,0)
abbrev Ins.o (x:Ins):Obj:=insO x.f x.num x.ahead x.view x.on (.slice (some ⟨x.b,0,none⟩) 16 x.cap)
def VtsIn (w:World) (v:Value) (l:Vs) (D:List Nat):Prop:=za0 w v 2 l.length (zan l) D
structure CtIn (w:World) (c:Ct) (D:List Nat):Prop where
 b:BatIn w c.vb c.rs D
 bn:c.rs.length≤100000
 v:VtsIn w c.vv c.vs D
 vn:c.vs.length≤100000
theorem CtIn.dep {w w':World} {c:Ct} {D:List Nat} (h:CtIn w c D) (hk: ∀k∈D,w'.heap[k]?=w.heap[k]?) (hs:w.heap.size≤w'.heap.size):CtIn w' c D:=⟨za0.dep h.b hk hs,h.bn,za0.dep h.v hk hs,h.vn⟩
theorem CtIn.mono {w:World} {c:Ct} {D D':List Nat} (h:CtIn w c D) (hs: ∀k∈D,k∈D'):CtIn w c D':=⟨za0.mono h.b hs,h.bn,za0.mono h.v hs,h.vn⟩
structure InsOk (x:Ins):Prop where
 n:x.l.length=16
 f1:1≤x.f
 f2:x.f≤4
 lf: ∀p∈x.l,p.lc.f=x.f
 c1:16≤x.cap
 a1:1≤x.ahead
 a2:x.ahead≤16
 vw:0≤x.view∧x.view≤12
def ze6 (x:Ins):Res:=imm (fun w D=>InsOk x∧ ∀p∈x.l,CtIn w p.ct D∧CtIn w p.dw D) (fun h hk hs=>⟨h.1,fun p hp=>⟨(h.2 p hp).1.dep hk hs,(h.2 p hp).2.dep hk hs⟩⟩)
def pmR (p:Pm):Res:=slotR p.lc p.sl
def insHd (x:Ins):List Res:=[blk x.i x.o,segR x.b 241 (x.l.flatMap zao),ze6 x]
def instR (x:Ins):Res:=joinR (insHd x++x.l.map pmR)
section
variable {B:Nat} {w0 W W':World} {ss:List Res} {x:Ins}
abbrev OwnI (B:Nat) (w0 W:World) (x:Ins) (ss:List Res):Prop:=Own B w0 W (insHd x++(x.l.map pmR++ss))
theorem zdh (h:Own B w0 W (instR x::ss)):OwnI B w0 W x ss:=by
 have:=Own.open h
 rwa [List.append_assoc] at this
theorem zcm (h:OwnI B w0 W x ss):Own B w0 W (instR x::ss):=by
 have h2:Own B w0 W ((insHd x++x.l.map pmR)++ss):=by rwa [List.append_assoc]
 exact h2.shut
theorem oi_ok (h:OwnI B w0 W x ss):InsOk x:=by
 obtain ⟨D,⟨⟨h1,_⟩,_⟩,_,_⟩:=(h.all (ze6 x) (by simp [insHd])).1;exact h1
theorem own_ok (h:Own B w0 W (instR x::ss)):InsOk x:=oi_ok (zdh h)
theorem zwh (h:OwnI B w0 W x ss):W.heap[x.i]?=some x.o:=blk_out (h.all (blk x.i x.o) (by simp [insHd])).1
theorem zc1 (h:OwnI B w0 W x ss):W.cell? ⟨x.i,0,none⟩=some (.int .i64 x.f)∧W.cell? ⟨x.i,1,none⟩=some (.int .i64 x.num)∧W.cell? ⟨x.i,2,none⟩=some (.int .i64 x.ahead)∧W.cell? ⟨x.i,3,none⟩=some (.int .i64 x.view)∧
  W.cell? ⟨x.i,4,none⟩=some (.bool x.on)∧W.cell? ⟨x.i,5,none⟩=some (.slice (some ⟨x.b,0,none⟩) 16 x.cap)∧x.i<W.heap.size∧x.b<W.heap.size:=by
 have hb:=zwh h;exact ⟨by rw [zab hb];rfl,by rw [zab hb];rfl,by rw [zab hb];rfl,by rw [zab hb];rfl,by rw [zab hb];rfl,by rw [zab hb];rfl,block_lt hb,
  (zd1 (h.all (segR x.b 241 (x.l.flatMap zao)) (by simp [insHd])).1).1⟩
theorem zvk (l:List Pm) (k r:Nat) (hk:k<l.length) (hr:r<14):(l.flatMap zao)[k*14+r]?=(zao l[k])[r]?∧k*14+r<(l.flatMap zao).length:=by
 have hl:(l.flatMap zao).length=l.length*14:=zdd (cells:=zao) (sz:=14) (fun _=>rfl) l;exact ⟨flat_get (cells:=zao) (sz:=14) (fun _=>rfl) l k r l[k] (by simp) hr,by rw [hl];omega⟩
theorem oi_at (h:OwnI B w0 W x ss) (k:Nat) (hk:k<x.l.length) (r:Nat) (hr:r<14):W.cell? ⟨x.b,k*14+r,none⟩=(zao x.l[k])[r]?:=by
 obtain ⟨-,h2,-⟩:=zd1 (h.all (segR x.b 241 (x.l.flatMap zao)) (by simp [insHd])).1;obtain ⟨e1,e2⟩:=zvk x.l k r hk hr;rw [h2 _ e2,e1]
theorem oi_fz (h:OwnI B w0 W x ss):(∀o,W.frozen? ⟨x.b,o,none⟩=false)∧ ∀o,W.frozen? ⟨x.i,o,none⟩=false:=
 ⟨(zd1 (h.all (segR x.b 241 (x.l.flatMap zao)) (by simp [insHd])).1).2.2,fun o=>zac (zwh h) o⟩
theorem zef (h:OwnI B w0 W x ss) (k:Nat) (hk:k<x.l.length):Own B w0 W (pmR x.l[k]::(insHd x++((x.l.eraseIdx k).map pmR++ss))):=Own.pick h k hk
theorem zjg (k:Nat) (hk:k<x.l.length) (p:Pm) (h:Own B w0 W (pmR p::(insHd x++((x.l.eraseIdx k).map pmR++ss)))) (hc:zao p=zao x.l[k]) (hct:p.ct=x.l[k].ct∧p.dw=x.l[k].dw) (hf:p.lc.f=x.l[k].lc.f):
  OwnI B w0 W {x with l:=x.l.set k p} ss:=by
 have h1:=Own.unpick (f:=pmR) (x:=p) k hk h;have hcells:(x.l.set k p).flatMap zao=x.l.flatMap zao:=by
  apply List.ext_getElem?;intro j;have hl:(x.l.flatMap zao).length=x.l.length*14:=zdd (cells:=zao) (sz:=14) (fun _=>rfl) x.l;have hl':((x.l.set k p).flatMap zao).length=x.l.length*14:=by rw [zdd (cells:=zao) (sz:=14) (fun _=>rfl)];simp
  by_cases hj:j<x.l.length*14
  ·have h0:j/14<x.l.length:=by omega
   have e1:=(zvk x.l (j/14) (j%14) h0 (by omega)).1;have e2:=(zvk (x.l.set k p) (j/14) (j%14) (by simpa using h0) (by omega)).1;rw [show j/14*14+j%14=j by omega] at e1 e2;rw [e1,e2];by_cases hjk:k=j/14
   ·subst hjk
    rw [List.getElem_set_self,hc]
   ·rw [List.getElem_set_ne hjk]
  ·rw [List.getElem?_eq_none (by omega),List.getElem?_eq_none (by omega)]
 have hcr:Own B w0 W (insHd {x with l:=x.l.set k p}++((x.l.set k p).map pmR++ss)):=by
  have h2:Own B w0 W (ze6 x::blk x.i x.o::segR x.b 241 (x.l.flatMap zao)::((x.l.set k p).map pmR++ss)):=h1.perm (List.perm_middle (l₁:=[_,_]));have h3:=h2.alter (r':=ze6 {x with l:=x.l.set k p}) (by
   obtain ⟨D,⟨⟨q1,q2⟩,q3⟩,q4,q5⟩:=h2.head;refine ⟨D,⟨⟨⟨by simpa using q1.n,q1.f1,q1.f2,fun p' hp'=> ?_,q1.c1,q1.a1,q1.a2,q1.vw⟩,fun p' hp'=> ?_⟩,q3⟩,q4,q5⟩
   ·rcases List.mem_or_eq_of_mem_set hp' with hp' | rfl
    ·exact q1.lf p' hp'
    ·rw [hf];exact q1.lf _ (by simp)
   ·rcases List.mem_or_eq_of_mem_set hp' with hp' | rfl
    ·exact q2 p' hp'
    ·rw [hct.1,hct.2];exact q2 _ (by simp)) (by simp [ze6,imm])
  have h4:Own B w0 W ([blk x.i x.o,segR x.b 241 (x.l.flatMap zao),ze6 {x with l:=x.l.set k p}]++((x.l.set k p).map pmR++ss)):=h3.perm (List.perm_middle (l₁:=[_,_])).symm;unfold insHd;rw [hcells];exact h4
 exact hcr
end
theorem at_no (i b cap:Nat) (seq:Int) (w:World) (h:seq<1∨16<seq) (h5:w.cell? ⟨i,5,none⟩=some (.slice (some ⟨b,0,none⟩) 16 cap)):
  Calls Tryz.prog 195 #[.pointer (some ⟨i,0,none⟩),.int .i64 seq] w fun e w'=>e= .returned (.pointer none)∧w=w':=by
 by_cases h1:seq<1
 ·have hb:decide (seq<1)=true:=by simp;omega
  go_enter Tryz.func195,Tryz.ntmps195
  go_wp2_with fail
  go_ret
  exact ⟨rfl,rfl⟩
 ·have hb:decide (seq<1)=false:=by simp;omega
  have h2:16<seq:=by omega
  go_enter Tryz.func195,Tryz.ntmps195
  go_wp2_with fail
  go_ret
  exact ⟨rfl,rfl⟩
theorem zpe (i b cap:Nat) (seq:Int) (w:World) (h1:1≤seq) (h2:seq≤16) (h5:w.cell? ⟨i,5,none⟩=some (.slice (some ⟨b,0,none⟩) 16 cap)):
  Calls Tryz.prog 195 #[.pointer (some ⟨i,0,none⟩),.int .i64 seq] w fun e w'=>e= .returned (.pointer (some ⟨b,(seq.toNat-1)*14,none⟩))∧w=w':=by
 have hb:decide (seq<1)=false:=by simp;omega
 have hb2:decide (16<seq)=false:=by simp;omega
 go_enter Tryz.func195,Tryz.ntmps195
 go_wp2_with fail
 go_ret
 exact ⟨rfl,rfl⟩
theorem zud (l:List Pl) (n:Nat) (h: ∀j (hj:j<l.length),j<n→l[j].done=true) (hn:n≤l.length) (he: ∀(hj:n<l.length),l[n].done=false):(l.takeWhile (·.done)).length=n:=by
 induction l generalizing n with
 | nil=>simp at hn;simp [hn]
 | cons p l ih=>
  match n with
  | 0=>
   have:=he (by simp);simp at this;simp [List.takeWhile,this]
  | n+1=>
   have hp:=h 0 (by simp) (by omega);simp at hp;rw [List.takeWhile_cons,if_pos hp,List.length_cons,ih n (fun j hj hjn=>by have:=h (j+1) (by simp;omega) (by omega);simpa using this) (by simpa using hn) (fun hj=>by have:=he (by simp;omega);simpa using this)]
section
variable {B:Nat} {w0 W W':World} {ss:List Res} {x:Ins}
theorem oi_drew (h:OwnI B w0 W x ss):OwnI B w0 W.drew x ss:=Own.drew h
theorem zsz (h:OwnI B w0 W x ss) (k:Nat) (hk:k<x.l.length):W.cell? ⟨x.b,k*14+8,none⟩=some (.bool x.l[k].done):=oi_at h k hk 8 (by omega)
theorem oi_told (h:OwnI B w0 W x ss) (k:Nat) (hk:k<x.l.length):W.cell? ⟨x.b,k*14+1,none⟩=some (.bool x.l[k].told):=oi_at h k hk 1 (by omega)
theorem zmw (h:OwnI B w0 W x ss) (k:Nat) (hk:k<x.l.length):W.cell? ⟨x.b,k*14,none⟩=some x.l[k].lc.ptr:=oi_at h k hk 0 (by omega)
def DoneP (w:World) (n:Nat) (e:Ending) (w':World):Prop:=e= .returned (.int .i64 n)∧w=w'
theorem zi5 (h:OwnI B w0 W x ss):Calls Tryz.prog 156 #[x.ptr] W (DoneP W (doneI x.st)):=by
 obtain ⟨c0,c1,c2,c3,c4,c5,l1,l2⟩:=zc1 h;have hn:=(oi_ok h).n;have HN:=zq hn;have HD:=zq (fun n h1 h2 h3=>zud (x.l.map Pm.pl) n h1 h2 h3);have H:=zq h;clear h c0 c1 c2 c3 c4 hn;go_enter Tryz.func156,Tryz.ntmps156
 go_wp2_with fail
 go_loop [3] (fun n=> ∃k:Nat,k≤16∧n= .int .i64 k∧Hid (∀j (hj:j<x.l.length),j<k→x.l[j].done=true)) (fun n=>16-(intOf n).toNat)
 case atStart=>exact ⟨0,by omega,rfl,zq (by intro j _ hj;omega)⟩
 case round=>
  obtain ⟨k,hk,rfl,HA⟩:=hrel;by_cases hlt:k<16
  ·have hkI:(k:Int)<16:=by omega
   have hkl:k<x.l.length:=by rw [HN.out];exact hlt
   have cd:=zsz H.out k hkl;cases hd:x.l[k].done
   ·rw [hd] at cd
    have HDK:=zq hd;clear hd
    go_wp2_with fail
    go_ret
    refine ⟨zf6 ?_,rfl⟩;rw [show doneI x.st=k from HD.out k (fun j hj hjk=>by simpa [Pm.pl] using HA.out j (by simpa using hj) hjk) (by simp;omega) (fun hj=>by simpa [Pm.pl] using HDK.out)]
   ·rw [hd] at cd
    have HDK:=zq hd;clear hd
    go_wp2_with fail
    go_round
    case rel=>
     refine ⟨k+1,by omega,by go_num,zq (fun j hj hjk=> ?_)⟩;by_cases e:j=k
     ·subst e;exact HDK.out
     ·exact HA.out j hj (by omega)
    case measure=>simp [intOf];omega
  ·have hk16:k=16:=by omega
   subst hk16
   go_wp2_with fail
   go_ret
   refine ⟨zf6 ?_,rfl⟩;rw [show doneI x.st=16 from HD.out 16 (fun j hj hjk=>by simpa [Pm.pl] using HA.out j (by simpa using hj) hjk) (by simp [HN.out]) (fun hj=>by simp [HN.out] at hj)];rfl
theorem zmj (h:Own B w0 W (instR x::ss)) {i:Nat} (hi:x.i=i):Calls Tryz.prog 156 #[.pointer (some ⟨i,0,none⟩)] W (DoneP W (doneI x.st)):=by
 subst hi;exact zi5 (zdh h)
theorem zdk (h:Own B w0 W (instR x::ss)) {i:Nat} (hi:x.i=i):Calls Tryz.prog 73 #[.pointer (some ⟨i,0,none⟩)] W fun e w'=>e= .returned (.bool x.on)∧W=w':=by
 subst hi;obtain ⟨c0,c1,c2,c3,c4,c5,l1,l2⟩:=zc1 (zdh h);clear h c0 c1 c2 c3 c5;go_enter Tryz.func73,Tryz.ntmps73
 go_wp2_with fail
 go_ret
 exact ⟨rfl,rfl⟩
end
section
variable {B:Nat} {w0 W W':World} {ss:List Res} {x:Ins}
theorem zes {seq:Int} {k:Nat} (h:InsOk x) (hk:idx seq=some k): ∃hk':k<x.l.length,plAt x.st seq=some x.l[k].pl:=by
 have hk':k<x.l.length:=by rw [h.n];exact (zkm hk).1
 exact ⟨hk',by simp [plAt,hk,Ins.st,hk']⟩
theorem zer {seq:Int} {st:In} (hk:idx seq=none):plAt st seq=none:=by simp [plAt,hk]
abbrev Ins.sl (x:Ins) (k:Nat) (p:Pm):Ins:= {x with l:=x.l.set k p}
theorem zt5 (x:Ins) (k:Nat) (hk:k<x.l.length) (p:Pm) (g:Pl→Pl) (hp:p.pl=g x.l[k].pl):(x.sl k p).st=x.st.upd k g:=by
 simp only [Ins.st,In.upd,In.mk.injEq,true_and];apply List.ext_getElem?;intro j;rw [List.map_set,List.getElem?_modify,List.getElem?_set];by_cases e:k=j
 ·subst e
  simp [hk,hp]
 ·simp [e]
def zxz (W:World) (r:List Rq×Bool) (e:Ending) (w':World):Prop:= ∃u,e= .returned (.tuple #[u,.bool r.2])∧Upd [] W w'∧Bat w' u r.1∧ ∀k∈blkOf u,W.heap.size≤k
theorem zr8 (h:Own B w0 W (instR x::ss)) {i:Nat} (hi:x.i=i) (seq:Int):Calls Tryz.prog 220 #[.pointer (some ⟨i,0,none⟩),.int .i64 seq] W (zxz W (zau x.st seq)):=by
 subst hi;have ho:=zdh h;obtain ⟨-,-,-,-,-,c5,l1,l2⟩:=zc1 ho;cases hk:idx seq with
 | none=>
  have hs:=zfq hk;have HE:=zq (show zau x.st seq=([],false) by simp [zau,zer hk]);have HA:=zq (at_no x.i x.b x.cap seq W hs c5);clear ho h hk hs c5;go_enter Tryz.func220,Tryz.ntmps220
  go_wp2_with fail
  refine HA.out.mono ?_;rintro e w' ⟨rfl,rfl⟩
  go_wp2_with fail
  go_ret2
  rw [HE.out];exact ⟨.slice none 0 0,rfl,Upd.refl _ _,Reads.nil _ _,by simp [blkOf]⟩
 | some k=>
  obtain ⟨hl,hp⟩:=zes (oi_ok ho) hk;have HE:=zq (show zau x.st seq=(zbj x.l[k].sl,x.l[k].sl.has) by simp [zau,hp,Pm.pl]);obtain ⟨i1,i2⟩:=zkm hk;have HA:=zq (zpe x.i x.b x.cap seq W (by omega) (by omega) c5);have hks:seq.toNat-1=k:=by omega
  rw [hks] at HA;have cp:=zmw ho k hl;have HC:=zq (zfc (zef ho k hl));clear ho h hk c5 hp i2 hks;go_enter Tryz.func220,Tryz.ntmps220
  go_wp2_with fail
  refine HA.out.mono ?_;rintro e w' ⟨rfl,rfl⟩
  go_wp2_with fail
  refine HC.out.mono ?_;rintro e w' ⟨u,rfl,hu,hb,hn⟩;have HU:=zq hu;have HB:=zq hb;have HN:=zq hn;clear hu hb hn
  go_wp2_with fail
  go_ret2
  rw [HE.out];exact ⟨u,rfl,HU.out,HB.out,HN.out⟩
def InsP (B:Nat) (w0 _W:World) (i:Nat) (st:In) (ss:List Res) (r:Value) (e:Ending) (w':World):Prop:=e= .returned r∧ ∃x':Ins,x'.i=i∧x'.st=st∧Own B w0 w' (instR x'::ss)
theorem ze9 (h:Own B w0 W (instR x::ss)) {st:In} (hst:st=x.st) {r:Value}:InsP B w0 W x.i st ss r (.returned r) W:=⟨rfl,x,rfl,hst.symm,h⟩
theorem vote_off {seq:Int} {st:In} (hk:idx seq=none) (kind node sl:Int) (l:List Rq):voteB st kind seq node=false∧voteI st kind seq node sl l=st:=by
 simp [voteB,voteI,zer hk,hk]
theorem ins_vote (h:Own B w0 W (instR x::ss)) {i:Nat} (hi:x.i=i) (kind seq node sl:Int) (v:Value) (l:List Rq) (hb:Bat W v l) (hn:l.length≤100000):
  Calls Tryz.prog 236 #[.pointer (some ⟨i,0,none⟩),.int .i64 kind,.int .i64 seq,.int .i64 node,.int .i64 sl,v] W (InsP B w0 W i (voteI x.st kind seq node sl l) ss (.bool (voteB x.st kind seq node))):=by
 subst hi;have ho:=zdh h;obtain ⟨-,-,-,-,c4,c5,l1,l2⟩:=zc1 ho;cases hk:idx seq with
 | none=>
  have hs:=zfq hk;have HE:=zq (vote_off (st:=x.st) hk kind node sl l);have HA:=zq (at_no x.i x.b x.cap seq W hs c5);have H:=zq h;clear ho h hk hs c4 c5 hb;go_enter Tryz.func236,Tryz.ntmps236
  go_wp2_with fail
  refine HA.out.mono ?_;rintro e w' ⟨rfl,rfl⟩
  go_wp2_with fail
  go_ret
  rw [HE.out.1];exact ze9 H.out HE.out.2
 | some k=>
  obtain ⟨hl,hp⟩:=zes (oi_ok ho) hk;obtain ⟨i1,i2⟩:=zkm hk;have HA:=zq (zpe x.i x.b x.cap seq W (by omega) (by omega) c5);have hks:seq.toNat-1=k:=by omega
  rw [hks] at HA;have cp:=zmw ho k hl;by_cases hon:x.on=true
  ·rw [hon] at c4
   have HB:=zq (show voteB x.st kind seq node=zdj x.l[k].sl kind node by simp only [voteB,hp,Pm.pl];simp [Ins.st,hon]);have HI:=zq (show voteI x.st kind seq node sl l=x.st.upd k fun p=> {p with sl:=voteS p.sl kind node sl l} by simp only [voteI,hk];simp [Ins.st,hon]);have HC:=zq (own_vote (zef ho k hl) kind node sl v l hb hn);clear ho h hk c5 hp i2 hks hon hb;go_enter Tryz.func236,Tryz.ntmps236
   go_wp2_with fail
   refine HA.out.mono ?_;rintro e w' ⟨rfl,rfl⟩
   go_wp2_with fail
   refine HC.out.mono ?_;rintro e w' ⟨rfl,-,h2⟩;have H2:=zq h2;clear h2
   go_wp2_with fail
   go_ret
   rw [HB.out,HI.out];exact ⟨rfl,x.sl k {x.l[k] with sl:=voteS x.l[k].sl kind node sl l},rfl,zt5 x k hl _ _ rfl,zcm (zjg k hl _ H2.out rfl ⟨rfl,rfl⟩ rfl)⟩
  ·have hon':x.on=false:=by simpa using hon
   rw [hon'] at c4;have HB:=zq (show voteB x.st kind seq node=false by simp only [voteB,hp];simp [Ins.st,hon']);have HI:=zq (show voteI x.st kind seq node sl l=x.st by simp only [voteI,hk];simp [Ins.st,hon']);have H:=zq h;clear ho h hk c5 hp i2 hks hon hb hon';go_enter Tryz.func236,Tryz.ntmps236
   go_wp2_with fail
   refine HA.out.mono ?_;rintro e w' ⟨rfl,rfl⟩
   go_wp2_with fail
   go_ret
   rw [HB.out];exact ze9 H.out HI.out
end
section
variable {B:Nat} {w0 W W':World} {ss rs:List Res} {x:Ins}
theorem in_blk {b:Nat} {o:Obj} (h:Own B w0 W rs) (hm:blk b o∈rs):W.heap[b]?=some o:=blk_out (h.all _ hm).1
theorem zro {st:In}:doneI st≤st.l.length:=by
 unfold doneI;exact (List.takeWhile_sublist _).length_le
theorem zpu (h:InsOk x):doneI x.st≤16:=by
 have:=zro (st:=x.st);simp [Ins.st,h.n] at this;exact this
theorem pre_off {seq:Int} {st:In} (hk:idx seq=none) (l:List Rq):preB st seq=false∧preI st seq l=st:=by
 simp [preB,preI,zer hk,hk]
theorem pre_no {seq:Int} {st:In} (h:preB st seq=false) (l:List Rq):preI st seq l=st:=by
 unfold preI;rw [h];cases idx seq<;>rfl
theorem pk_cells {r:Res} {rest:List Res} (h:Own B w0 W (r::(insHd x++rest))):W.cell? ⟨x.i,2,none⟩=some (.int .i64 x.ahead)∧W.cell? ⟨x.i,4,none⟩=some (.bool x.on)∧W.cell? ⟨x.i,5,none⟩=some (.slice (some ⟨x.b,0,none⟩) 16 x.cap)∧
  ∀k,k<x.l.length→W.cell? ⟨x.b,k*14,none⟩=(x.l[k]?).map (·.lc.ptr):=by
 have hb:=in_blk h (b:=x.i) (o:=x.o) (by simp [insHd]);refine ⟨by rw [zab hb];rfl,by rw [zab hb];rfl,by rw [zab hb];rfl,fun k hk=> ?_⟩;obtain ⟨-,h2,-⟩:=zd1 (h.all (segR x.b 241 (x.l.flatMap zao)) (by simp [insHd])).1;obtain ⟨e1,e2⟩:=zvk x.l k 0 hk (by omega);rw [Nat.add_zero] at e1 e2;rw [h2 _ e2,e1,List.getElem?_eq_getElem hk];rfl
theorem zap {P:Program} {f:FuncId} {args:Array Value} {w:World} {n:Nat} {v:Value} (h:Calls P f args (w.drewN n) fun e w'=>e= .returned v∧w.drewN n=w'):Calls P f args (w.drewN n) fun e w''=>e= .returned v∧ ∃m,w''=w.drewN m:=
 h.mono fun _ _ ⟨he,hm⟩=>⟨he,n,hm.symm⟩
theorem ins_pre (h:Own B w0 W (instR x::ss)) {i:Nat} (hi:x.i=i) (seq:Int) (v:Value) (l:List Rq) (hb:Bat W v l) (hn:l.length≤100000):
  Calls Tryz.prog 159 #[.pointer (some ⟨i,0,none⟩),.int .i64 seq,v] W (InsP B w0 W i (preI x.st seq l) ss (.bool (preB x.st seq))):=by
 subst hi;have ho:=zdh h;have hod:=oi_drew ho;obtain ⟨-,-,c2w,-,c4w,c5,l1,l2⟩:=zc1 ho;obtain ⟨-,-,c2,-,c4,-,-,-⟩:=zc1 hod;cases hk:idx seq with
 | none=>
  have hs:=zfq hk;have HE:=zq (pre_off (st:=x.st) hk l);have HA:=zq (at_no x.i x.b x.cap seq W hs c5);have H:=zq h;clear ho hod h hk hs c2 c4 c4w c5 hb;go_enter Tryz.func159,Tryz.ntmps159
  go_wp2_with fail
  refine HA.out.mono ?_;rintro e w' ⟨rfl,rfl⟩
  go_wp2_with fail
  go_quiet (fail)
  go_wp2_with fail
  go_ret
  rw [HE.out.1];exact ze9 (H.out.upd0 ((Upd.refl _ _).drewN _)) HE.out.2
 | some k=>
  obtain ⟨hl,hp⟩:=zes (oi_ok ho) hk;obtain ⟨i1,i2⟩:=zkm hk;have HA:=zq (zpe x.i x.b x.cap seq W (by omega) (by omega) c5);have hks:seq.toNat-1=k:=by omega
  rw [hks] at HA;have cp:=zmw hod k hl;by_cases hon:x.on=true
  ·rw [hon] at c4 c4w
   have hdl:=zpu (oi_ok ho);obtain ⟨a1,a2⟩:1≤x.ahead∧x.ahead≤16:=⟨(oi_ok ho).a1,(oi_ok ho).a2⟩;have HD:=zq (zi5 hod);have HDN:=zq (fun n=>zi5 (x:=x) (Own.upd0 ho ((Upd.refl _ _).drewN n)));have HW:=zq h;have HBQ:=zq (show preB x.st seq=(decide (seq≤doneI x.st+x.ahead)&& !x.l[k].sl.has) by simp only [preB,hp,Pm.pl];simp [Ins.st,hon]);have HIQ:=zq (fun hq:preB x.st seq=true=>show preI x.st seq l=x.st.upd k fun p=> {p with sl:=slPre l p.sl} by simp only [preI,hk];rw [if_pos hq]);have HNQ:=zq (fun hq:preB x.st seq=false=>pre_no hq l);have HC:=zq (own_pre (zef hod k hl) v l (hb.upd (M:=[]) (Upd.refl _ _).drew (by simp)) hn);have H:=zq hod;have HX:=zq hon;clear ho hod h hk c5 hp i2 hks hon hb;unfold DoneP at HD HDN;generalize doneI x.st=d at*;have hsum:IntKind.i64.wrap ((d:Int)+x.ahead)=(d:Int)+x.ahead:=IntWalk.i64_in _ (by omega);by_cases hw:seq≤(d:Int)+x.ahead
   ·have hwb:decide (seq≤(d:Int)+x.ahead)=true:=by simp [hw]
    rw [hwb,Bool.true_and] at HBQ;go_enter Tryz.func159,Tryz.ntmps159
    go_wp2_with fail
    refine HA.out.mono ?_;rintro e w' ⟨rfl,rfl⟩
    go_wp2_with fail
    go_region_held3 (fun w'=>w'.cell? ⟨x.i,4,none⟩=some (.bool true)∧w'.cell? ⟨x.i,2,none⟩=some (.int .i64 x.ahead)∧w'.cell? ⟨x.b,k*14,none⟩=some x.l[k].lc.ptr)
     (first | (with_reducible exact ⟨c4,c2,cp⟩) | (with_reducible exact ⟨d4,d2,dp⟩))
     (first
      | (go_at_call 156;refine HD.out.mono ?_;rintro e w' ⟨rfl,rfl⟩)
      | (go_at_call 217;refine HC.out.mono ?_;rintro e w' ⟨rfl,-,h2⟩;have H2:=zq h2;obtain ⟨d2,d4,-,dp⟩:=pk_cells h2;rw [HX.out] at d4;have dp:=dp k hl;rw [List.getElem?_eq_getElem hl,Option.map_some] at dp;clear h2))
    go_wp2_with fail
    go_ret
    rw [HBQ.out];cases hh:x.l[k].sl.has
    ·rw [HIQ.out (by rw [HBQ.out,hh];rfl)]
     refine ⟨rfl,x.sl k {x.l[k] with sl:=slPre l x.l[k].sl},rfl,zt5 x k hl _ _ rfl,zcm (zjg k hl _ ?_ rfl ⟨rfl,rfl⟩ rfl)⟩;exact H2.out
    ·rw [HNQ.out (by rw [HBQ.out,hh];rfl)]
     refine ⟨rfl,x.sl k {x.l[k] with sl:=slPre l x.l[k].sl},rfl,?_,zcm (zjg k hl _ H2.out rfl ⟨rfl,rfl⟩ rfl)⟩;rw [zt5 x k hl _ id (by simp [Pm.pl,slPre,hh]),In.upd,List.modify_id]
   ·have hwb:decide (seq≤(d:Int)+x.ahead)=false:=by simp;omega
    rw [hwb,Bool.false_and] at HBQ;go_enter Tryz.func159,Tryz.ntmps159
    go_wp2_with fail
    refine HA.out.mono ?_;rintro e w' ⟨rfl,rfl⟩
    go_wp2_with fail
    go_quiet ((go_at_call 156;exact zap (HDN.out _)))
    go_wp2_with fail
    go_ret
    rw [HBQ.out,HNQ.out HBQ.out];exact ze9 (HW.out.upd0 ((Upd.refl _ _).drewN _)) rfl
  ·have hon':x.on=false:=by simpa using hon
   rw [hon'] at c4w;clear c4;have HB:=zq (show preB x.st seq=false by simp only [preB,hp];simp [Ins.st,hon']);have HI:=zq (pre_no HB.out l);have H:=zq h;clear ho hod h hk c5 hp i2 hks hon hb hon' c2;go_enter Tryz.func159,Tryz.ntmps159
   go_wp2_with fail
   refine HA.out.mono ?_;rintro e w' ⟨rfl,rfl⟩
   go_wp2_with fail
   go_quiet (fail)
   go_wp2_with fail
   go_ret
   rw [HB.out];exact ze9 (H.out.upd0 ((Upd.refl _ _).drewN _)) HI.out
end
section
variable {B:Nat} {w0 W W':World} {ss rs:List Res} {x:Ins}
theorem ins_next (h:Own B w0 W (instR x::ss)) {i:Nat} (hi:x.i=i):Calls Tryz.prog 154 #[.pointer (some ⟨i,0,none⟩)] W fun e w'=>e= .returned (.int .i64 (nextI x.st))∧Upd [] W w':=by
 subst hi;have ho:=zdh h;obtain ⟨-,-,-,-,-,c5,l1,l2⟩:=zc1 ho;have HN:=zq (oi_ok ho).n;have HL:=zq (fun k h1 h2 h3=>zg5 (x.l.map Pm.pl) k h1 h2 h3);have H:=zq ho;clear ho h;go_enter Tryz.func154,Tryz.ntmps154
 go_wp2_with fail
 go_loopw [3] (fun n wr=> ∃k:Nat,k≤16∧n= .int .i64 k∧Hid (∀j (hj:j<x.l.length),k≤j→x.l[j].sl.has=false)∧Hid (Upd [] W wr)) (fun n _=>(intOf n).toNat)
 case atStart=>exact ⟨16,by omega,rfl,zq (by intro j hj hk;rw [HN.out] at hj;omega),zq (Upd.refl _ _)⟩
 case round=>
  clear c5;obtain ⟨k,hk,rfl,HA,HU⟩:=hrel;have hor:=H.out.upd0 HU.out;obtain ⟨-,-,-,-,-,c5,-,-⟩:=zc1 hor;by_cases h0:k=0
  ·subst h0
   clear hor
   go_wp2_with fail
   go_ret
   refine ⟨zf6 ?_,HU.out⟩;rw [nextI,show zdy x.st.l=0 from HL.out 0 (by simp) (fun j hj hk=>by simpa [Pm.pl] using HA.out j (by simpa using hj) hk) (fun j _ e=>by omega)];rfl
  ·have hk0:(0:Int)<(k:Int):=by omega
   have hk1:(k:Int)-1=((k-1:Nat):Int):=by omega
   have hl:k-1<x.l.length:=by rw [HN.out];omega
   have hsub:IntKind.i64.wrap ((k:Int)-1)=((k-1:Nat):Int):=by rw [hk1];exact IntWalk.i64_in _ (by omega)
   have cp:=zmw hor (k-1) hl;have HC:=zq (zfc (zef hor (k-1) hl));clear hor hk1 h0
   go_wp2_with fail
   refine HC.out.mono ?_;rintro e w' ⟨u,rfl,hu,-,-⟩;have HU2:=zq (HU.out.trans hu);clear hu cp;cases hh:x.l[k-1].sl.has
   ·have HH:=zq hh
    clear hh
    go_wp2_with fail
    go_roundw
    case rel=>
     refine ⟨k-1,by omega,by go_num,zq (fun j hj hkj=> ?_),HU2⟩;by_cases e:j=k-1
     ·subst e;exact HH.out
     ·exact HA.out j hj (by omega)
    case measure=>simp [intOf];omega
   ·have HH:=zq hh
    clear hh
    go_wp2_with fail
    go_ret
    refine ⟨zf6 ?_,HU2.out⟩;rw [nextI,show zdy x.st.l=k from HL.out k (by simp [HN.out];omega) (fun j hj hk=>by simpa [Pm.pl] using HA.out j (by simpa using hj) hk) (fun j hj e=>by subst e;simpa [Pm.pl] using HH.out)];simp
end
def rq (c t:Int):Rq:=⟨c,t,0,0,0,0⟩
abbrev rqObj (c t:Int):Obj:= .cells #[.int .i64 c,.int .i64 t,.int .i64 0,.int .i64 0,.int .i64 0,.int .i64 0] 38
theorem bat_one {w:World} {g:Nat} {c t:Int} (h:w.heap[g]?=some (rqObj c t)):Bat w (.slice (some ⟨g,0,none⟩) 1 1) [rq c t]:=by
 refine ⟨some ⟨g,0,none⟩,1,rfl,Nat.le_refl _,by simp [maxLen],rfl,(fun e=>by cases e),fun _=>⟨g,0,rfl,block_lt h,fun j hj=> ?_⟩⟩;rw [Nat.zero_add,zab h]
 match j,hj with
 | 0,_=>rfl
 | 1,_=>rfl
 | 2,_=>rfl
 | 3,_=>rfl
 | 4,_=>rfl
 | 5,_=>rfl
theorem zds {w:World} {v:Value} {l:Vs} (h:Vts w v l): ∃ao cap,v= .slice ao l.length cap:=let ⟨ao,cap,hv,_⟩:=h;⟨ao,cap,hv⟩
abbrev sl1 (g:Nat):Value:= .slice (some ⟨g,0,none⟩) 1 1
structure St (B:Nat) (w0 W:World) (L:Loc) (st:Sl) (bs:List (Value×List Rq)):Prop where
 below:Below B w0 W
 size:B≤W.heap.size
 M: ∀k∈L.M,B≤k
 on:On W L st []
 bat: ∀p∈bs,Bat W p.1 p.2∧ ∀b∈blkOf p.1,b∉L.M∧b<W.heap.size
section
variable {B:Nat} {w0 W W':World} {L:Loc} {st:Sl} {bs:List (Value×List Rq)}
theorem St.upd0 (h:St B w0 W L st bs) (hu:Upd [] W W'):St B w0 W' L st bs where
 below:=h.below.trans (hu.below.mono h.size)
 size:=Nat.le_trans h.size hu.size
 M:=h.M
 on:=h.on.upd0 hu
 bat:=fun p hp=>⟨(h.bat p hp).1.upd hu (by simp),fun b hb=>⟨((h.bat p hp).2 b hb).1,Nat.lt_of_lt_of_le ((h.bat p hp).2 b hb).2 hu.size⟩⟩
theorem St.alloc (h:St B w0 W L st bs) (o:Obj):St B w0 (W.alloc o) L st bs:=h.upd0 ((Upd.refl _ _).alloc o)
theorem St.drew (h:St B w0 W L st bs):St B w0 W.drew L st bs:=h.upd0 (Upd.refl _ _).drew
theorem St.batch (h:St B w0 W L st bs) (c t:Int):St B w0 (W.alloc (rqObj c t)) L st ((sl1 W.heap.size,[rq c t])::bs) where
 below:=(h.alloc _).below
 size:=(h.alloc (rqObj c t)).size
 M:=h.M
 on:=(h.alloc _).on
 bat:=by
  intro p hp;rcases List.mem_cons.1 hp with rfl | hp
  ·refine ⟨bat_one (heap_alloc_new W _),fun b hb=> ?_⟩
   simp [blkOf] at hb;subst hb;exact ⟨fun hn=>by have:=h.on.lt _ hn;omega,by simp⟩
  ·exact (h.alloc _).bat p hp
theorem St.nil (h:St B w0 W L st bs):St B w0 W L st ((.slice none 0 0,[])::bs):=
 ⟨h.below,h.size,h.M,h.on,fun p hp=>by
  rcases List.mem_cons.1 hp with rfl | hp
  ·exact ⟨Reads.nil _ _,by simp [blkOf]⟩
  ·exact h.bat p hp⟩
end
end Go.Proofs.YtannckelmojkoaaGreat
namespace Go.Mix
open Go
def calm (o:Oper):Bool:=
 match o.op with
 | .move _ | .assign _ | .extract _ _ | .pick _ _ _ | .field _ _ _ | .indexAddr _ _ _ | .index _ _ _ | .slice _ _ _ _ _ | .makeInterface _ _=>true
 | _=>false
def zf9 (ops:Array Oper):Bool:=
 (List.range ops.size).all fun i=>(List.range ops.size).all fun j=>decide (j<i) || match ops[i]?,ops[j]? with
  | some oi,some oj=>calm oi || match oj.dst with
   | some d=> !(oi.looksAt ops).contains d
   | none=>true
  | _,_=>true
section
variable {P:Program} {ops:Array Oper} {Q:Exit→Act→World→Prop}
theorem znq {a:Act} {o:Oper} (h:calm o=true):zge P a o=true:=by
 obtain ⟨dst,op,type,pos,after,guard⟩:=o;unfold calm at h;unfold zge
 dsimp only at h⊢
 split at h<;>first | rfl | cases h
theorem zhx (h:zf9 ops=true) {i j:Nat} {oi oj:Oper} (hc:calm oi=false) (hi:ops[i]?=some oi) (hj:ops[j]?=some oj) (hij:i≤j): ∀t∈oi.looksAt ops,oj.dst≠some t:=by
 intro t ht e;simp only [zf9,List.all_eq_true,List.mem_range] at h;have:=h i (Array.getElem?_eq_some_iff.1 hi).1 j (Array.getElem?_eq_some_iff.1 hj).1;rw [hi,hj] at this;simp only [e,hc,Bool.false_or,Bool.or_eq_true,decide_eq_true_eq,Bool.not_eq_true',List.contains_eq_mem,decide_eq_false_iff_not] at this;rcases this with h | h
 ·omega
 ·exact h ht
theorem zxr (hst:zf9 ops=true): ∀(l:List Oper) (k:Nat) (a:Act) (w:World),ops.toList.drop k=l→wpList P ops (Fin P ops Q) l a w→mix P ops (fun _=>True) Q (autoC ops) (List.range' k l.length) a w:=by
 intro l
 induction l with
 | nil=>intro k a w _ h;exact h.2
 | cons o l ih=>
  intro k a w hl h;have hk:ops[k]?=some o:=by
   have:(ops.toList.drop k)[0]?=some o:=by rw [hl];rfl
   rw [List.getElem?_drop,Array.getElem?_toList] at this
   simpa using this
  have hl':ops.toList.drop (k+1)=l:=by
   rw [←List.drop_drop,hl];rfl
  have hlater: ∀o'∈o::l,∃j,k≤j∧ops[j]?=some o':=by
   intro o' ho';rw [←hl] at ho';obtain ⟨j,hj⟩:=List.getElem?_of_mem ho';rw [List.getElem?_drop,Array.getElem?_toList] at hj;exact ⟨k+j,by omega,hj⟩
  have hout:=zsc _ _ _ h;have h:=zdt h;rw [List.length_cons,List.range'_succ];refine ⟨o,hk,?_⟩;have hc:autoC ops k=clsOf o:=by simp [autoC,hk]
  rw [hc];split at h
  ·rename_i hw
   by_cases hcl:clsOf o≤1
   ·unfold zbt
    rw [if_pos hcl];have hrun: ∃v,(∀w',(if clsOf o=0 then True else w'=w)→(execOp a.eval o).run P w'= .ok (.value v) w')∧wpList P ops (Fin P ops Q) l (a.put o.dst v) w:=by
     unfold Oper.wp at h;cases hr:(execOp a.eval o).run P w with
     | halt x w'=>rw [hr] at h;cases x<;>simp only [Oper.upon] at h;exact h.elim
     | ok n w'=>
      by_cases hc0:clsOf o=0
      ·have hpure:zge P a o=true:=by
        by_cases hcm:calm o=true
        ·exact znq hcm
        obtain ⟨a',w'',hv,_,hsame⟩:=hout;have hlook: ∀t∈o.looksAt ops,a'.tmps[t]?=a.tmps[t]?:=fun t ht=>hsame t fun o' ho'=>by
         obtain ⟨j,hj,hoj⟩:=hlater o' ho';exact zhx hst (by simpa using hcm) hk hoj hj t ht
        refine zjp (znx hlook) ?_;simp only [zwi,List.all_eq_true,List.mem_range] at hv;have h1:=hv k (Array.getElem?_eq_some_iff.1 hk).1;rw [hk] at h1;simp only [hc0,bne_self_eq_false,Bool.false_or,Bool.or_eq_true,Bool.not_eq_true',zgu hlook,hw] at h1;rcases h1 with h1 | h1
        ·cases h1
        ·exact h1
       obtain ⟨rfl,v,rfl,hall⟩:=zm2 hpure _ _ _ hr;rw [hr] at h;exact ⟨v,fun w2 _=>hall w2,h⟩
      ·have hload: ∃t x,o.op= .load t x:=by
        have h1:clsOf o=1:=by omega
        unfold clsOf at h1;split at h1<;>first | (rename_i heq;exact ⟨_,_,heq⟩) | omega
       obtain ⟨t,x,hop⟩:=hload;obtain ⟨rfl,v,rfl⟩:=zg7 hop hr;rw [hr] at h;refine ⟨v,fun w2 h2=> ?_,h⟩;rw [if_neg hc0] at h2;subst h2;exact hr
    obtain ⟨v,h1,h2⟩:=hrun;exact ⟨v,.inl ⟨hw,h1⟩,ih (k+1) _ _ hl' h2⟩
   ·unfold zbt
    rw [if_neg hcl];unfold Loud;rw [if_pos hw];exact Oper.wp_post (Q:=NoQ) (fun a' w' h'=>⟨trivial,ih (k+1) _ _ hl' h'⟩) h
  ·rename_i hw
   have hw':Region.wanted o (yielded ops a.tmps)=false:=by simpa using hw
   by_cases hcl:clsOf o≤1
   ·unfold zbt
    rw [if_pos hcl];exact ⟨undef,.inr ⟨hw',rfl⟩,ih (k+1) _ _ hl' h⟩
   ·unfold zbt
    rw [if_neg hcl];unfold Loud;rw [if_neg (by simp [hw'])];exact ⟨trivial,ih (k+1) _ _ hl' h⟩
theorem zh9 {id:Nat} {a:Act} {w:World} (hm:P.follows .mixedOrders=true) (hok:(zcd ops (autoC ops)&&zf9 ops)=true)
  (h:wpList P ops (Fin P ops Q) ops.toList a w.drew):(Code.region id ops true).wp P Q a w:=by
 simp only [Bool.and_eq_true] at hok;refine zdo (fun _=>True) (autoC ops) hm hok.1 trivial ?_;have:=zxr hok.2 ops.toList 0 a w.drew rfl h;rw [Array.length_toList,←List.range_eq_range'] at this;exact this
theorem wp_text2 {id:Nat} {l:List Oper} {a:Act} {w:World} (hm:P.follows .mixedOrders=true) (hok:(zcd l.toArray (autoC l.toArray)&&zf9 l.toArray)=true)
  (h:wpList P l.toArray (Fin P l.toArray Q) l a w.drew):(Code.region id l.toArray true).wp P Q a w:=zh9 hm hok h
end
end Go.Mix
namespace Go.Proofs.YtannckelmojkoaaGreat
open Go.RowKit Go.Heap
abbrev ctO (view inst seq:Int) (vb vv:Value):Obj:= .cells #[.int .i64 view,.int .i64 inst,.int .i64 seq,vb,vv] 42 (0,0)
theorem zbr {w:World} {b:Nat} {view inst seq:Int} {vb vv:Value} (h:w.heap[b]?=some (ctO view inst seq vb vv)):w.cell? ⟨b,0,none⟩=some (.int .i64 view)∧w.cell? ⟨b,1,none⟩=some (.int .i64 inst)∧w.cell? ⟨b,2,none⟩=some (.int .i64 seq)∧
  w.cell? ⟨b,3,none⟩=some vb∧w.cell? ⟨b,4,none⟩=some vv∧b<w.heap.size∧ ∀o,w.frozen? ⟨b,o,none⟩=false:=
 ⟨by rw [zab h];rfl,by rw [zab h];rfl,by rw [zab h];rfl,by rw [zab h];rfl,by rw [zab h];rfl,block_lt h,zac h⟩
def FreshP (w:World) (c:Ct) (e:Ending) (w':World):Prop:=
 ∃c':Ct,e= .returned (ctAgg c')∧c'.cp=c.cp∧Upd [] w w'∧Bat w' c'.vb c'.rs∧Vts w' c'.vv c'.vs∧(∀k∈blkOf c'.vb,w.heap.size≤k)∧ ∀k∈blkOf c'.vv,w.heap.size≤k
theorem zqv (l:Vs): ∀u∈zan l,u.oneCell'=true:=by
 intro u hu;simp only [zan,List.mem_flatMap] at hu;obtain ⟨r,_,h⟩:=hu;simp only [List.mem_cons,List.not_mem_nil,or_false] at h;rcases h with rfl | rfl<;>rfl
theorem zjt {w:World} {B E sz n:Nat} {v:Value} {xs:List Value} (h:w.ownsRow B E sz v n xs): ∃ao cap,v= .slice ao n cap:=by
 rcases h.2 with ⟨rfl,rfl⟩ | ⟨g,cap,cur,rfl,_⟩
 ·exact ⟨none,0,rfl⟩
 ·exact ⟨_,cap,rfl⟩
theorem owns_reads {w:World} {B E sz n:Nat} {v:Value} {xs:List Value} (h:w.ownsRow B E sz v n xs):Reads w v sz n xs:=by
 rcases h.2 with ⟨rfl,rfl⟩ | ⟨g,cap,cur,rfl,_⟩
 ·have:xs=[]:=List.eq_nil_of_length_eq_zero (by simpa using h.1)
  subst this;exact Reads.nil _ _
 ·exact Reads.of_own h
theorem zmh (c:Ct) (w:World) (hb:Bat w c.vb c.rs) (hbn:c.rs.length≤100000) (hv:Vts w c.vv c.vs) (hvn:c.vs.length≤100000):
  Calls Tryz.prog 189 #[ctAgg c] w (FreshP w c):=by
 obtain ⟨i0,hi,hz0,hz1,hz2⟩:=info_parts Tryz.infoReq;obtain ⟨j0,hj,hy0,hy1,hy2⟩:=info_parts Tryz.infoVote;obtain ⟨view,inst,seq,vb,vv,rs,vs⟩:=c;simp only at hb hbn hv hvn;obtain ⟨ao,cap,rfl⟩:=zb9 hb;obtain ⟨co,cav,rfl⟩:=zds hv;have h1:=(((((Own.start (Below.refl w.heap.size w) (Nat.le_refl _)).red hb (by simp [Ms])).red hv (by simp [Ms,redR,imm])).box (ctO view inst seq (.slice ao rs.length cap) (.slice co vs.length cav))).box (ctO 0 0 0 (.slice none 0 0) (.slice none 0 0)));simp only [zbn] at h1;have H1:=zq h1;clear hb hv h1;go_enter Tryz.func189,Tryz.ntmps189
 go_upto_region 1 with fail
 generalize (w.alloc (ctO view inst seq (.slice ao rs.length cap) (.slice co vs.length cav))).alloc (ctO 0 0 0 (.slice none 0 0) (.slice none 0 0))=w1 at*;obtain ⟨f0,f1,f2,f3,f4,fl,fz⟩:=zbr H1.out.drop.blk_out;clear fz
 go_wp2_with (at_builtin;refine zd5 rfl (.tmp 4) 39 rfl 38 i0 (.agg #[.int .i64 0,.int .i64 0,.int .i64 0,.int .i64 0,.int .i64 0,.int .i64 0]) 6 48 Tryz.underlying39 hi hz0 hz1 hz2 rfl (by decide) _ _ _ rfl (zfu H1.out.drop.drop.drop.head) (ze1 rs) (by omega) ?_)
 intro v2 w2 hown2 hu2;obtain ⟨ao2,cap2,rfl⟩:=zjt hown2;have H2:=zq ((H1.out.row1 hu2 hown2).swap.rot);clear f0 f1 f2 f3 f4 fl hown2 hu2 H1;obtain ⟨f0,f1,f2,f3,f4,fl,fz⟩:=zbr H2.out.blk_out;have fz3:=fz 3;clear fz
 go_upto_region 2 with fail
 have H3:=zq (H2.out.store 3 (.slice ao2 rs.length cap2));generalize w2.setCell ⟨w.heap.size,3,none⟩ (.slice ao2 rs.length cap2)=w3 at*;clear f0 f1 f2 f3 f4 fl fz3 H2;obtain ⟨f0,f1,f2,f3,f4,fl,fz⟩:=zbr H3.out.blk_out;clear fz
 go_wp2_with (at_builtin;refine zd5 rfl (.tmp 8) 40 rfl 177 j0 (.agg #[.int .i64 0,.int .i64 0]) 2 16 Tryz.underlying40 hj hy0 hy1 hy2 rfl (by decide) _ _ _ rfl (zfu H3.out.drop.drop.drop.head) (zqv vs) (by omega) ?_)
 intro v4 w4 hown4 hu4;obtain ⟨ao4,cap4,rfl⟩:=zjt hown4;have H4:=zq ((H3.out.row1 hu4 hown4).swap);clear f0 f1 f2 f3 f4 fl hown4 hu4 H3;obtain ⟨f0,f1,f2,f3,f4,fl,fz⟩:=zbr H4.out.blk_out;have fz4:=fz 4;clear fz
 go_upto_region 3 with fail
 have H5:=zq (H4.out.store 4 (.slice ao4 vs.length cap4));generalize w4.setCell ⟨w.heap.size,4,none⟩ (.slice ao4 vs.length cap4)=w5 at*;clear f0 f1 f2 f3 f4 fl fz4 H4;obtain ⟨f0,f1,f2,f3,f4,fl,fz⟩:=zbr H5.out.blk_out;obtain ⟨g0,g1,g2,g3,g4,gl,gz⟩:=zbr H5.out.drop.drop.blk_out;have gz0:=gz 0;have gz1:=gz 1;have gz2:=gz 2;have gz3:=gz 3;have gz4:=gz 4;clear fz gz
 go_wp2_with fail
 have H6:=zq ((((((H5.out.rot.store 0 (.int .i64 view)).store 1 (.int .i64 inst)).store 2 (.int .i64 seq)).store 3 (.slice ao2 rs.length cap2)).store 4 (.slice ao4 vs.length cap4)));generalize ((((w5.setCell ⟨w.heap.size+1,0,none⟩ (.int .i64 view)).setCell ⟨w.heap.size+1,1,none⟩ (.int .i64 inst)).setCell ⟨w.heap.size+1,2,none⟩ (.int .i64 seq)).setCell ⟨w.heap.size+1,3,none⟩ (.slice ao2 rs.length cap2)).setCell ⟨w.heap.size+1,4,none⟩ (.slice ao4 vs.length cap4)=w6 at*;clear f0 f1 f2 f3 f4 fl g0 g1 g2 g3 g4 gl gz0 gz1 gz2 gz3 gz4 H5;obtain ⟨f0,f1,f2,f3,f4,fl,fz⟩:=zbr H6.out.blk_out;have r1:=zal H6.out.drop.drop.head;have r2:=zal H6.out.drop.drop.drop.head;refine bodyPost_ret (v:=ctAgg ⟨view,inst,seq,.slice ao2 rs.length cap2,.slice ao4 vs.length cap4,rs,vs⟩) (by simp [results,Tryz.results189,go_sem,f0,f1,f2,f3,f4]) rfl ⟨⟨view,inst,seq,.slice ao2 rs.length cap2,.slice ao4 vs.length cap4,rs,vs⟩,rfl,rfl,Upd.of_below H6.out.below,owns_reads r2,owns_reads r1,?_,?_⟩
 ·exact (H6.out.drop.drop.drop.all _ List.mem_cons_self).2
 ·exact (H6.out.drop.drop.all _ List.mem_cons_self).2
theorem zq7 (i:Nat) (f:Nat) (num ahead view:Int) (on:Bool) (v:Value) (seq:Int) (ao:Option Addr) (n cap:Nat) (co:Option Addr) (m cav:Nat) (w:World) (h:w.heap[i]?=some (insO f num ahead view on v)):
  Calls Tryz.prog 281 #[.pointer (some ⟨i,0,none⟩),.int .i64 seq,.slice ao n cap,.slice co m cav] w fun e w'=>e= .returned (.agg #[.int .i64 view,.int .i64 num,.int .i64 seq,.slice ao n cap,.slice co m cav])∧Upd [] w w':=by
 have hl:=block_lt h;have h1:w.cell? ⟨i,1,none⟩=some (.int .i64 num):=by rw [zab h];rfl
 have h3:w.cell? ⟨i,3,none⟩=some (.int .i64 view):=by rw [zab h];rfl
 clear h;go_enter Tryz.func281,Tryz.ntmps281
 go_wp2_with fail
 refine Mix.wp_text2 (by kernel_rfl) (by kernel_rfl) ?_
 go_wp2_with fail
 refine ⟨by rfl,?_⟩
 go_wp2_with fail
 exact bodyPost_ret (v:= .agg #[.int .i64 view,.int .i64 num,.int .i64 seq,.slice ao n cap,.slice co m cav]) (by simp [results,Tryz.results281,go_sem]) rfl ⟨rfl,((Upd.refl _ _).alloc _).drew⟩
structure En where
 rq:Rq
 res:Int
deriving DecidableEq
def enCells (e:En):List Value:=[.int .i64 e.rq.client,.int .i64 e.rq.time,.int .i64 e.rq.kind,.int .i64 e.rq.key,.int .i64 e.rq.val,.int .i64 e.rq.sl,.int .i64 e.res]
abbrev zz4 (l:List En):List Value:=l.flatMap enCells
def scCells (c:Bool×Int):List Value:=[.bool c.1,.int .i64 c.2]
abbrev zzb (l:List (Bool×Int)):List Value:=l.flatMap scCells
abbrev st0:List (Bool×Int):=List.replicate 64 (false,0)
theorem Tryz.zst:Tryz.zeroCells192.toList=zzb st0:=by kernel_rfl
structure Lg where
 p:Nat
 s:Nat
 c:Nat
 g:Nat
 cap:Nat
 v:Value
 clients:Int
 es:List En
 st:List (Bool×Int)
 rp:List (Int×Int)
abbrev lgO (clients:Int) (v:Value) (s c:Nat):Obj:= .cells #[.int .i64 clients,v,.pointer (some ⟨s,0,none⟩),.pointer (some ⟨c,0,none⟩)] 184 (0,0)
abbrev chO (g n cap:Nat):Obj:= .cells #[.slice (some ⟨g,0,none⟩) n cap] 289 (0,0)
abbrev enR (v:Value) (es:List En):Res:=ownR 106 7 v es.length (zz4 es)
abbrev stR (s:Nat) (st:List (Bool×Int)):Res:=segR s 192 (zzb st)
abbrev rpR (g:Nat) (l:List (Int×Int)):Res:=segR g 286 (l.flatMap zf8)
abbrev lgL (x:Lg):List Res:=[blk x.p (lgO x.clients x.v x.s x.c),enR x.v x.es,stR x.s x.st,blk x.c (chO x.g x.rp.length x.cap),rpR x.g x.rp]
structure LgOk (x:Lg):Prop where
 st:x.st.length=64
 rp1:1≤x.rp.length
 rp4:x.rp.length≤4
 cap:x.rp.length≤x.cap∧x.cap≤maxLen
 es:x.es.length≤100000
structure Lp where
 clients:Int
 es:List En
 st:List (Bool×Int)
 rp:List (Int×Int)
def Lg.lp (x:Lg):Lp:=⟨x.clients,x.es,x.st,x.rp⟩
def newL (n:Nat):Lp:=⟨n,[],st0,List.replicate n (0,0)⟩
section
variable {B:Nat} {w0 W W':World} {ss:List Res} {x:Lg}
theorem zko (n:Nat) (h1:1≤n) (h4:n≤4) (h:Own B w0 W ss):
  Calls Tryz.prog 86 #[.int .i64 n] W fun e w'=> ∃x:Lg,e= .returned (.tuple #[.pointer (some ⟨x.p,0,none⟩),.int .i64 0])∧LgOk x∧x.lp=newL n∧Own B w0 w' (lgL x++ss):=by
 have HC:=zq (zvb n h1 h4 h);clear h;go_enter Tryz.func86,Tryz.ntmps86
 go_wp2_with fail
 refine HC.out.mono ?_;rintro e w1 ⟨p,g,rfl,ho⟩;have HS:=zq (zxm ho);clear ho HC
 go_wp2_with fail
 refine HS.out.mono ?_;rintro e w2 ⟨s,rfl,ho⟩;have H2:=zq (zdb ho Tryz.zst);clear ho HS
 go_wp2_with fail
 go_ret2
 have h3:=((H2.out.row0 (E:=106) (sz:=7))).boxAt (lgO n (.slice none 0 0) s p) rfl;refine ⟨⟨w2.heap.size,s,p,g,n,.slice none 0 0,n,[],st0,List.replicate n (0,0)⟩,rfl,⟨by simp,by simpa using h1,by simpa using h4,⟨by simp,by show n≤maxLen;unfold maxLen;omega⟩,by simp⟩,rfl,?_⟩;exact h3
end
end Go.Proofs.YtannckelmojkoaaGreat
