/- Parts of the proof, one behind the other. -/
import Derived.Test.YtannckelmojkoaaGreatAgnB29
import Derived.Lib.SmallJoins
import Derived.Deep.MidRow
set_option maxHeartbeats 32000000
set_option maxRecDepth 100000
set_option linter.unusedVariables false
set_option linter.unusedSimpArgs false
namespace Go.Proofs.YtannckelmojkoaaGreat
open Go.RowKit Go.Heap
structure OutK (l:Nt) (f:Nat) (out:List (Int×Bys)) (ks:List Int):Prop where
 n:out.length=ks.length
 k: ∀(j:Nat) (o:Int×Bys) (k:Int),out[j]?=some o→ks[j]?=some k→ ∃m sl,openP l f 2 o.2=some (m,sl)∧m.kind=k
theorem OutK.nil (l:Nt) (f:Nat):OutK l f [] []:=⟨rfl,fun j o k h=>by simp at h⟩
theorem OutK.same {l:Nt} {f:Nat} {b:Bys} {k:Int} (h: ∃m sl,openP l f 2 b=some (m,sl)∧m.kind=k) (ps:List Int):OutK l f (ps.map fun p=>(p,b)) (List.replicate ps.length k):=⟨by simp,fun j o k' e1 e2=>by
 rw [List.getElem?_map] at e1;rw [List.getElem?_replicate] at e2;split at e2
 ·cases hp:ps[j]? with
  | none=>rw [hp] at e1;simp at e1
  | some p=>
   rw [hp] at e1;simp only [Option.map_some,Option.some.injEq] at e1 e2;subst e1 e2;exact h
 ·cases e2⟩
abbrev zwp (f id:Nat):Nat:=(zav (3*f+1) (id:Int)).length
structure OrP (f:Nat) (r:Rq) (np:Nat) (hp:Nat→Bool) (nc:Nat) (hc:Nat→Bool) (p:Pl):Prop where
 has:p.sl.has=true
 bt:p.sl.batch=[r]
 ps:VtL f [r] hp np p.sl.ps
 cs:VtL f [r] hc nc p.sl.cs
 told:p.told=decide (2*f+1≤np)
 done:p.done=false
def OrN (f id:Nat) (r:Rq) (np:Nat) (hp:Nat→Bool) (nc:Nat) (hc:Nat→Bool) (ks:List Int) (u:Int) (s:Ns) (l:Nt):Prop:=
 ∃p com out,s=orS f id p com 0 (newL 2) out u∧OrP f r np hp nc hc p∧OutK l f out ks
def OrF (f id:Nat) (r:Rq) (ks:List Int) (u:Int) (s:Ns) (l:Nt):Prop:=
 ∃p com bk out e,s=orS f id p com 1 bk out u∧p.done=true∧bk.es=[e]∧e.rq=r∧OutK l f out ks
section
variable {f id i np nc:Nat} {hp hc:Nat→Bool} {r:Rq} {p:Pl} {s:Ns} {l:Nt} {u sl:Int} {ks:List Int}
theorem OrP.noPrep (h:OrP f r np hp nc hc p) (hn:np≠2*f+1∨p.told=true) (hle:np≤2*f+1):prepI (ordI f 4 p) 1=none:=by
 rw [zwn];cases ht:p.told with
 | true=>rfl
 | false=>
  have hlt:np<2*f+1:=by
   rcases hn with hn | hn
   ·omega
   ·rw [ht] at hn;cases hn
  unfold zbi;rw [h.has,if_pos rfl,h.bt,h.ps.few hlt];rfl
theorem OrP.noComm (h:OrP f r np hp nc hc p) (hn:nc<2*f+1):commI (ordI f 4 p) 1=none:=by
 rw [zn9,h.done];obtain ⟨⟨hs,bt,ps,cs⟩,told,has,ct,done,dw⟩:=p;have:=h.cs.comm (ps:=ps) (hs:=hs) (bt:=bt);simp only at this⊢;rw [this,h.cs.few hn];rfl
theorem OrP.comm (h:OrP f r np hp (2*f+1) hc p): ∃c:Cp,c.rs=[r]∧commI (ordI f 4 p) 1=some c:=by
 obtain ⟨vs,hv⟩:=h.cs.enough (Nat.le_refl _);refine ⟨⟨0,0,1,[r],vs⟩,rfl,?_⟩;rw [zn9,h.done];obtain ⟨⟨hs,bt,ps,cs⟩,told,has,ct,done,dw⟩:=p;have:=h.cs.comm (ps:=ps) (hs:=hs) (bt:=bt);simp only at this hv⊢;rw [this,hv];rfl
theorem OrP.can4 (h:OrP f r np hp nc hc p) (hi:i≤3*f):zdj p.sl 4 (i:Int)= !hp i:=h.ps.can hi
theorem OrP.vote4 (h:OrP f r np hp nc hc p) (hi:i≤3*f) (h0:hp i=false) (ht:(decide (2*f+1≤np):Bool)=decide (2*f+1≤np+1)):OrP f r (np+1) (hAdd hp i) nc hc {p with sl:=voteS p.sl 4 (i:Int) sl [r]}:=by
 have e:voteS p.sl 4 (i:Int) sl [r]= {p.sl with ps:=p.sl.ps.set i ⟨true,sl,[r]⟩}:=by
  unfold voteS;rw [h.can4 hi,h0];rfl
 rw [e];exact ⟨h.has,h.bt,h.ps.put hi h0,h.cs,by rw [←ht];exact h.told,h.done⟩
theorem OrP.vote4s (h:OrP f r np hp nc hc p) (hi:i≤3*f) (h0:hp i=false):voteS p.sl 4 (i:Int) sl [r]= {p.sl with ps:=p.sl.ps.set i ⟨true,sl,[r]⟩}:=by
 unfold voteS;rw [h.can4 hi,h0];rfl
end
section
variable {B:Nat} {w0 w W W':World} {ss rs:List Res} {x:Np} {s s':Ns} {l l':Nt} {rn:Nat} {vp vb:Value} {vt:Rn} {f i:Nat} {r:Rq} {kind:Int}
abbrev balB (kind:Int) (r:Rq) (i:Nat):Bys:=msB (crtM kind 0 0 1 [r] (i:Int))
end
abbrev ks4 (f id:Nat):List Int:=List.replicate (zwp f id) 4
abbrev ks5 (f id:Nat):List Int:=List.replicate (zwp f id) 5
def St1 (f id:Nat) (r:Rq) (k i:Nat) (u:Int) (s:Ns) (l:Nt):Prop:=
 (k<2*f∧ ∃hp:Nat→Bool,(∀j,i≤j→j≠id→hp j=false)∧OrN f id r (k+1) hp 0 (fun _=>false) (ks4 f id) u s l)∨
 (k=2*f∧ ∃hp:Nat→Bool,OrN f id r (2*f+1) hp 1 (hAdd (fun _=>false) id) (ks4 f id++ks5 f id) u s l)
def St2 (f id:Nat) (r:Rq) (k i:Nat) (u:Int) (s:Ns) (l:Nt):Prop:=
 (k<2*f∧ ∃hp hc:Nat→Bool,(∀j,i≤j→j≠id→hc j=false)∧OrN f id r (2*f+1) hp (k+1) hc (ks4 f id++ks5 f id) u s l)∨
 (k=2*f∧OrF f id r (ks4 f id++ks5 f id++[10]) u s l)
section
variable {f id i k np nc:Nat} {hp hc:Nat→Bool} {r:Rq} {s s':Ns} {l l':Nt} {u:Int} {ks:List Int}
theorem St1.skip (h:St1 f id r k i u s l):St1 f id r k (i+1) u s l:=by
 rcases h with ⟨h1,hp,h2,h3⟩ | h
 ·exact .inl ⟨h1,hp,fun j hj hne=>h2 j (by omega) hne,h3⟩
 ·exact .inr h
theorem St2.skip (h:St2 f id r k i u s l):St2 f id r k (i+1) u s l:=by
 rcases h with ⟨h1,hp,hc,h2,h3⟩ | h
 ·exact .inl ⟨h1,hp,hc,fun j hj hne=>h2 j (by omega) hne,h3⟩
 ·exact .inr h
theorem St1.two (hf:1≤f) (h:St1 f id r (2*f) i u s l):St2 f id r 0 0 u s l:=by
 rcases h with ⟨h1,-⟩ | ⟨-,hp,h2⟩
 ·omega
 ·refine .inl ⟨by omega,hp,_,fun j _ hne=> ?_,h2⟩
  unfold hAdd;rw [if_neg hne]
structure OrOk (f id:Nat) (u:Int) (s:Ns):Prop where
 c:s.c=stdC f
 id:s.id=(id:Int)
 st:s.stop=false
 gd:s.gd=[]
 u:s.used=u
 bad:s.bad=0
 sl:s.stale=0
 fu:s.full=0
theorem OrN.ok (h:OrN f id r np hp nc hc ks u s l):OrOk f id u s∧s.out.length=ks.length∧OutK l f s.out ks∧s.bk.es=[]:=by
 obtain ⟨p,com,out,rfl,hP,hO⟩:=h;exact ⟨⟨rfl,rfl,rfl,rfl,rfl,rfl,rfl,rfl⟩,hO.n,hO,rfl⟩
theorem OrF.ok (h:OrF f id r ks u s l):OrOk f id u s∧s.out.length=ks.length∧OutK l f s.out ks∧ ∃e,s.bk.es=[e]∧e.rq=r:=by
 obtain ⟨p,com,bk,out,e,rfl,hd,he,hr,hO⟩:=h;exact ⟨⟨rfl,rfl,rfl,rfl,rfl,rfl,rfl,rfl⟩,hO.n,hO,e,he,hr⟩
end
section
variable {B:Nat} {w0 w W W':World} {ss rs:List Res} {x:Np} {s s':Ns} {l l':Nt} {rn:Nat} {vp vb:Value} {vt:Rn} {f i id k:Nat} {r:Rq} {u:Int}
end
section
variable {B:Nat} {w0 w W W':World} {ss rs:List Res} {x:Np} {s s':Ns} {l l':Nt} {rn:Nat} {vp vb:Value} {vt:Rn} {f id:Nat} {r:Rq}
end
section
variable {B:Nat} {w0 w W W':World} {ss rs:List Res} {x:Np} {s s':Ns} {l l':Nt} {rn:Nat} {vp:Value} {vt:Rn} {f id k e6 e11 e12 e16:Nat} {r:Rq} {u:Int} {ab:Option Addr} {cb:Nat}
end
theorem rqSL_ok {l:Nt} {r:Rq} (h:NtOk l):NtOk (rqSL l r):=by
 unfold rqSL;split
 ·rename_i hw;exact zhv h (rqX_ok hw)
 ·exact h
theorem zq2 {l:Nt} {r:Rq} (h:rqSealed l 2 r=true):zd3 l 2 2 [r]=true:=by
 unfold zd3;rw [Bool.and_eq_true,decide_eq_true_eq];refine ⟨by simp,zc7 (fun k hk=> ?_)⟩;obtain rfl:k=0:=by simpa using hk
 unfold ze4;simp [reqAt,h]
section
variable {B:Nat} {w0 w W W':World} {ss rs:List Res} {x:Np} {s s':Ns} {l l':Nt} {rn:Nat} {vp:Value} {vt:Rn}
theorem nd_req (r:Rq) (h:NdIs B w0 W x s l (rnR rn vp vt l ss)) (hn:l.length≤1000000000):
  Calls Tryz.prog 42 #[.agg (twA x.nt rn),rqAgg r] W fun e w'=>e= .returned (rqAgg (rqS l r))∧ ∃vp' vt',NdIs B w0 w' x s (rqSL l r) (rnR rn vp' vt' (rqSL l r) ss):=by
 obtain ⟨rr,hs,hk⟩:=h.sideN;refine (zxu r (ss:=ss++[rr]) hs h.nok hn).mono ?_;rintro e w' ⟨he,vp',vt',h2⟩;exact ⟨he,vp',vt',hk w' (rqSL l r) (rnR rn vp' vt' (rqSL l r) ss) (rqSL_ok h.nok) h2⟩
theorem zoe (h:Own B w0 W rs) (r:Rq):Own B w0 (W.alloc (rqO r)) (mmR (balW 0 0 0 1 (.slice (some ⟨W.heap.size,0,none⟩) 1 1) [r] 0) rs):=by
 have h0:=h.alloc (rqO r);have hbk:(W.alloc (rqO r)).heap[W.heap.size]?=some (rqO r):=heap_alloc_new W (rqO r);have h1:Own B w0 (W.alloc (rqO r)) (redR (.slice (some ⟨W.heap.size,0,none⟩) 1 1) 6 1 ([r].flatMap zas)::rs):=h0.red ⟨_,_,rfl,by omega,by unfold maxLen;omega,rfl,(fun e=>by cases e),fun _=>⟨W.heap.size,0,rfl,by simp,fun j hj=>by
  rw [Nat.zero_add,zab (heap_alloc_new W (rqO r))];simp [zas]⟩⟩ (fun k hk hm=>by
  simp [blkIf,blkOf] at hk;subst hk;exact h.fresh (Nat.le_refl _) hm)
 have h2:Own B w0 (W.alloc (rqO r)) (redR (.slice none 0 0) 2 0 []::_):=zb3 2 h1;have h3:Own B w0 (W.alloc (rqO r)) (ctsR []::_):=h2.mkCts (by simp);have h4:=zb3 5 h3;have h5:Own B w0 (W.alloc (rqO r)) (ptsR []::_):=h4.mkPts (by simp);exact zb3 4 h5
end
theorem zob (id:Nat): ∀n,(zav n (id:Int)).length=if id<n then n-1 else n
 | 0=>by simp [zav]
 | n+1=>by
  have ih:=zob id n;have e:zav (n+1) (id:Int)=zav n id++if n=id then [] else [(n:Int)]:=by
   unfold zav;rw [List.range_succ,List.map_append,List.filter_append];congr 1
   by_cases h:n=id
   ·subst h;simp
   ·have: ¬(n:Int)=(id:Int):=by omega
    simp [h,this]
  rw [e,List.length_append,ih];by_cases h:n=id
  ·subst h;simp
  ·rw [if_neg h]
   simp only [List.length_singleton];split<;>split<;>omega
theorem other_is {f id:Nat} (h:id≤3*f):zwp f id=3*f:=by
 unfold zwp;rw [zob,if_pos (by omega)];omega
section
variable {f id np nc k i:Nat} {hp hc:Nat→Bool} {r:Rq} {s:Ns} {l:Nt} {u:Int} {ks:List Int} {p:Pl} {com:List (List Int)} {bk:Lp} {out:List (Int×Bys)} {n:Int}
theorem zz0:cmtN (orS f id p com n bk out u) 16=if p.done then 1 else 0:=by
 have e: ∀j:Nat,1≤j→zai (ordI f 4 p) ((j:Int)+1)=none:=fun j hj=>by
  unfold zai;cases hq:plAt (ordI f 4 p) ((j:Int)+1) with
  | none=>rfl
  | some q=>
   have hq2:q=zbq f:=by
    unfold plAt at hq;cases hi:idx ((j:Int)+1) with
    | none=>rw [hi] at hq;simp at hq
    | some k=>
     rw [hi] at hq;have:=zkm hi;obtain rfl:k=j:=by omega
     obtain ⟨k',rfl⟩: ∃k',k=k'+1:=⟨k-1,by omega⟩;have h2:(List.replicate 15 (zbq f))[k']?=some q:=hq;rw [List.getElem?_replicate] at h2;split at h2
     ·exact (Option.some.inj h2).symm
     ·cases h2
   subst hq2;rfl
 unfold cmtN;rw [show List.range 16=0::(List.range 15).map (· +1) from rfl,List.countP_cons];have e0:((List.range 15).map (· +1)).countP (fun (j:Nat)=>(zai (insAt (orS f id p com n bk out u) 0) ((j:Int)+1)).isSome)=0:=by
  rw [List.countP_eq_zero];intro j hj;simp only [List.mem_map,List.mem_range] at hj;obtain ⟨j',-,rfl⟩:=hj;rw [or_at,e (j'+1) (by omega)];simp
 rw [e0,or_at];have e2:=zfb (f:=f) (ah:=4) (p:=p);have e3:zai (ordI f 4 p) (((0:Nat):Int)+1)=if p.done then some p.dw else none:=e2
 rw [e3];cases p.done<;>rfl
end
section
variable {B:Nat} {w0 w W W':World} {ss:List Res} {x:Np} {s:Ns} {l:Nt} {f id:Nat} {r:Rq} {a b:Bool}
abbrev k5 (f:Nat) (a:Bool):Int:=if a then 3*(f:Int) else 0
abbrev k10 (b:Bool):Int:=if b then 1 else 0
end
section
variable {B:Nat} {w0 W W':World} {x:Np} {s:Ns} {l L:Nt} {ss:List Res} {rn:Nat} {vp:Value} {vt:Rn}
end
abbrev oprO (a b c:Int):Obj:= .cells #[.int .i64 a,.int .i64 b,.int .i64 c] 23 (0,0)
theorem or_upd {W w:World} {x:Np} {s:Ns} {l:Nt} {ss:List Res} {B:Nat} (hB:B=W.heap.size) (h:NdIs B W w x s l ss):Upd [] W w:=by subst hB;exact nd_upd h
end Go.Proofs.YtannckelmojkoaaGreat
namespace Go.Proofs.YtannckelmojkoaaGreat
open Go.ChangeShapes Go.WideShapes Go.ChangeAt Go.RowKit Go.Deep Go.Heap
section
variable {H:Type} {enc:TypeId×Value→H} {W:World} {base:Nat} {spare:Nat→Bool} {held:Bool}
theorem op_arg {base':Nat} {v:Value} {d:DataW H} {p:List MemPlace} {r:Reach} (hv:Value.okWide Tryz.prog W r base' 23 v) (h:DataW.Trod enc Tryz.prog W base spare held 23 v d p): ∃a b c:Int,v= .agg #[.int .i64 a,.int .i64 b,.int .i64 c]:=by
 obtain ⟨v0,v1,v2,y0,y1,y2,n,rfl,-,-,h0,h1,h2⟩:=Go.Joins.open_agg3 Tryz.underlying23 (by kernel_rfl) (by kernel_rfl) hv h;obtain ⟨a,e0,-,-⟩:=DataW.trod_int Tryz.underlying3 h0;obtain ⟨b,e1,-,-⟩:=DataW.trod_int Tryz.underlying3 h1;obtain ⟨c,e2,-,-⟩:=DataW.trod_int Tryz.underlying3 h2;simp only [List.cons.injEq,and_true] at e0 e1 e2;subst e0 e1 e2;exact ⟨a,b,c,rfl⟩
end
end Go.Proofs.YtannckelmojkoaaGreat
namespace Go.Proofs.YtannckelmojkoaaGreat
open Go.RowKit Go.Heap
theorem zgm {a b:Int} (ha:0≤a) (hb:0≤b) (ha2:a<9007199254740992) (hb2:b<9007199254740992) (w:World):Calls Tryz.prog 229 #[mtV (a,b)] w fun e w'=>e= .returned (.tuple #[.int .i64 a,.int .i64 b])∧w=w':=by
 have h1: ∀wx,(convert 347 3 (.float .f64 (FloatKind.f64.nearest a))).run Tryz.prog wx= .ok (.int .i64 a) wx:=fun wx=>run_convert_float_int wx _ _ _ _ _ _ (by kernel_rfl) (by kernel_rfl) (zrr ha ha2);have h2: ∀wx,(convert 347 3 (.float .f64 (FloatKind.f64.nearest b))).run Tryz.prog wx= .ok (.int .i64 b) wx:=fun wx=>run_convert_float_int wx _ _ _ _ _ _ (by kernel_rfl) (by kernel_rfl) (zrr hb hb2);unfold mtV;simp only;clear ha hb ha2 hb2;generalize FloatKind.f64.nearest a=na at*;generalize FloatKind.f64.nearest b=nb at*;go_enter Tryz.func229,Tryz.ntmps229
 go_wp2_with fail
 go_ret2
 exact ⟨rfl,rfl⟩
def MtSm (l:List (Int×Int)):Prop:= ∀q∈l,0≤q.1∧q.1≤1000000∧0≤q.2∧q.2≤1000000000000
def sum1 (l:List (Int×Int)):Int:=(l.map Prod.fst).sum
def sum2 (l:List (Int×Int)):Int:=(l.map Prod.snd).sum
theorem zo2 {α:Type} (g:α→Int) (l:List α) (k:Nat) (hk:k<l.length):((l.take (k+1)).map g).sum=((l.take k).map g).sum+g l[k]:=by
 rw [List.take_succ_eq_append_getElem hk,List.map_append,List.sum_append];simp
theorem zll {α:Type} (g:α→Int) (m:Int) (hm:0≤m): ∀l:List α,(∀a∈l,0≤g a∧g a≤m)→0≤(l.map g).sum∧(l.map g).sum≤m*l.length
 | [],_=>by simp
 | a::l,h=>by
  have ih:=zll g m hm l (fun b hb=>h b (List.mem_cons_of_mem _ hb));have ha:=h a List.mem_cons_self;simp only [List.map_cons,List.sum_cons,List.length_cons];rw [Int.natCast_add,Int.mul_add];omega
theorem zt8 {l:List (Int×Int)} (h:MtSm l) (hl:l.length≤100):0≤sum1 l∧sum1 l≤100000000:=by
 have:=zll Prod.fst 1000000 (by omega) l (fun q hq=>⟨(h q hq).1,(h q hq).2.1⟩);unfold sum1;omega
theorem zt9 {l:List (Int×Int)} (h:MtSm l) (hl:l.length≤100):0≤sum2 l∧sum2 l≤100000000000000:=by
 have:=zll Prod.snd 1000000000000 (by omega) l (fun q hq=>⟨(h q hq).2.2.1,(h q hq).2.2.2⟩);unfold sum2;omega
theorem MtSm.take {l:List (Int×Int)} (h:MtSm l) (k:Nat):MtSm (l.take k):=fun q hq=>h q (List.mem_of_mem_take hq)
section
variable {w:World} {b o cap:Nat} {l:List (Int×Int)}
theorem zo4 (h: ∀k,(hk:k<l.length)→w.cell? ⟨b,o+k,none⟩=some (mtV l[k])) (hs:MtSm l) (hl:l.length≤100):Calls Tryz.prog 230 #[.slice (some ⟨b,o,none⟩) l.length cap] w fun e w'=>e= .returned (mtV (sum1 l,sum2 l))∧w=w':=by
 have hz:(0:Nat)=FloatKind.f64.nearest 0:=znz.symm;go_enter Tryz.func230,Tryz.ntmps230
 go_wp2_with fail
 go_loop [3,8] (fun z i=> ∃k:Nat,k≤l.length∧i= .int .i64 k∧z=mtV (sum1 (l.take k),sum2 (l.take k))) (fun _ i=>l.length-(intOf i).toNat)
 case atStart=>exact ⟨0,by omega,rfl,by simp [sum1,sum2,mtV,znz]⟩
 case round=>
  obtain ⟨k,hk,rfl,rfl⟩:=hrel;have hk0:(0:Int)≤k:=by omega
  by_cases hlt:k<l.length
  ·have hkI:(k:Int)<(l.length:Int):=by omega
   have hc:=h k hlt;have hq:=hs l[k] (List.getElem_mem hlt);have g1:=zt8 (hs.take k) (by simp;omega);have g2:=zt9 (hs.take k) (by simp;omega);have e1:sum1 (l.take (k+1))=sum1 (l.take k)+l[k].1:=zo2 Prod.fst l k hlt;have e2:sum2 (l.take (k+1))=sum2 (l.take k)+l[k].2:=zo2 Prod.snd l k hlt;have E1:=zq e1;have E2:=zq e2;clear h hs e1 e2 hz;generalize sum1 (l.take k)=p at*;generalize sum2 (l.take k)=q at*;generalize hu:l[k]=u at*;obtain ⟨a,c⟩:=u;simp only at hq;have hsum: ∀wx,(binOp .add 269 (.complex .f64 (FloatKind.f64.nearest p) (FloatKind.f64.nearest q)) (.complex .f64 (FloatKind.f64.nearest a) (FloatKind.f64.nearest c))).run Tryz.prog wx= .ok (.complex .f64 (FloatKind.f64.nearest (p+a)) (FloatKind.f64.nearest (q+c))) wx:=fun wx=>
    run_complex_sum wx .add (.inl rfl) _ _ _ _ _ _ _ _ (fl_csum (by omega) (by omega) (by omega) (by omega) (by omega) (by omega))
   unfold mtV at hc⊢;simp only at hc⊢;clear hu hq g1 g2;have HE:Hid (Value.complex .f64 (FloatKind.f64.nearest (p+a)) (FloatKind.f64.nearest (q+c))=mtV (sum1 (l.take (k+1)),sum2 (l.take (k+1)))):=zq (by rw [E1.out,E2.out]);clear E1 E2;generalize FloatKind.f64.nearest p=np at*;generalize FloatKind.f64.nearest q=nq at*;generalize FloatKind.f64.nearest a=na at*;generalize FloatKind.f64.nearest c=nc at*;generalize FloatKind.f64.nearest (p+a)=npa at*;generalize FloatKind.f64.nearest (q+c)=nqc at*
   go_wp2_with fail
   go_round
   case rel=>exact ⟨k+1,by omega,by go_num,HE.out⟩
   case measure=>simp [intOf];omega
  ·obtain rfl:k=l.length:=by omega
   have hkI:decide ((l.length:Int)<(l.length:Int))=false:=by simp
   rw [List.take_length];unfold mtV
   go_wp2_with fail
   go_ret
   exact ⟨rfl,rfl⟩
theorem slow_any {z:Int×Int} {num den:Int} (h: ∀k,(hk:k<l.length)→w.cell? ⟨b,o+k,none⟩=some (mtV l[k])) (hs:MtSm (z::l)) (hl:l.length≤100) (hl0:0<l.length) (h1:0≤num∧num≤8) (h2:0≤den∧den≤8):
  Calls Tryz.prog 172 #[.int .i64 num,.int .i64 den,mtV z,.slice (some ⟨b,o,none⟩) l.length cap] w fun e w'=>e= .returned (.bool (decide (z.1*den*l.length<num*sum1 l)))∧w=w':=by
 obtain ⟨z1,z2⟩:=z;have hs':MtSm l:=fun q hq=>hs q (List.mem_cons_of_mem _ hq);have hz:=hs (z1,z2) List.mem_cons_self;have g1:=zt8 hs' hl;have g2:=zt9 hs' hl;have HT:=zq (zo4 (cap:=cap) h hs' hl);simp only at hz;have HP:=zq (fun w=>zgm (a:=z1) (b:=z2) hz.1 hz.2.2.1 (by omega) (by omega) w);have HQ:=zq (fun w=>zgm (a:=sum1 l) (b:=sum2 l) g1.1 g2.1 (by omega) (by omega) w);obtain ⟨hz1,hz2,-,-⟩:=hz;clear h hs hs' g2;generalize sum1 l=m at*;generalize sum2 l=m2 at*;generalize mtV (z1,z2)=mz at*;generalize mtV (m,m2)=mq at*;have hlz:((l.length:Int)==0)=false:=by rw [beq_eq_false_iff_ne];omega
 have hn0:(0:Int)≤(l.length:Int):=by omega
 have hn1:(l.length:Int)≤100:=by omega
 have p1:0≤z1*den∧z1*den≤8000000:=⟨Int.mul_nonneg hz1 h2.1,by have:=Int.mul_le_mul hz2 h2.2 h2.1 (by omega:(0:Int)≤1000000);omega⟩;have p2:0≤z1*den*(l.length:Int)∧z1*den*(l.length:Int)≤800000000:=⟨Int.mul_nonneg p1.1 hn0,by have:=Int.mul_le_mul p1.2 hn1 hn0 (by omega:(0:Int)≤8000000);omega⟩;have p3:0≤num*m∧num*m≤800000000:=⟨Int.mul_nonneg h1.1 g1.1,by have:=Int.mul_le_mul h1.2 g1.2 g1.1 (by omega:(0:Int)≤8);omega⟩;have q1:IntKind.i64.wrap (z1*den)=z1*den:=IntWalk.i64_in _ (by omega);have q2:IntKind.i64.wrap (z1*den*(l.length:Int))=z1*den*(l.length:Int):=IntWalk.i64_in _ (by omega);have q3:IntKind.i64.wrap (num*m)=num*m:=IntWalk.i64_in _ (by omega);go_enter Tryz.func172,Tryz.ntmps172
 go_wp2_with fail
 refine (HP.out _).mono ?_;rintro e w' ⟨rfl,rfl⟩
 go_wp2_with fail
 refine HT.out.mono ?_;rintro e w' ⟨rfl,rfl⟩
 go_wp2_with fail
 refine (HQ.out _).mono ?_;rintro e w' ⟨rfl,rfl⟩
 go_wp2_with fail
 go_ret
 exact ⟨rfl,rfl⟩
end
def lateK (om:Int) (z:Int×Int) (l:List (Int×Int)):Bool:=decide (0<z.1)&&(decide (0<sum1 l)&&decide (sum2 l*z.1+om*z.1*sum1 l<z.2*sum1 l))
section
variable {w:World} {b o cap:Nat} {l:List (Int×Int)}
theorem late_any {z:Int×Int} {om:Int} (h: ∀k,(hk:k<l.length)→w.cell? ⟨b,o+k,none⟩=some (mtV l[k])) (hs:MtSm (z::l)) (hl:l.length≤100) (hl0:0<l.length) (h1:0≤om∧om≤64) (hz1:z.1≤1000) (hz2:z.2≤1000000000) (hm1:sum1 l≤1000) (hm2:sum2 l≤1000000000):
  Calls Tryz.prog 173 #[.int .i64 om,mtV z,.slice (some ⟨b,o,none⟩) l.length cap] w fun e w'=>e= .returned (.bool (lateK om z l))∧w=w':=by
 obtain ⟨n,t⟩:=z;have hs':MtSm l:=fun q hq=>hs q (List.mem_cons_of_mem _ hq);have hz:=hs (n,t) List.mem_cons_self;have g1:=zt8 hs' hl;have g2:=zt9 hs' hl;have HT:=zq (zo4 (cap:=cap) h hs' hl);simp only at hz hz1 hz2;obtain ⟨hn0,-,ht0,-⟩:=hz;have HP:=zq (fun w=>zgm (a:=n) (b:=t) hn0 ht0 (by omega) (by omega) w);have HQ:=zq (fun w=>zgm (a:=sum1 l) (b:=sum2 l) g1.1 g2.1 (by omega) (by omega) w);unfold lateK;simp only;have g1:=g1.1;have g2:=g2.1;clear h hs hs';generalize sum1 l=m at*;generalize sum2 l=u at*;generalize mtV (n,t)=mz at*;generalize mtV (m,u)=mq at*;have hlz:((l.length:Int)==0)=false:=by rw [beq_eq_false_iff_ne];omega
 have p1:0≤t*m∧t*m≤1000000000000:=⟨Int.mul_nonneg ht0 g1,by have:=Int.mul_le_mul hz2 hm1 g1 (by omega:(0:Int)≤1000000000);omega⟩;have p2:0≤u*n∧u*n≤1000000000000:=⟨Int.mul_nonneg g2 hn0,by have:=Int.mul_le_mul hm2 hz1 hn0 (by omega:(0:Int)≤1000000000);omega⟩;have p3:0≤om*n∧om*n≤64000:=⟨Int.mul_nonneg h1.1 hn0,by have:=Int.mul_le_mul h1.2 hz1 hn0 (by omega:(0:Int)≤64);omega⟩;have p4:0≤om*n*m∧om*n*m≤64000000:=⟨Int.mul_nonneg p3.1 g1,by have:=Int.mul_le_mul p3.2 hm1 g1 (by omega:(0:Int)≤64000);omega⟩;have q1:IntKind.i64.wrap (t*m)=t*m:=IntWalk.i64_in _ (by omega);have q2:IntKind.i64.wrap (u*n)=u*n:=IntWalk.i64_in _ (by omega);have q3:IntKind.i64.wrap (om*n)=om*n:=IntWalk.i64_in _ (by omega);have q4:IntKind.i64.wrap (om*n*m)=om*n*m:=IntWalk.i64_in _ (by omega);have q5:IntKind.i64.wrap (u*n+om*n*m)=u*n+om*n*m:=IntWalk.i64_in _ (by omega);clear p1 p2 p3 p4;by_cases hn:n≤0
 ·have e1:decide (0<n)=false:=by simp;omega
  have e2:decide (n≤0)=true:=by simp;omega
  rw [e1,Bool.false_and];clear hn e1;go_enter Tryz.func173,Tryz.ntmps173
  go_wp2_with fail
  refine zb4 0 (fun a' w'=> ∃u:Nat→Value,a'= {tmps:=#[u 0,u 1,u 2,u 3,u 4,u 5,u 6,u 7,u 8,u 9,u 10,u 11,u 12,u 13,u 14,u 15,u 16,u 17,u 18,u 19,u 20,u 21,u 22,u 23,u 24,u 25,u 26,u 27,u 28,u 29,u 30,u 31,u 32,u 33,u 34,u 35,u 36,u 37,u 38,u 39,u 40,u 41,u 42,u 43],defers:=[]}∧w'=w) rfl ?_ ?_
  ·go_wp2_with fail
   with_reducible refine (HP.out _).mono ?_
   rintro e w' ⟨rfl,rfl⟩
   go_wp2_with fail
   with_reducible refine HT.out.mono ?_
   rintro e w' ⟨rfl,rfl⟩
   go_wp2_with fail
   with_reducible refine (HQ.out _).mono ?_
   rintro e w' ⟨rfl,rfl⟩
   go_wp2_with fail
   go_step3
   exact ⟨rfl,zbw _ (by kernel_rfl) rfl⟩
  ·rintro a' w' ⟨u,rfl,rfl⟩
   go_wp2_with fail
   simp only [Exit.noGoto];go_ret
   exact ⟨rfl,rfl⟩
 ·have e1:decide (0<n)=true:=by simp;omega
  have e2:decide (n≤0)=false:=by simp;omega
  rw [e1,Bool.true_and];clear hn e1;by_cases hm:m≤0
  ·have e3:decide (0<m)=false:=by simp;omega
   have e4:decide (m≤0)=true:=by simp;omega
   rw [e3,Bool.false_and];clear hm e3;go_enter Tryz.func173,Tryz.ntmps173
   go_wp2_with fail
   refine zb4 0 (fun a' w'=> ∃u:Nat→Value,a'= {tmps:=#[u 0,u 1,u 2,u 3,u 4,u 5,u 6,u 7,u 8,u 9,u 10,u 11,u 12,u 13,u 14,u 15,u 16,u 17,u 18,u 19,u 20,u 21,u 22,u 23,u 24,u 25,u 26,u 27,u 28,u 29,u 30,u 31,u 32,u 33,u 34,u 35,u 36,u 37,u 38,u 39,u 40,u 41,u 42,u 43],defers:=[]}∧w'=w) rfl ?_ ?_
   ·go_wp2_with fail
    with_reducible refine (HP.out _).mono ?_
    rintro e w' ⟨rfl,rfl⟩
    go_wp2_with fail
    with_reducible refine HT.out.mono ?_
    rintro e w' ⟨rfl,rfl⟩
    go_wp2_with fail
    with_reducible refine (HQ.out _).mono ?_
    rintro e w' ⟨rfl,rfl⟩
    go_wp2_with fail
    go_step3
    exact ⟨rfl,zbw _ (by kernel_rfl) rfl⟩
   ·rintro a' w' ⟨u,rfl,rfl⟩
    go_wp2_with fail
    simp only [Exit.noGoto];go_ret
    exact ⟨rfl,rfl⟩
  ·have e3:decide (0<m)=true:=by simp;omega
   have e4:decide (m≤0)=false:=by simp;omega
   rw [e3,Bool.true_and];clear hm e3;go_enter Tryz.func173,Tryz.ntmps173
   go_wp2_with fail
   refine zb4 0 (fun a' w'=>False) rfl ?_ (fun _ _ h=>h.elim)
   go_wp2_with fail
   with_reducible refine (HP.out _).mono ?_
   rintro e w' ⟨rfl,rfl⟩
   go_wp2_with fail
   with_reducible refine HT.out.mono ?_
   rintro e w' ⟨rfl,rfl⟩
   go_wp2_with fail
   with_reducible refine (HQ.out _).mono ?_
   rintro e w' ⟨rfl,rfl⟩
   go_wp2_with fail
   simp only [Exit.one];go_ret
   exact ⟨rfl,rfl⟩
def slowK (c:Cf) (z:Int×Int) (l:List (Int×Int)):Bool:=decide (z.1*c.de*l.length<c.nu*sum1 l)
theorem zuk {c:Cf} {z:Int×Int} {l:List (Int×Int)} (hl:0<l.length):zcq c (z::l)=(slowK c z l || lateK c.om z l):=by
 have he:l.isEmpty=false:=by cases l with | nil=>simp at hl | cons=>rfl
 unfold zcq slowP lateP slowK lateK sum1 sum2;simp only [he];simp
abbrev cfB (c:Cf):Obj:= .cells (cfA c) 30 (0,0)
theorem zqr {c:Cf} (hc:CfOk c) {z:Int×Int} {g:Nat} (hcap:l.length+1≤cap) (h0:w.cell? ⟨g,0,none⟩=some (mtV z)) (h: ∀k,(hk:k<l.length)→w.cell? ⟨g,1+k,none⟩=some (mtV l[k])) (hs:MtSm (z::l)) (hl:l.length≤100) (hl0:0<l.length) (hz1:z.1≤1000) (hz2:z.2≤1000000000) (hm1:sum1 l≤1000) (hm2:sum2 l≤1000000000):
  Calls Tryz.prog 94 #[.agg (cfA c),.slice (some ⟨g,0,none⟩) (l.length+1) cap] w fun e w'=>e= .returned (.bool (zcq c (z::l)))∧Upd [] w w':=by
 rw [zuk hl0];have hg:g<w.heap.size:=Held.cell_size h0;have H:=zq ((Own.start (Below.refl w.heap.size w) (Nat.le_refl _)).box (cfB c));have HS:=zq (fun (W:World) (h: ∀k,(hk:k<l.length)→W.cell? ⟨g,1+k,none⟩=some (mtV l[k]))=>slow_any (o:=1) (z:=z) (num:=c.nu) (den:=c.de) (cap:=cap-1) h hs hl hl0 ⟨hc.nu1,hc.nu2⟩ ⟨by have:=hc.de1;omega,hc.de2⟩);have HL:=zq (fun (W:World) (h: ∀k,(hk:k<l.length)→W.cell? ⟨g,1+k,none⟩=some (mtV l[k]))=>late_any (o:=1) (z:=z) (om:=c.om) (cap:=cap-1) h hs hl hl0 ⟨hc.om1,hc.om2⟩ hz1 hz2 hm1 hm2);have HH:=zq h;obtain ⟨sl,hsl⟩: ∃b,b=slowK c z l:=⟨_,rfl⟩;obtain ⟨la,hla⟩: ∃b,b=lateK c.om z l:=⟨_,rfl⟩;have HS:Hid (∀(W:World),(∀k,(hk:k<l.length)→W.cell? ⟨g,1+k,none⟩=some (mtV l[k]))→Calls Tryz.prog 172 #[.int .i64 c.nu,.int .i64 c.de,mtV z,.slice (some ⟨g,1,none⟩) l.length (cap-1)] W fun e w'=>e= .returned (.bool sl)∧W=w'):=zq (by rw [hsl];exact HS.out);rw [←hla] at HL;rw [←hsl,←hla];have H0:=zq h0;clear hsl hla h hs hm1 hm2 hz1 hz2 h0;have hlz:((l.length:Int)+1==0)=false:=by rw [beq_eq_false_iff_ne];omega
 have hl1:(1:Int)≤(l.length:Int)+1:=by omega
 have hl2:(0:Int)<(l.length:Int)+1:=by omega
 have hcI:(l.length:Int)+1≤(cap:Int):=by omega
 generalize mtV z=mz at*;go_enter Tryz.func94,Tryz.ntmps94
 go_wp2_with fail
 generalize World.alloc w _=w1 at*;have x0:w1.cell? ⟨g,0,none⟩=some mz:=(H.out.below.cell hg).trans H0.out;have HX:Hid (∀n k,(hk:k<l.length)→(w1.drewN n).cell? ⟨g,1+k,none⟩=some (mtV l[k])):=zq (fun n k hk=>(H.out.below.cell hg).trans (HH.out k hk));have y8:=zaa (H.out.blkAt 0 rfl) 8 (v:= .int .i64 c.nu) rfl;have y9:=zaa (H.out.blkAt 0 rfl) 9 (v:= .int .i64 c.de) rfl;have y11:=zaa (H.out.blkAt 0 rfl) 11 (v:= .int .i64 c.om) rfl;refine zb4 1 (fun a' w'=> ∃u:Nat→Value,a'= {tmps:=#[u 0,u 1,u 2,u 3,u 4,u 5,u 6,u 7,u 8,u 9,u 10,u 11,u 12,u 13,u 14,u 15,u 16,u 17,u 18,u 19,u 20,u 21,u 22,u 23,u 24,u 25],defers:=[]}∧(sl || la)=true∧Upd [] w w') rfl ?_ ?_
 ·cases sl with
  | true=>
   go_wp2_with fail
   go_quiet ((go_at_call 172;exact zap (HS.out _ (HX.out _))))
   go_wp2_with fail
   go_step3
   exact ⟨rfl,zbw _ (by kernel_rfl) ⟨rfl,Upd.of_below (H.out.upd0 ((Upd.refl _ _).drewN _)).below⟩⟩
  | false=>
   go_wp2_with fail
   go_quiet ((go_at_call 172;exact zap (HS.out _ (HX.out _))))
   go_wp2_with fail
   generalize hw2:World.drewN w1 _=w2;have HX2:Hid (∀n k,(hk:k<l.length)→(w2.drewN n).cell? ⟨g,1+k,none⟩=some (mtV l[k])):=zq (by rw [←hw2];exact fun n k hk=>HX.out 0 k hk);have x0:w2.cell? ⟨g,0,none⟩=some mz:=by rw [←hw2];exact x0
   have H2:Hid (Own w.heap.size w w2 [blk w.heap.size (cfB c)]):=zq (by rw [←hw2];exact H.out.upd0 ((Upd.refl _ _).drewN _));have y11:=zaa (H2.out.blkAt 0 rfl) 11 (v:= .int .i64 c.om) rfl;clear hw2 HX H;cases la with
   | true=>
    go_quiet ((go_at_call 173;exact zap (HL.out _ (HX2.out _))))
    go_wp2_with fail
    go_step3
    exact ⟨rfl,zbw _ (by kernel_rfl) ⟨rfl,Upd.of_below (H2.out.upd0 ((Upd.refl _ _).drewN _)).below⟩⟩
   | false=>
    go_quiet ((go_at_call 173;exact zap (HL.out _ (HX2.out _))))
    go_wp2_with fail
    go_step3
    go_wp2_with fail
    simp only [Exit.one];go_ret
    exact ⟨rfl,Upd.of_below (H2.out.upd0 ((Upd.refl _ _).drewN _)).below⟩
 ·rintro a' w' ⟨u,rfl,hb,hu⟩
  have HB:=zq hb;have HU:=zq hu;clear hb hu
  go_wp2_with fail
  simp only [Exit.noGoto];go_ret
  exact ⟨by rw [HB.out];rfl,HU.out⟩
end
section
variable {w:World} {b o:Nat} {bl:List Bool}
end
end Go.Proofs.YtannckelmojkoaaGreat
namespace Go.Heap
open Go Go.RowKit
section
variable {B:Nat} {w0 w W W':World} {rs:List Res} {E sz n:Nat} {v:Value} {xs:List Value} {A:List Nat}
end
end Go.Heap
namespace Go.Proofs.YtannckelmojkoaaGreat
open Go.RowKit Go.Heap
section
variable {B:Nat} {w0 W:World} {ss:List Res} {tb f:Nat} {cl:Int} {v:Value} {l:List Td}
end
section
variable {B:Nat} {w0 W:World} {ss:List Res} {l:List Td} {g cap n:Nat} {A:List Nat}
end
section
variable {B:Nat} {w0 W:World} {ss:List Res} {tb f:Nat} {cl:Int} {v:Value} {l:List Td}
end
section
variable {B:Nat} {w0 W:World} {ss rs:List Res} {c g cap:Nat} {l:List (Int×Int)} {A:List Nat} {y:Lg}
end
section
variable {B:Nat} {w0 w W W':World} {ss rs:List Res} {x:Np} {s s':Ns} {l l':Nt}
theorem nd_has (h:NdIs B w0 W x s l ss) (r:Rq) (node:Int):Calls Tryz.prog 165 #[ptrV x.tb,rqAgg r,.int .i64 node] W fun e w'=>e= .returned (.bool (zhy s.tab r node))∧Upd [] W w':=by
 obtain ⟨tv,htb⟩:=h.tbAt;exact zxq htb (Nat.le_trans (zga h.ok.tab h.ok.c.cl2) (by omega)) r node
end
section
variable {m:Ms} {p:NSt} {r:Rq}
end
section
variable {B:Nat} {w0 w W W':World} {ss rs:List Res} {x:Np} {s s':Ns} {l l':Nt}
theorem zje (h:NdIs B w0 W x s l ss) (r:Rq) (hn:l.length≤900000000) (ho:s.out.length≤900000000):
  Calls Tryz.prog 166 #[ptrV x.p,rqAgg r] W fun e w'=>e= .returned (.tuple #[])∧NdIs B w0 w' x (propS (s,l) r).1 (propS (s,l) r).2 ss:=by
 obtain ⟨fin,hfin⟩: ∃fin,fin=propS (s,l) r:=⟨_,rfl⟩;rw [←hfin];obtain ⟨mm,hmm⟩: ∃mm:Value→Mm,mm=fun v=>batMm 2 0 0 0 v [r]:=⟨_,rfl⟩;have HS:Hid (∀W' (v:Value),NdIs B w0 W' x s l (mmR (batMm 2 0 0 0 v [r]) ss)→Calls Tryz.prog 160 #[ptrV x.p,.agg (mmA (batMm 2 0 0 0 v [r]))] W' fun e w'=>e= .returned (.tuple #[.int .i64 (sendN (s,l) (prgM r)),.bool (sendB (s,l) (prgM r))])∧NdIs B w0 w' x fin.1 fin.2 ss):=zq (fun W' v h=>by
  refine (zgk h (zmb (by simp)) hn ho).mono ?_;rintro e w' ⟨he,h2⟩;have h3:=zih h2;rw [hfin];exact ⟨he,h3⟩)
 have H1:=zq (h.box (rqO r));clear hfin h hmm mm;unfold rqAgg;go_enter Tryz.func166,Tryz.ntmps166
 go_upto_region 1 with fail
 generalize W.heap.size=e0 at*;generalize World.alloc W _=w1 at*;obtain ⟨rr,hr,hk⟩:=H1.out.side;have b0:=zaa (hr.blkAt 0 rfl) 0 rfl;have b1:=zaa (hr.blkAt 0 rfl) 1 rfl;have b2:=zaa (hr.blkAt 0 rfl) 2 rfl;have b3:=zaa (hr.blkAt 0 rfl) 3 rfl;have b4:=zaa (hr.blkAt 0 rfl) 4 rfl;have b5:=zaa (hr.blkAt 0 rfl) 5 rfl;have H2:Hid (NdIs B w0 (w1.alloc (rqO r)) x s l (mmR (batMm 2 0 0 0 (.slice (some ⟨w1.heap.size,0,none⟩) 1 1) [r]) ss)):=zq (hk _ (mmR (batMm 2 0 0 0 (.slice (some ⟨w1.heap.size,0,none⟩) 1 1) [r]) ss) (zoe hr.drop r));have HC:=zq (HS.out _ _ H2.out);generalize sendN (s,l) (prgM r)=sn at*;generalize sendB (s,l) (prgM r)=sb at*;clear hr hk H2 H1 HS
 go_wp2_with fail
 with_reducible refine HC.out.mono ?_
 rintro e w2 ⟨rfl,h2⟩;have HF:=zq h2;clear h2 HC b0 b1 b2 b3 b4 b5
 go_wp2_with fail
 refine bodyPost_end (results_none rfl _ _ _) rfl ?_;exact ⟨rfl,HF.out⟩
end
section
variable {B:Nat} {w0 w W W':World} {ss rs:List Res} {x:Np} {s s':Ns} {l l':Nt} {k i:Nat}
end
section
variable {B:Nat} {w0 w W W':World} {ss rs:List Res} {x:Np} {s s':Ns} {l l':Nt} {k i:Nat}
end
section
variable {B:Nat} {w0 w W W':World} {ss rs:List Res} {x:Np} {s s':Ns} {l l':Nt} {i:Nat}
end
structure Wf (p:NSt):Prop where
 c:CfOk p.1.c
 sm:SmN p.1
 pt:PtOk p.1
structure KeepG (a b:Ns):Prop where
 gd:b.gd=a.gd
 used:b.used=a.used
 bad:b.bad=a.bad
 stale:b.stale=a.stale
 shut:b.shut=a.shut
 full:b.full=a.full
theorem KeepG.refl (a:Ns):KeepG a a:=⟨rfl,rfl,rfl,rfl,rfl,rfl⟩
theorem KeepG.trans {a b c:Ns} (h:KeepG a b) (g:KeepG b c):KeepG a c:=⟨g.gd.trans h.gd,g.used.trans h.used,g.bad.trans h.bad,g.stale.trans h.stale,g.shut.trans h.shut,g.full.trans h.full⟩
theorem KeepN.g {a b:Ns} (h:KeepN a b):KeepG a b:=⟨h.gd,h.used,h.bad,h.stale,h.shut,h.full⟩
structure Gr (n:Nat) (p q:NSt):Prop where
 out:q.1.out.length≤p.1.out.length+n
 nt:q.2.length≤p.2.length+n
 c:q.1.c=p.1.c
 sm:SmN q.1
 pt:PtOk q.1
 g:KeepG p.1 q.1
theorem Gr.wf {n:Nat} {p q:NSt} (h:Gr n p q) (g:Wf p):Wf q:=⟨h.c ▸ g.c,h.sm,h.pt⟩
theorem Gr.refl {p:NSt} (h:Wf p):Gr 0 p p:=⟨Nat.le_refl _,Nat.le_refl _,rfl,h.sm,h.pt,.refl _⟩
theorem Gr.trans {n m:Nat} {p q r:NSt} (h:Gr n p q) (g:Gr m q r):Gr (n+m) p r:=⟨by have:=h.out;have:=g.out;omega,by have:=h.nt;have:=g.nt;omega,g.c.trans h.c,g.sm,g.pt,h.g.trans g.g⟩
theorem Gr.mono {n m:Nat} {p q:NSt} (h:Gr n p q) (hm:n≤m):Gr m p q:=⟨by have:=h.out;omega,by have:=h.nt;omega,h.c,h.sm,h.pt,h.g⟩
theorem Gr.of {n:Nat} {p q:NSt} (w:Wf p) (h:Grow n p q) (hs:SmN q.1):Gr n p q:=⟨h.out,h.nt,h.k.c,hs,w.pt.of h.k.pts,h.k.g⟩
theorem gr_send (m:Ms) {p:NSt} (h:Wf p):Gr 13 p (sendS p m):= .of h (zn2 p m h.c.f2) (h.sm.ins (zow _ _))
theorem zvv (k:Nat) (seq:Int) {p:NSt} (h:Wf p):Gr 90 p (zb7 k seq p):=let ⟨a,b⟩:=zpq k seq p h.c.f2 h.sm;.of h a b
theorem zvw (k:Nat) (st:In) {p:NSt} (h:Wf p) (hs:InSm st):Gr 0 p (zbc p.1 k st,p.2):=⟨Nat.le_refl _,Nat.le_refl _,rfl,h.sm.set hs,h.pt,⟨rfl,rfl,rfl,rfl,rfl,rfl⟩⟩
theorem zr3 {α:Type} (g:NSt→α→NSt) (n:Nat) (hg: ∀p a,Wf p→Gr n p (g p a)): ∀(l:List α) (p:NSt),Wf p→Gr (n*l.length) p (l.foldl g p)
 | [],p,h=>by simpa using Gr.refl h
 | a::l,p,h=>by
  have h1:=hg p a h;have h2:=zr3 g n hg l (g p a) (h1.wf h);refine (h1.trans h2).mono ?_;rw [List.length_cons,Nat.mul_add];omega
theorem zok (i:In) (bt:Int) (hb:0≤bt) (rs:List Rq):((pickB i bt rs).length:Int)≤bt:=by
 unfold pickB
 suffices h: ∀(rs:List Rq) (b:List Rq),(b.length:Int)≤bt→((rs.foldl (fun b r=>if (b.length:Int)<bt∧ !usedI i r then b++[r] else b) b).length:Int)≤bt by exact h rs [] (by simpa using hb)
 intro rs
 induction rs with
 | nil=>intro b h;exact h
 | cons r rs ih=>
  intro b h;rw [List.foldl_cons];refine ih _ ?_;split
  ·rename_i hc
   rw [List.length_append,List.length_singleton];omega
  ·exact h
theorem zkj (p:NSt) (k:Nat) (h:Wf p):Gr 103 p (zbb p k):=by
 unfold zbb;simp only;split
 ·exact (Gr.refl h).mono (by omega)
 ·split
  ·exact (Gr.refl h).mono (by omega)
  ·have hb:(pickB (insAt p.1 k) p.1.c.bt (zak p.1.tab)).length≤4:=by
    have:=zok (insAt p.1 k) p.1.c.bt (by have:=h.c.bt1;omega) (zak p.1.tab);have:=h.c.bt2;omega
   have g1:=zvw k (preI (insAt p.1 k) (nextI (insAt p.1 k)) (pickB (insAt p.1 k) p.1.c.bt (zak p.1.tab))) h ((zr9 hb).sm (h.sm k));have w1:=g1.wf h;have w2:Wf ({zbc p.1 k (preI (insAt p.1 k) (nextI (insAt p.1 k)) (pickB (insAt p.1 k) p.1.c.bt (zak p.1.tab))) with pre:=setRow p.1.pre k (nextI (insAt p.1 k)) (p.1.view+1)},p.2):=⟨w1.c,w1.sm,w1.pt⟩;have g2:=gr_send (balM' 3 p.1.view k (nextI (insAt p.1 k)) (pickB (insAt p.1 k) p.1.c.bt (zak p.1.tab))) w2;have g3:=zvv k (nextI (insAt p.1 k)) (g2.wf w2);have g4:=g2.trans g3;exact ⟨g4.out,g4.nt,g4.c,g4.sm,g4.pt,⟨g4.g.gd,g4.g.used,g4.g.bad,g4.g.stale,g4.g.shut,g4.g.full⟩⟩
def zpb (p:NSt):NSt:=(List.range (p.1.c.f+1)).foldl zd6 p
def zl5 (p:NSt):NSt:=if p.1.voted=p.1.view then sendS p (chM p.1.view) else p
def zpc (p:NSt):NSt:=if allOn p.1 then p else sendS p (vcMs p.1)
def zu3 (p:NSt):NSt:=p.1.bg.foldl bgOne p
def zu4 (p:NSt):NSt:=p.1.ins.foldl pfOne p
def zzp (p:NSt):NSt:=(zby p.1.tab).foldl zfh p
theorem znl (p:NSt):zh0 p=zzp (zu4 (zu3 (zpc (zl5 (zpb p))))):=rfl
def tick1 (p:NSt):NSt:=(List.range (p.1.c.f+1)).foldl zbb p
def tick2 (p:NSt):NSt:=if p.1.now%p.1.c.ag=0 then zh0 p else p
def tick3 (p:NSt):NSt:=if !(insAt p.1 0).on&&decide (p.1.since+p.1.c.wa≤p.1.now) then zfr p else p
def tick4 (p:NSt):NSt:=if (insAt p.1 0).on&&oldP p.1 then zfr p else p
def zgg (p:NSt):NSt:=({p.1 with now:=p.1.now+1},p.2)
theorem zuh (p:NSt):tickS p=if p.1.stop then p else if 1048576≤p.1.now then ({p.1 with stop:=true},p.2) else zix (tick4 (tick3 (tick2 (tick1 (zgg p))))):=rfl
theorem gr_tick1 {p:NSt} (h:Wf p):Gr 515 p (tick1 p):=(zr3 zbb 103 zkj _ p h).mono (by rw [List.length_range];have:=h.c.f2;omega)
end Go.Proofs.YtannckelmojkoaaGreat
