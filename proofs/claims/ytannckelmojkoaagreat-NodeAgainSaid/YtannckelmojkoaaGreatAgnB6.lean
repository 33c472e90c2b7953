/- Parts of the proof, one behind the other. -/
import Derived.Test.YtannckelmojkoaaGreatAgnB5
import Derived.Deep.AppendLies
set_option maxHeartbeats 32000000
set_option maxRecDepth 100000
set_option linter.unusedVariables false
set_option linter.unusedSimpArgs false
namespace Go.Proofs.YtannckelmojkoaaGreat
def sumV (l:List Int):Int:=l.foldl (· + ·) 0
def zc8 (vs:List Int) (r:Rq):Int×List Int:=
 if r.key<0∨64≤r.key∨r.val≤ -2147483648∨2147483648≤r.val then (0,vs)
 else if r.kind=1 then (vs.getD r.key.toNat 0,vs.set r.key.toNat r.val)
 else if r.kind=2 then (vs.getD r.key.toNat 0,vs)
 else if r.kind=3 then
  if vs.getD r.key.toNat 0+r.val≤ -2147483648∨2147483648≤vs.getD r.key.toNat 0+r.val then (vs.getD r.key.toNat 0,vs)
  else (vs.getD r.key.toNat 0+r.val,vs.set r.key.toNat (vs.getD r.key.toNat 0+r.val))
 else if r.kind=4 then (vs.getD r.key.toNat 0,vs.set r.key.toNat 0)
 else if r.kind=5 then (sumV vs,vs)
 else (0,vs)
def VsOk (vs:List Int):Prop:=vs.length=64∧ ∀v∈vs,-2147483648<v∧v<2147483648
theorem VsOk.at {vs:List Int} (h:VsOk vs) (k:Nat): -2147483648<vs.getD k 0∧vs.getD k 0<2147483648:=by
 rw [List.getD_eq_getElem?_getD];cases hk:vs[k]? with
 | none=>simp
 | some v=>simpa using h.2 v (List.mem_of_getElem? hk)
theorem VsOk.put {vs:List Int} (h:VsOk vs) (k:Nat) {v:Int} (h1: -2147483648<v) (h2:v<2147483648):VsOk (vs.set k v):=by
 refine ⟨by simpa using h.1,fun u hu=> ?_⟩;rcases List.mem_or_eq_of_mem_set hu with hu | rfl
 ·exact h.2 u hu
 ·exact ⟨h1,h2⟩
theorem sum_in: ∀(l:List Int) (a:Int),(∀v∈l,-2147483648<v∧v<2147483648)→a-2147483648*l.length≤l.foldl (· + ·) a∧l.foldl (· + ·) a≤a+2147483648*l.length
 | [],a,_=>by simp
 | v::l,a,h=>by
  have h1:=h v (by simp);have h2:=sum_in l (a+v) (fun u hu=>h u (by simp [hu]));simp only [List.foldl_cons,List.length_cons];omega
theorem zu8 {vs:List Int} (h:VsOk vs) (r:Rq):VsOk (zc8 vs r).2∧ -1000000000000<(zc8 vs r).1∧(zc8 vs r).1<1000000000000:=by
 have ha:=h.at r.key.toNat;have hs:=sum_in vs 0 h.2;rw [h.1] at hs;unfold zc8;split
 ·exact ⟨h,by simp,by simp⟩
 ·rename_i hb
  split
  ·exact ⟨h.put _ (by omega) (by omega),by simp only;omega,by simp only;omega⟩
  ·split
   ·exact ⟨h,by simp only;omega,by simp only;omega⟩
   ·split
    ·split
     ·exact ⟨h,by simp only;omega,by simp only;omega⟩
     ·rename_i hc
      exact ⟨h.put _ (by omega) (by omega),by simp only;omega,by simp only;omega⟩
    ·split
     ·exact ⟨h.put _ (by omega) (by omega),by simp only;omega,by simp only;omega⟩
     ·split
      ·exact ⟨h,by simp only [sumV];omega,by simp only [sumV];omega⟩
      ·exact ⟨h,by simp,by simp⟩
structure Sv where
 vs:List Int
 tm:Nat→Int
def Sv.new:Sv:=⟨List.replicate 64 0,fun _=>0⟩
def upT (t:Nat→Int) (k:Nat) (v:Int):Nat→Int:=fun j=>if j=k then v else t j
def stepR (n:Int) (s:Sv) (r:Rq):Option Int×Sv:=
 if r.client<0∨n≤r.client∨r.time≤s.tm r.client.toNat then (none,s)
 else (some (zc8 s.vs r).1,⟨(zc8 s.vs r).2,upT s.tm r.client.toNat r.time⟩)
def behind (n:Int):Sv→List En→Sv
 | s,[]=>s
 | s,e::es=>behind n (stepR n s e.rq).2 es
def OnceP (l:List En):Prop:=l.Pairwise fun f e=> ¬(f.rq.client=e.rq.client∧e.rq.time≤f.rq.time)
instance (l:List En):Decidable (OnceP l):=by unfold OnceP;exact inferInstance
end Go.Proofs.YtannckelmojkoaaGreat
namespace Go.Proofs.YtannckelmojkoaaGreat
open Go.RowKit Go.Heap
section
variable {B:Nat} {w0 W W':World} {ss:List Res}
end
section
variable {B:Nat} {w0 w W W':World} {ss:List Res}
theorem news_at {g:Nat} {cs:Array Value} {T:TypeId} (h:w.heap[g]?=some (.cells cs T (0,0))): ∀j u,cs.toList[j]?=some u→w.cell? ((⟨g,0,none⟩:Addr).add j)=some u:=by
 intro j u hj;have:(⟨g,0,none⟩:Addr).add j=⟨g,j,none⟩:=by unfold Addr.add;split<;>simp_all
 rw [this,zab h]
 simpa using hj
theorem zw3 {g n sz:Nat} {cs:Array Value} {T:TypeId} (h:w.heap[g]?=some (.cells cs T (0,0))) (hs:cs.size=n*sz) (hn:n≤maxLen):Reads w (.slice (some ⟨g,0,none⟩) n n) sz n cs.toList:=
 ⟨_,_,rfl,Nat.le_refl _,hn,by simpa using hs,(fun e=>by cases e),fun _=>⟨g,0,rfl,block_lt h,fun j _=>by rw [Nat.zero_add,zab h];simp⟩⟩
theorem zop {b o:Nat} {cs:List Value} (hu:Upd [] w W) (h:w.rangeAt b o cs):W.rangeAt b o cs:=fun j v hj=>zaj hu (h j v hj)
theorem zon {b:Nat} {cs:Array Value} {T:TypeId} (h:w.heap[b]?=some (.cells cs T (0,0))):w.rangeAt b 0 cs.toList:=fun j v hj=>by
 rw [Nat.zero_add,zab h]
 simpa using hj
theorem zhw {b:Nat} {T:TypeId} {fr:Nat×Nat}: ∀(vs:List Value) (o:Nat) (w:World) (cur:Array Value),w.heap[b]?=some (.cells cur T fr)→ ∃cur',(w.setCells b o vs).heap[b]?=some (.cells cur' T fr)∧cur'.size=cur.size∧
  ∀j,cur'[j]?=if o≤j∧j<o+vs.length∧j<cur.size then vs[j-o]? else cur[j]?
 | [],o,w,cur,h=>⟨cur,h,rfl,fun j=>by rw [if_neg (by simp;omega)]⟩
 | v::vs,o,w,cur,h=>by
  have h1:(w.setCell ⟨b,o,none⟩ v).heap[b]?=some (.cells (cur.setIfInBounds o v) T fr):=by rw [zc5 rfl,h];rfl
  obtain ⟨cur',e1,e2,e3⟩:=zhw vs (o+1) _ _ h1;refine ⟨cur',e1,by simpa using e2,fun j=> ?_⟩;rw [e3 j];simp only [Array.size_setIfInBounds,List.length_cons];by_cases hj:o=j
  ·subst hj
   rw [if_neg (by omega),Array.getElem?_setIfInBounds_self];by_cases hs:o<cur.size
   ·rw [if_pos hs,if_pos ⟨Nat.le_refl _,by omega,hs⟩];simp
   ·rw [if_neg hs,if_neg (by omega),Array.getElem?_eq_none (by omega)]
  ·rw [Array.getElem?_setIfInBounds_ne hj]
   by_cases h2:o+1≤j∧j<o+1+vs.length∧j<cur.size
   ·rw [if_pos h2,if_pos ⟨by omega,by omega,h2.2.2⟩]
    rw [show j-o=(j-(o+1))+1 by omega,List.getElem?_cons_succ]
   ·rw [if_neg h2,if_neg (by omega)]
theorem zo5 {b:Nat}: ∀(vs:List Value) (o:Nat) (w0 w:World),Upd [b] w0 w→Upd [b] w0 (w.setCells b o vs)
 | [],_,_,_,h=>h
 | v::vs,o,w0,w,h=>zo5 vs (o+1) w0 _ (h.setCell (.inl (by simp)) v)
theorem zk0 (h:Own B w0 W ss) {z:Array Value} {T:TypeId} {cs:List Value} (hz:z.size=cs.length) {n:Nat} (hn:W.heap.size=n):Own B w0 ((W.alloc (.cells z T (0,0))).setCells n 0 cs) (segR n T cs::ss):=by
 subst hn;have h1:=h.box (.cells z T (0,0));have hu:Upd [W.heap.size] (W.alloc (.cells z T (0,0))) ((W.alloc (.cells z T (0,0))).setCells W.heap.size 0 cs):=zo5 _ _ _ _ (Upd.refl _ _);obtain ⟨cur',e1,e2,e3⟩:=zhw cs 0 (W.alloc (.cells z T (0,0))) z (heap_alloc_new W _);exact h1.step (r':=segR W.heap.size T cs) hu ⟨[],⟨⟨cur',e1,by rw [e2,hz];exact Nat.le_refl _,fun j hj=>by
  rw [e3 j,if_pos ⟨by omega,by omega,by omega⟩,Nat.sub_zero]⟩,rfl⟩,by simp,fun k hk=>Nat.lt_of_lt_of_le (h1.lt k hk) hu.size⟩ (fun k hk=> .inl hk)
theorem zo3 {z:Array Value} {T:TypeId} {n k:Nat} (hn:W.heap.size=n) (hk:k≤z.size):(W.alloc (.cells z T (0,0))).there n 0 k:=fun j hj=>by
 subst hn;have hb:=heap_alloc_new W (.cells z T (0,0));refine ⟨?_,zac hb _⟩;rw [Nat.zero_add,zab hb,Array.getElem?_eq_getElem (by omega)];rfl
end
section
variable {B:Nat} {w0 w W W':World} {ss:List Res}
theorem cx_one: ∀u∈(madeCells #[.complex .f64 0 0] 2).toList,u.oneCell'=true:=by decide+kernel
theorem cx_size:(madeCells #[.complex .f64 0 0] 2).size=2*1:=by simp [size_madeCells]
abbrev zc9:Obj:= .cells #[.int .i64 0,.slice none 0 0] 236 (0,0)
theorem zkd (h:Own B w0 W ss):Calls Tryz.prog 81 #[] W fun e w'=> ∃p,e= .returned (.pointer (some ⟨p,0,none⟩))∧Upd [] W w'∧Own B w0 w' (blk p zc9::ss):=by
 have H:=zq h;clear h;go_enter Tryz.func81,Tryz.ntmps81
 go_wp2
 go_ret
 exact ⟨_,rfl,(Upd.refl _ _).alloc _,H.out.box _⟩
end
theorem zco {l:List Pm} {k:Nat} (hk:k<l.length) (x y:Pm) (r:Nat) (v:Value) (hr:r<14) (h:zao y=(zao x).set r v):((l.set k x).flatMap zao).set (k*14+r) v=(l.set k y).flatMap zao:=by
 rw [zrt (cells:=zao) (sz:=14) (fun _=>rfl) (l.set k x) k r x y v (List.getElem?_set_self hk) hr h,List.set_set]
theorem put_done (l:List Pm) (k:Nat) (hk:k<l.length) (c:Ct):
  ((((((l.flatMap zao).set (k*14+8) (.bool true)).set (k*14+9) (.int .i64 c.view)).set (k*14+10) (.int .i64 c.inst)).set (k*14+11) (.int .i64 c.seq)).set (k*14+12) c.vb).set (k*14+13) c.vv=
   (l.set k {l[k] with done:=true,dw:=c}).flatMap zao:=by
 have e:l.flatMap zao=(l.set k l[k]).flatMap zao:=by rw [List.set_getElem_self]
 rw [e];generalize l[k]=p;obtain ⟨lc,sl,told,has,ct,done,⟨a,b,d,e,f,g,h⟩⟩:=p;obtain ⟨a',b',d',e',f',g',h'⟩:=c;rw [zco hk ⟨lc,sl,told,has,ct,done,⟨a,b,d,e,f,g,h⟩⟩ ⟨lc,sl,told,has,ct,true,⟨a,b,d,e,f,g,h⟩⟩ 8 (.bool true) (by omega) rfl,zco hk ⟨lc,sl,told,has,ct,true,⟨a,b,d,e,f,g,h⟩⟩ ⟨lc,sl,told,has,ct,true,⟨a',b,d,e,f,g,h⟩⟩ 9 (.int .i64 a') (by omega) rfl,zco hk ⟨lc,sl,told,has,ct,true,⟨a',b,d,e,f,g,h⟩⟩ ⟨lc,sl,told,has,ct,true,⟨a',b',d,e,f,g,h⟩⟩ 10 (.int .i64 b') (by omega) rfl,zco hk ⟨lc,sl,told,has,ct,true,⟨a',b',d,e,f,g,h⟩⟩ ⟨lc,sl,told,has,ct,true,⟨a',b',d',e,f,g,h⟩⟩ 11 (.int .i64 d') (by omega) rfl,zco hk ⟨lc,sl,told,has,ct,true,⟨a',b',d',e,f,g,h⟩⟩ ⟨lc,sl,told,has,ct,true,⟨a',b',d',e',f,g,h⟩⟩ 12 e' (by omega) rfl,zco hk ⟨lc,sl,told,has,ct,true,⟨a',b',d',e',f,g,h⟩⟩ ⟨lc,sl,told,has,ct,true,⟨a',b',d',e',f',g',h'⟩⟩ 13 f' (by omega) rfl]
theorem put_cert (l:List Pm) (k:Nat) (hk:k<l.length) (c:Ct):
  (((((((l.flatMap zao).set (k*14+1) (.bool true)).set (k*14+2) (.bool true)).set (k*14+3) (.int .i64 c.view)).set (k*14+4) (.int .i64 c.inst)).set (k*14+5) (.int .i64 c.seq)).set (k*14+6) c.vb).set (k*14+7) c.vv=
   (l.set k {l[k] with told:=true,has:=true,ct:=c}).flatMap zao:=by
 have e:l.flatMap zao=(l.set k l[k]).flatMap zao:=by rw [List.set_getElem_self]
 rw [e];generalize l[k]=p;obtain ⟨lc,sl,told,has,⟨a,b,d,e,f,g,h⟩,done,dw⟩:=p;obtain ⟨a',b',d',e',f',g',h'⟩:=c;rw [zco hk ⟨lc,sl,told,has,⟨a,b,d,e,f,g,h⟩,done,dw⟩ ⟨lc,sl,true,has,⟨a,b,d,e,f,g,h⟩,done,dw⟩ 1 (.bool true) (by omega) rfl,zco hk ⟨lc,sl,true,has,⟨a,b,d,e,f,g,h⟩,done,dw⟩ ⟨lc,sl,true,true,⟨a,b,d,e,f,g,h⟩,done,dw⟩ 2 (.bool true) (by omega) rfl,zco hk ⟨lc,sl,true,true,⟨a,b,d,e,f,g,h⟩,done,dw⟩ ⟨lc,sl,true,true,⟨a',b,d,e,f,g,h⟩,done,dw⟩ 3 (.int .i64 a') (by omega) rfl,zco hk ⟨lc,sl,true,true,⟨a',b,d,e,f,g,h⟩,done,dw⟩ ⟨lc,sl,true,true,⟨a',b',d,e,f,g,h⟩,done,dw⟩ 4 (.int .i64 b') (by omega) rfl,zco hk ⟨lc,sl,true,true,⟨a',b',d,e,f,g,h⟩,done,dw⟩ ⟨lc,sl,true,true,⟨a',b',d',e,f,g,h⟩,done,dw⟩ 5 (.int .i64 d') (by omega) rfl,zco hk ⟨lc,sl,true,true,⟨a',b',d',e,f,g,h⟩,done,dw⟩ ⟨lc,sl,true,true,⟨a',b',d',e',f,g,h⟩,done,dw⟩ 6 e' (by omega) rfl,zco hk ⟨lc,sl,true,true,⟨a',b',d',e',f,g,h⟩,done,dw⟩ ⟨lc,sl,true,true,⟨a',b',d',e',f',g',h'⟩,done,dw⟩ 7 f' (by omega) rfl]
theorem put_done' (l:List Pm) (k:Nat) (hk:k<l.length) (c:Ct):
  ((((((l.flatMap zao).set (k*14+8) (.bool true)).set (k*14+9) (.int .i64 c.view)).set (k*14+9+1) (.int .i64 c.inst)).set (k*14+9+2) (.int .i64 c.seq)).set (k*14+9+3) c.vb).set (k*14+9+4) c.vv=
   (l.set k {l[k] with done:=true,dw:=c}).flatMap zao:=put_done l k hk c
theorem put_cert' (l:List Pm) (k:Nat) (hk:k<l.length) (c:Ct):
  (((((((l.flatMap zao).set (k*14+1) (.bool true)).set (k*14+2) (.bool true)).set (k*14+3) (.int .i64 c.view)).set (k*14+3+1) (.int .i64 c.inst)).set (k*14+3+2) (.int .i64 c.seq)).set (k*14+3+3) c.vb).set (k*14+3+4) c.vv=
   (l.set k {l[k] with told:=true,has:=true,ct:=c}).flatMap zao:=put_cert l k hk c
section
variable {B:Nat} {w0 W W':World} {ss rs:List Res} {x:Ins} {v1 v2:Value} {l:List Rq} {vs:Vs}
theorem zs0 {k:Nat} {p:Pm} {c:Ct} (h:Own B w0 W (redR c.vv 2 c.vs.length (zan c.vs)::redR c.vb 6 c.rs.length (zaq c.rs)::([blk x.i x.o,segR x.b 241 ((x.l.set k p).flatMap zao),ze6 x]++(x.l.map pmR++ss))))
  (hk:k<x.l.length) (hl:p.lc=x.l[k].lc) (hs:p.sl=x.l[k].sl) (hn:c.rs.length≤100000) (hm:c.vs.length≤100000) (hc:(p.ct=c∧p.dw=x.l[k].dw)∨(p.ct=x.l[k].ct∧p.dw=c)):OwnI B w0 W (x.sl k p) ss:=by
 have hmap:(x.l.set k p).map pmR=x.l.map pmR:=by
  rw [List.map_set,show pmR p=pmR x.l[k] by simp [pmR,hl,hs]];conv=>lhs;arg 3;rw [←List.getElem_map (f:=pmR) (h:=by simpa using hk)]
  exact List.set_getElem_self _
 have h1:Own B w0 W (ze6 x::redR c.vv 2 c.vs.length (zan c.vs)::redR c.vb 6 c.rs.length (zaq c.rs)::blk x.i x.o::segR x.b 241 ((x.l.set k p).flatMap zao)::(x.l.map pmR++ss)):=h.perm (List.perm_middle (l₁:=[_,_,_,_]));have h2:=h1.alter (r':=ze6 (x.sl k p)) (by
  obtain ⟨D,⟨⟨q1,q2⟩,q3⟩,q4,q5⟩:=h1.head;obtain ⟨D1,⟨v1,v2⟩,v3,_⟩:=(h1.all (redR c.vv 2 c.vs.length (zan c.vs)) (List.mem_cons_of_mem _ List.mem_cons_self)).1;obtain ⟨D2,⟨b1,b2⟩,b3,_⟩:=(h1.all (redR c.vb 6 c.rs.length (zaq c.rs)) (List.mem_cons_of_mem _ (List.mem_cons_of_mem _ List.mem_cons_self))).1;have hnew:CtIn W c (D++(D1++D2)):=⟨b1.mono (by simp+contextual),hn,v1.mono (by simp+contextual),hm⟩;have hold: ∀p'∈x.l,CtIn W p'.ct (D++(D1++D2))∧CtIn W p'.dw (D++(D1++D2)):=fun p' hp'=>⟨(q2 p' hp').1.mono (by simp+contextual),(q2 p' hp').2.mono (by simp+contextual)⟩;refine ⟨D++(D1++D2),⟨⟨⟨by simpa using q1.n,q1.f1,q1.f2,fun p' hp'=> ?_,q1.c1,q1.a1,q1.a2,q1.vw⟩,fun p' hp'=> ?_⟩,fun k hk=> ?_⟩,fun k hk=> ?_,q5⟩
  ·rcases List.mem_or_eq_of_mem_set hp' with hp' | rfl
   ·exact q1.lf p' hp'
   ·rw [hl];exact q1.lf _ (by simp)
  ·rcases List.mem_or_eq_of_mem_set hp' with hp' | rfl
   ·exact hold p' hp'
   ·rcases hc with ⟨e1,e2⟩ | ⟨e1,e2⟩
    ·rw [e1,e2];exact ⟨hnew,(hold _ (by simp)).2⟩
    ·rw [e1,e2];exact ⟨(hold _ (by simp)).1,hnew⟩
  ·rcases List.mem_append.1 hk with hk | hk
   ·exact q3 k hk
   ·rcases List.mem_append.1 hk with hk | hk
    ·exact v2 k hk
    ·exact b2 k hk
  ·rcases List.mem_append.1 hk with hk | hk
   ·exact q4 k hk
   ·rcases List.mem_append.1 hk with hk | hk
    ·exact v3 k hk
    ·exact b3 k hk) (by simp [ze6,imm])
 have h3:Own B w0 W (blk x.i x.o::segR x.b 241 ((x.l.set k p).flatMap zao)::ze6 (x.sl k p)::(x.l.map pmR++ss)):=(h2.perm (List.perm_middle (l₁:=[_,_,_,_])).symm).drop.drop;show Own B w0 W (insHd (x.sl k p)++((x.l.set k p).map pmR++ss));rw [hmap];exact h3
theorem oi_dw (h:Own B w0 W (redR v2 2 vs.length (zan vs)::redR v1 6 l.length (zaq l)::(insHd x++(x.l.map pmR++ss)))) (k:Nat) (hk:k<x.l.length) (view inst seq:Int) (hn:l.length≤100000) (hm:vs.length≤100000):
  OwnI B w0 ((((((W.setCell ⟨x.b,k*14+8,none⟩ (.bool true)).setCell ⟨x.b,k*14+9,none⟩ (.int .i64 view)).setCell ⟨x.b,k*14+9+1,none⟩ (.int .i64 inst)).setCell ⟨x.b,k*14+9+2,none⟩ (.int .i64 seq)).setCell ⟨x.b,k*14+9+3,none⟩ v1).setCell ⟨x.b,k*14+9+4,none⟩ v2)
   (x.sl k {x.l[k] with done:=true,dw:=⟨view,inst,seq,v1,v2,l,vs⟩}) ss:=by
 have h1:=(((((((h.perm (List.perm_middle (l₁:=[_,_,_]))).put (k*14+8) (.bool true)).put (k*14+9) (.int .i64 view)).put (k*14+9+1) (.int .i64 inst)).put (k*14+9+2) (.int .i64 seq)).put (k*14+9+3) v1).put (k*14+9+4) v2);rw [put_done' x.l k hk ⟨view,inst,seq,v1,v2,l,vs⟩] at h1;exact zs0 (c:=⟨view,inst,seq,v1,v2,l,vs⟩) (h1.perm (List.perm_middle (l₁:=[_,_,_])).symm) hk rfl rfl hn hm (.inr ⟨rfl,rfl⟩)
theorem oi_ct (h:Own B w0 W (redR v2 2 vs.length (zan vs)::redR v1 6 l.length (zaq l)::(insHd x++(x.l.map pmR++ss)))) (k:Nat) (hk:k<x.l.length) (view inst seq:Int) (hn:l.length≤100000) (hm:vs.length≤100000):
  OwnI B w0 (((((((W.setCell ⟨x.b,k*14+1,none⟩ (.bool true)).setCell ⟨x.b,k*14+2,none⟩ (.bool true)).setCell ⟨x.b,k*14+3,none⟩ (.int .i64 view)).setCell ⟨x.b,k*14+3+1,none⟩ (.int .i64 inst)).setCell ⟨x.b,k*14+3+2,none⟩ (.int .i64 seq)).setCell ⟨x.b,k*14+3+3,none⟩ v1).setCell ⟨x.b,k*14+3+4,none⟩ v2)
   (x.sl k {x.l[k] with told:=true,has:=true,ct:=⟨view,inst,seq,v1,v2,l,vs⟩}) ss:=by
 have h1:=((((((((h.perm (List.perm_middle (l₁:=[_,_,_]))).put (k*14+1) (.bool true)).put (k*14+2) (.bool true)).put (k*14+3) (.int .i64 view)).put (k*14+3+1) (.int .i64 inst)).put (k*14+3+2) (.int .i64 seq)).put (k*14+3+3) v1).put (k*14+3+4) v2);rw [put_cert' x.l k hk ⟨view,inst,seq,v1,v2,l,vs⟩] at h1;exact zs0 (c:=⟨view,inst,seq,v1,v2,l,vs⟩) (h1.perm (List.perm_middle (l₁:=[_,_,_])).symm) hk rfl rfl hn hm (.inl ⟨rfl,rfl⟩)
def CertP (B:Nat) (w0 W:World) (i:Nat) (r:Option Cp) (st:In) (ss:List Res) (e:Ending) (w':World):Prop:=
 ∃c:Ct,e= .returned (.tuple #[ctAgg c,.bool r.isSome])∧c.cp=r.getD noCp∧(c.rs.length≤100000∧c.vs.length≤100000)∧Bat w' c.vb c.rs∧Vts w' c.vv c.vs∧(∀k∈blkOf c.vb,W.heap.size≤k)∧(∀k∈blkOf c.vv,W.heap.size≤k)∧
  ∃x':Ins,x'.i=i∧x'.st=st∧Own B w0 w' (redR c.vv 2 c.vs.length (zan c.vs)::redR c.vb 6 c.rs.length (zaq c.rs)::instR x'::ss)
def noCt:Ct:=⟨0,0,0,.slice none 0 0,.slice none 0 0,[],[]⟩
theorem zca {st:In} {r:Option Cp} (h:Own B w0 W' (instR x::ss)) (hr:r=none) (hst:st=x.st):CertP B w0 W x.i r st ss (.returned (.tuple #[ctAgg noCt,.bool false])) W':=by
 subst hr;exact ⟨noCt,rfl,rfl,by simp [noCt],Reads.nil _ _,Reads.nil _ _,by simp [noCt,blkOf],by simp [noCt,blkOf],x,rfl,hst.symm,(h.red (Reads.nil _ _) (by simp [blkIf])).red (Reads.nil _ _) (by simp [blkIf,noCt])⟩
end
section
variable {B:Nat} {w0 W W':World} {ss rs:List Res} {x:Ins}
abbrev zct:Obj:=ctO 0 0 0 (.slice none 0 0) (.slice none 0 0)
theorem zhh {v u:Value} {l:List Rq} {vs:Vs} (h:Own B w0 W rs) (hu:Upd [] W W') (hb:Bat W' v l) (hv:Vts W' u vs) (n1: ∀k∈blkOf v,W.heap.size≤k) (n2: ∀k∈blkOf u,W.heap.size≤k):
  Own B w0 W' (redR u 2 vs.length (zan vs)::redR v 6 l.length (zaq l)::rs):=by
 have h1:=(h.upd0 hu).red hb (fun k hk=>h.fresh (n1 k (zd4 hk)));refine h1.red hv (fun k hk hn=> ?_);rcases (zc3 _ _ _).1 hn with hn | hn
 ·simp [redR,imm] at hn
 ·exact h.fresh (n2 k (zd4 hk)) hn
theorem zhc (h:OwnI B w0 W x ss) (k:Nat) (hk:k<x.l.length):(Bat W x.l[k].ct.vb x.l[k].ct.rs∧Vts W x.l[k].ct.vv x.l[k].ct.vs∧x.l[k].ct.rs.length≤100000∧x.l[k].ct.vs.length≤100000)∧
  Bat W x.l[k].dw.vb x.l[k].dw.rs∧Vts W x.l[k].dw.vv x.l[k].dw.vs∧x.l[k].dw.rs.length≤100000∧x.l[k].dw.vs.length≤100000:=by
 obtain ⟨D,⟨⟨_,h2⟩,_⟩,_,_⟩:=(h.all (ze6 x) (by simp [insHd])).1;obtain ⟨q1,q2⟩:=h2 x.l[k] (by simp);exact ⟨⟨q1.b.1,q1.v.1,q1.bn,q1.vn⟩,q2.b.1,q2.v.1,q2.bn,q2.vn⟩
theorem zrf {all:List Vt} {q n:Nat}: ∀l:List Vt,(∀t∈l,t.batch.length≤n)→(zd7 (za3 all q l)).length≤n
 | [],_=>by simp [za3,zd7]
 | t::r,h=>by
  have ih:=zrf (all:=all) (q:=q) r (fun t ht=>h t (List.mem_cons_of_mem _ ht));unfold za3;cases t.has
  ·exact ih
  ·cases zb5 all t.batch q with
   | none=>exact ih
   | some vs=>exact h t (by simp)
theorem zrp {all:List Vt} {b:List Rq} {q:Nat} {vs:Vs} (h:zb5 all b q=some vs):vs.length≤q:=by
 unfold zb5 at h;split at h
 ·cases h
 ·simp only [Option.some.injEq] at h
  subst h;rw [List.length_take];omega
theorem zrg {all:List Vt} {q:Nat}: ∀l:List Vt,(zen (za3 all q l)).length≤q
 | []=>by simp [za3,zen]
 | t::r=>by
  have ih:=zrg (all:=all) (q:=q) r;unfold za3;cases t.has
  ·exact ih
  ·cases he:zb5 all t.batch q with
   | none=>exact ih
   | some vs=>exact zrp he
theorem zzz {st:Sl} {f:Nat} (h: ∀t∈st.cs,t.batch.length≤100000) (hf:f≤4):(zd7 (zaw f st)).length≤100000∧(zen (zaw f st)).length≤100000:=
 ⟨zrf _ h,by have:=zrg (all:=st.cs) (q:=2*f+1) st.cs;unfold zaw;omega⟩
theorem zkz {b:Nat} {a1 a2 a3:Int} {a4 a5:Value} (h:Own B w0 W (blk b (ctO a1 a2 a3 a4 a5)::rs)) (view inst seq:Int) (vb vv:Value):
  Own B w0 (((((W.setCell ⟨b,0,none⟩ (.int .i64 view)).setCell ⟨b,1,none⟩ (.int .i64 inst)).setCell ⟨b,2,none⟩ (.int .i64 seq)).setCell ⟨b,3,none⟩ vb).setCell ⟨b,4,none⟩ vv) (blk b (ctO view inst seq vb vv)::rs):=
 ((((h.store 0 (.int .i64 view)).store 1 (.int .i64 inst)).store 2 (.int .i64 seq)).store 3 vb).store 4 vv
theorem zui (w:World) (b:Nat) (view inst seq:Int) (vb vv:Value):Upd [b] w (((((w.setCell ⟨b,0,none⟩ (.int .i64 view)).setCell ⟨b,1,none⟩ (.int .i64 inst)).setCell ⟨b,2,none⟩ (.int .i64 seq)).setCell ⟨b,3,none⟩ vb).setCell ⟨b,4,none⟩ vv):=
 (((((Upd.refl _ _).setCell (.inl (by simp)) _).setCell (.inl (by simp)) _).setCell (.inl (by simp)) _).setCell (.inl (by simp)) _).setCell (.inl (by simp)) _
theorem zmc {seq:Int} {st:In} (h:commI st seq=none):zbg st seq=st:=by
 unfold zbg;rw [h];cases idx seq<;>rfl
theorem zpt (h:Own B w0 W (instR x::ss)) {i:Nat} (hi:x.i=i) (seq:Int):Calls Tryz.prog 256 #[.pointer (some ⟨i,0,none⟩),.int .i64 seq] W (CertP B w0 W i (commI x.st seq) (zbg x.st seq) ss):=by
 subst hi;have hz:=zdh (h.box zct).swap;obtain ⟨-,-,-,-,-,c5,l1,l2⟩:=zc1 hz;cases hk:idx seq with
 | none=>
  have hs:=zfq hk;have HE:=zq (show commI x.st seq=none by simp [commI,zer hk]);have HA:=zq (at_no x.i x.b x.cap seq _ hs c5);have H:=zq h;clear hz h hk hs c5;go_enter Tryz.func256,Tryz.ntmps256
  go_wp2_with fail
  refine HA.out.mono ?_;rintro e w' ⟨rfl,rfl⟩
  go_wp2_with fail
  exact bodyPost_ret (v:= .tuple #[ctAgg noCt,.bool false]) (by simp [results,Tryz.results256,go_sem,noCt]) rfl (zca (H.out.upd0 ((Upd.refl _ _).alloc _)) HE.out (zmc HE.out))
 | some k=>
  obtain ⟨hl,hp⟩:=zes (oi_ok hz) hk;obtain ⟨i1,i2⟩:=zkm hk;have HA:=zq (zpe x.i x.b x.cap seq _ (by omega) (by omega) c5);have hks:seq.toNat-1=k:=by omega
  rw [hks] at HA;have cp:=zmw hz k hl;have cd:=zsz hz k hl;have HLF:=zq ((oi_ok hz).lf _ (List.getElem_mem hl));cases hd:x.l[k].done
  ·rw [hd] at cd
   have HC:=zq (zky (zef hz k hl));have HSM:=zq (zzz (zji (zef hz k hl)).2.2.1 (oi_ok hz).f2);have HCI:=zq (show commI x.st seq=(zaw x.f x.l[k].sl).map fun r=>⟨x.view,x.num,seq,r.1,r.2⟩ by simp only [commI,hp];simp [Pm.pl,Ins.st,hd]);have HZ:=zq hz;have H:=zq h;have HK:=zq hk;clear hz h hk hp i2 hks hd;go_enter Tryz.func256,Tryz.ntmps256
   go_wp2_with fail
   refine HA.out.mono ?_;rintro e w' ⟨rfl,rfl⟩
   go_wp2_with fail
   refine HC.out.mono ?_;rintro e w2 ⟨v,u,rfl,hu,hb,hv,n1,n2⟩;rw [HLF.out] at hb hv⊢;obtain ⟨ao,cap,rfl⟩:=zb9 hb;obtain ⟨co,cav,rfl⟩:=zds hv;have H2:=zq (zhh HZ.out hu hb hv n1 n2);clear hu hb hv n1 n2 cp cd c5 HC HA;obtain ⟨hnb,hnv⟩:=HSM.out;cases hcm:zaw x.f x.l[k].sl with
   | none=>
    rw [hcm] at HCI;have H3:=zq (zcm H2.out.drop.drop);have fz:=fun o=>zac H3.out.drop.blk_out o;have hbx:=H3.out.drop.blk_out;have HBX:=zq hbx;obtain ⟨f0,f1,f2,f3,f4,fl,-⟩:=zbr hbx;have fz0:=fz 0;have fz1:=fz 1;have fz2:=fz 2;have fz3:=fz 3;have fz4:=fz 4;clear hbx fz hcm
    go_wp2_with fail
    have H4:=zq (zkz H3.out.swap 0 0 0 (.slice none 0 0) (.slice none 0 0));generalize ((((w2.setCell ⟨W.heap.size,0,none⟩ (.int .i64 0)).setCell ⟨W.heap.size,1,none⟩ (.int .i64 0)).setCell ⟨W.heap.size,2,none⟩ (.int .i64 0)).setCell ⟨W.heap.size,3,none⟩ (.slice none 0 0)).setCell ⟨W.heap.size,4,none⟩ (.slice none 0 0)=w4 at*;clear f0 f1 f2 f3 f4 fl fz0 fz1 fz2 fz3 fz4 HBX;obtain ⟨f0,f1,f2,f3,f4,fl,-⟩:=zbr H4.out.blk_out;exact bodyPost_ret (v:= .tuple #[ctAgg noCt,.bool false]) (by simp [results,Tryz.results256,go_sem,noCt,f0,f1,f2,f3,f4]) rfl (zca H4.out.drop HCI.out (zmc HCI.out))
   | some r=>
    rw [hcm] at HCI H2 hnb hnv;have hb2:=zwh H2.out.drop.drop;have HB2:=zq hb2;clear hb2 hcm
    go_wp2_with fail
    refine (zq7 x.i x.f x.num x.ahead x.view x.on _ seq ao _ cap co _ cav _ HB2.out).mono ?_;rintro e w3 ⟨rfl,hu3⟩;have H3:=zq (H2.out.upd0 hu3);clear hu3 H2 HB2;have ho3:=H3.out.drop.drop;have c8:=oi_at ho3 k hl 8 (by omega);have c9:=oi_at ho3 k hl 9 (by omega);have c10:=oi_at ho3 k hl 10 (by omega);have c11:=oi_at ho3 k hl 11 (by omega);have c12:=oi_at ho3 k hl 12 (by omega);have c13:=oi_at ho3 k hl 13 (by omega);obtain ⟨fzb,-⟩:=oi_fz ho3;have z8:=fzb (k*14+8);have z9:=fzb (k*14+9);have z10:=fzb (k*14+10);have z11:=fzb (k*14+11);have z12:=fzb (k*14+12);have z13:=fzb (k*14+13);clear ho3 fzb;simp only [zao,List.getElem?_cons_succ,List.getElem?_cons_zero] at c8 c9 c10 c11 c12 c13
    go_wp2_with fail
    have H4:=zq (oi_dw H3.out k hl x.view x.num seq hnb hnv);have r1:=(zfu (H3.out.drop.head));have r2:=(zfu H3.out.head);have H4S:=zq (show W.heap.size<w3.heap.size from block_lt (zcm H3.out.drop.drop).drop.blk_out);generalize (((((w3.setCell ⟨x.b,k*14+8,none⟩ (.bool true)).setCell ⟨x.b,k*14+9,none⟩ (.int .i64 x.view)).setCell ⟨x.b,k*14+9+1,none⟩ (.int .i64 x.num)).setCell ⟨x.b,k*14+9+2,none⟩ (.int .i64 seq)).setCell ⟨x.b,k*14+9+3,none⟩ (.slice ao (zd7 (some r)).length cap)).setCell ⟨x.b,k*14+9+4,none⟩ (.slice co (zen (some r)).length cav)=w4 at*;clear c8 c9 c10 c11 c12 c13 z8 z9 z10 z11 z12 z13 H3 r1 r2;have hq:=(zhc H4.out k (by simpa using hl)).2;simp only [List.getElem_set_self] at hq;obtain ⟨q1,q2,q3,q4⟩:=hq;have HF:=zq (zmh ⟨x.view,x.num,seq,.slice ao (zd7 (some r)).length cap,.slice co (zen (some r)).length cav,zd7 (some r),zen (some r)⟩ w4 q1 q3 q2 q4);clear q1 q2 q3 q4;have H4L:=zq (show W.heap.size<w4.heap.size from block_lt (zcm H4.out).drop.blk_out);refine HF.out.mono ?_;rintro e w5 ⟨⟨view',inst',seq',vb',vv',rs',vs'⟩,rfl,hcp,hu5,hb5,hv5,nb,nv⟩;simp only at hb5 hv5 nb nv;obtain ⟨ao6,cap6,rfl⟩:=zb9 hb5;obtain ⟨co6,cav6,rfl⟩:=zds hv5;have H5:=zq ((zhh (zcm H4.out).swap hu5 hb5 hv5 nb nv).rot);have HCP:=zq hcp;have HB5:=zq hb5;have HV5:=zq hv5;have NB:=zq nb;have NV:=zq nv;clear hcp hu5 hb5 hv5 nb nv H4 HF;obtain ⟨f0,f1,f2,f3,f4,fl,fz⟩:=zbr H5.out.blk_out;have fz0:=fz 0;have fz1:=fz 1;have fz2:=fz 2;have fz3:=fz 3;have fz4:=fz 4;clear fz
    go_wp2_with fail
    have H6:=zq (zkz H5.out view' inst' seq' (.slice ao6 rs'.length cap6) (.slice co6 vs'.length cav6));have HU6:=zq (zui w5 W.heap.size view' inst' seq' (.slice ao6 rs'.length cap6) (.slice co6 vs'.length cav6));generalize ((((w5.setCell ⟨W.heap.size,0,none⟩ (.int .i64 view')).setCell ⟨W.heap.size,1,none⟩ (.int .i64 inst')).setCell ⟨W.heap.size,2,none⟩ (.int .i64 seq')).setCell ⟨W.heap.size,3,none⟩ (.slice ao6 rs'.length cap6)).setCell ⟨W.heap.size,4,none⟩ (.slice co6 vs'.length cav6)=w6 at*;clear f0 f1 f2 f3 f4 fl fz0 fz1 fz2 fz3 fz4 H5;obtain ⟨f0,f1,f2,f3,f4,fl,-⟩:=zbr H6.out.blk_out;refine bodyPost_ret (v:= .tuple #[ctAgg ⟨view',inst',seq',.slice ao6 rs'.length cap6,.slice co6 vs'.length cav6,rs',vs'⟩,.bool true]) (by simp [results,Tryz.results256,go_sem,f0,f1,f2,f3,f4]) rfl ?_;have hcp:=HCP.out;simp only [Ct.cp,Cp.mk.injEq] at hcp;obtain ⟨e1,e2,e3,e4,e5⟩:=hcp;have hnew: ∀(v:Value),(∀k∈blkOf v,w4.heap.size≤k)→(∀k∈blkOf v,W.heap.size≤k)∧ ∀k∈blkOf v,k∉[W.heap.size]:=fun v hv=>⟨fun k hk=>by have:=hv k hk;have:=H4L.out;omega,fun k hk hn=>by have:=hv k hk;have:=H4L.out;simp at hn;omega⟩;refine ⟨⟨view',inst',seq',.slice ao6 rs'.length cap6,.slice co6 vs'.length cav6,rs',vs'⟩,?_,?_,⟨by simp only [e4];exact hnb,by simp only [e5];exact hnv⟩,HB5.out.upd HU6.out (hnew _ NB.out).2,Reads.upd HV5.out HU6.out (hnew _ NV.out).2,(hnew _ NB.out).1,(hnew _ NV.out).1,
     x.sl k {x.l[k] with done:=true,dw:=⟨x.view,x.num,seq,.slice ao (zd7 (some r)).length cap,.slice co (zen (some r)).length cav,zd7 (some r),zen (some r)⟩},rfl,?_,H6.out.drop⟩
    ·rw [HCI.out];rfl
    ·rw [HCI.out]
     simp only [Ct.cp,Option.map_some,Option.getD_some,Cp.mk.injEq];exact ⟨e1,e2,e3,e4,e5⟩
    ·rw [show zbg x.st seq=x.st.upd k fun p=> {p with done:=true,dw:=⟨x.view,x.num,seq,r.1,r.2⟩} by simp [zbg,HK.out,HCI.out]]
     exact zt5 x k hl _ _ rfl
  ·rw [hd] at cd
   have HE:=zq (show commI x.st seq=none by simp only [commI,hp];simp [Pm.pl,hd]);have H:=zq h;clear hz h hk hp i2 hks hd c5 cp;go_enter Tryz.func256,Tryz.ntmps256
   go_wp2_with fail
   refine HA.out.mono ?_;rintro e w' ⟨rfl,rfl⟩
   go_wp2_with fail
   exact bodyPost_ret (v:= .tuple #[ctAgg noCt,.bool false]) (by simp [results,Tryz.results256,go_sem,noCt]) rfl (zca (H.out.upd0 ((Upd.refl _ _).alloc _)) HE.out (zmc HE.out))
end
theorem Tryz.infoPl:(Tryz.prog.info? 241).map (fun i=>(i.zero,i.size,i.bytes))=some (some (.agg #[.pointer none,.bool false,.bool false,.int .i64 0,.int .i64 0,.int .i64 0,.slice none 0 0,.slice none 0 0,.bool false,.int .i64 0,.int .i64 0,.int .i64 0,.slice none 0 0,.slice none 0 0]),14,168):=by kernel_rfl
section
variable {B:Nat} {w0 W W':World} {ss rs:List Res} {x:Ins}
def newPm (L:Loc) (f:Nat):Pm:=⟨L,zcb f,false,false,noCt,false,noCt⟩
theorem zwc (L:Loc) (f:Nat): ∀u∈zao (newPm L f),u.oneCell'=true:=by
 intro u hu;simp only [zao,newPm,noCt,List.mem_cons,List.not_mem_nil,or_false] at hu;rcases hu with rfl | rfl | rfl | rfl | rfl | rfl | rfl | rfl | rfl | rfl | rfl | rfl | rfl | rfl<;>rfl
def NewP (B:Nat) (w0:World) (st:In) (ss:List Res) (e:Ending) (w':World):Prop:= ∃x:Ins,e= .returned (.tuple #[x.ptr,.int .i64 0])∧x.st=st∧Own B w0 w' (instR x::ss)
def MkI (B:Nat) (w0 w:World) (i f:Nat) (num ahead:Int) (k:Nat) (ss:List Res):Prop:=
 ∃(ls:List Loc) (ao:Option Addr) (cp:Nat),ls.length=k∧(∀L∈ls,L.f=f)∧
  Own B w0 w (ownR 241 14 (.slice ao k cp) k ((ls.map fun L=>newPm L f).flatMap zao)::blk i (insO f num ahead 0 true (.slice ao k cp))::((ls.map fun L=>newPm L f).map pmR++ss))
theorem mk_more {i f:Nat} {num ahead:Int} {k g cap2:Nat} {ls:List Loc} {L:Loc} {ao:Option Addr} {cp:Nat} (hl:ls.length=k) (hlf: ∀L∈ls,L.f=f) (hf:L.f=f)
  (h:Own B w0 W (blk i (setIn 5 (.slice (some ⟨g,0,none⟩) (k+1) cap2) (insO f num ahead 0 true (.slice ao k cp)))::ownR 241 14 (.slice (some ⟨g,0,none⟩) (k+1) cap2) (k+1) ((ls.map fun L=>newPm L f).flatMap zao++zao (newPm L f))::slotR L (zcb f)::((ls.map fun L=>newPm L f).map pmR++ss))):MkI B w0 W i f num ahead (k+1) ss:=by
 refine ⟨ls++[L],some ⟨g,0,none⟩,cap2,by simp [hl],fun L' hL'=> ?_,?_⟩
 ·rcases List.mem_append.1 hL' with h | h
  ·exact hlf L' h
  ·simp at h;subst h;exact hf
 ·have h2:=h.rot
  have h3:Own B w0 W (slotR L (zcb f)::([ownR 241 14 (.slice (some ⟨g,0,none⟩) (k+1) cap2) (k+1) ((ls.map fun L=>newPm L f).flatMap zao++zao (newPm L f)),blk i (insO f num ahead 0 true (.slice (some ⟨g,0,none⟩) (k+1) cap2))]++((ls.map fun L=>newPm L f).map pmR++ss))):=h2.perm (List.Perm.cons _ (List.Perm.swap _ _ _));have h4:=Own.perm (ss:=([ownR 241 14 (.slice (some ⟨g,0,none⟩) (k+1) cap2) (k+1) ((ls.map fun L=>newPm L f).flatMap zao++zao (newPm L f)),blk i (insO f num ahead 0 true (.slice (some ⟨g,0,none⟩) (k+1) cap2))]++(ls.map fun L=>newPm L f).map pmR)++slotR L (zcb f)::ss) h3 (by
   rw [←List.append_assoc];exact List.perm_middle.symm)
  simp only [List.map_append,List.flatMap_append,List.map_cons,List.map_nil,List.flatMap_cons,List.flatMap_nil,List.append_nil,List.append_assoc,List.cons_append,List.nil_append] at h4⊢;exact h4
theorem mk_done {i f:Nat} {num ahead:Int} {ls:List Loc} {ao:Option Addr} {cp:Nat} (hf1:1≤f) (hf2:f≤4) (ha1:1≤ahead) (ha2:ahead≤16) (hl:ls.length=16) (hlf: ∀L∈ls,L.f=f)
  (h:Own B w0 W (ownR 241 14 (.slice ao 16 cp) 16 ((ls.map fun L=>newPm L f).flatMap zao)::blk i (insO f num ahead 0 true (.slice ao 16 cp))::((ls.map fun L=>newPm L f).map pmR++ss))): ∃x:Ins,x.i=i∧x.st=newI f num ahead∧Own B w0 W (instR x::ss):=by
 have hown:=zal h.head;rcases hown.2 with ⟨h1,h2⟩ | ⟨g,cap,cur,h1,hb,hg,q1,q2,q3,q4⟩
 ·omega
 ·simp only [Value.slice.injEq] at h1
  obtain ⟨rfl,-,rfl⟩:=h1;have h2:=h.alter (r':=segR g 241 ((ls.map fun L=>newPm L f).flatMap zao)) (zjh h.head) (fun k hk=>by simp [ownR,blkOf,segR] at hk⊢;exact hk);refine ⟨⟨i,g,cp,f,num,ahead,0,true,ls.map fun L=>newPm L f⟩,rfl,?_,zcm ?_⟩
  ·simp only [Ins.st,newI,In.mk.injEq,true_and,List.map_map]
   apply List.ext_getElem?;intro j;rw [List.getElem?_map,List.getElem?_replicate];by_cases hj:j<16
   ·rw [if_pos hj,List.getElem?_eq_getElem (by omega)];rfl
   ·rw [if_neg hj,List.getElem?_eq_none (by omega)];rfl
  ·have h3:Own B w0 W (ze6 ⟨i,g,cp,f,num,ahead,0,true,ls.map fun L=>newPm L f⟩::segR g 241 ((ls.map fun L=>newPm L f).flatMap zao)::blk i (insO f num ahead 0 true (.slice (some ⟨g,0,none⟩) 16 cp))::((ls.map fun L=>newPm L f).map pmR++ss)):=h2.new (Upd.refl [] _) ⟨[],⟨⟨⟨by simp [hl],hf1,hf2,fun p hp=> ?_,q1,ha1,ha2,by simp⟩,fun p hp=> ?_⟩,by simp⟩,by simp,fun k hk=>h2.lt k hk⟩ (by simp [ze6,imm])
   ·exact h3.swap.rot
   ·simp only [List.mem_map] at hp
    obtain ⟨L,hL,rfl⟩:=hp;exact hlf L hL
   ·simp only [List.mem_map] at hp
    obtain ⟨L,hL,rfl⟩:=hp;exact ⟨⟨za0.nil _ _ _,by simp [newPm,noCt],za0.nil _ _ _,by simp [newPm,noCt]⟩,⟨za0.nil _ _ _,by simp [newPm,noCt],za0.nil _ _ _,by simp [newPm,noCt]⟩⟩
theorem zym (f:Nat) (num ahead:Int) (hf1:1≤f) (hf2:f≤4) (hn1:0≤num) (hn2:num≤f) (ha1:1≤ahead) (ha2:ahead≤16) (h:Own B w0 W ss):
  Calls Tryz.prog 82 #[.int .i64 f,.int .i64 num,.int .i64 ahead] W (NewP B w0 (newI f num ahead) ss):=by
 obtain ⟨i0,hi,hz0,hz1,hz2⟩:=info_parts Tryz.infoPl;have hb1:decide ((f:Int)<1)=false:=by simp;omega
 have hb2:decide (4<(f:Int))=false:=by simp;omega
 have hb3:decide (num<0)=false:=by simp;omega
 have hb4:decide ((f:Int)<num)=false:=by simp;omega
 have hb5:decide (ahead<1)=false:=by simp;omega
 have hb6:decide (16<ahead)=false:=by simp;omega
 have h0:MkI B w0 (W.alloc (insO f num ahead 0 true (.slice none 0 0))) W.heap.size f num ahead 0 ss:=⟨[],none,0,rfl,by simp,(h.box (insO f num ahead 0 true (.slice none 0 0))).row0⟩;have H0:=zq h0;clear h0 h;go_enter Tryz.func82,Tryz.ntmps82
 go_wp2_with fail
 go_loopw [39] (fun i wr=> ∃k:Nat,k≤16∧i= .int .i64 k∧Hid (MkI B w0 wr W.heap.size f num ahead k ss)) (fun i _=>16-(intOf i).toNat)
 case atStart=>exact ⟨0,by omega,rfl,H0⟩
 case round=>
  clear H0;obtain ⟨k,hk,rfl,HM⟩:=hrel;by_cases hlt:k<16
  ·have hkI:(k:Int)<16:=by omega
   obtain ⟨ls,ao,cp,hl,hlf,hown⟩:=HM.out;have HL:=zq hl;have HLF:=zq hlf;have HC:=zq (own_new f hf1 hf2 hown);clear hl hlf hown
   go_wp2_with fail
   refine HC.out.mono ?_;rintro e w2 ⟨L,rfl,hLf,-,h2⟩;have H2:=zq h2;have HF:=zq hLf;clear h2 hLf HC;have hbl:=H2.out.drop.drop.blk_out;have c5:w2.cell? ⟨W.heap.size,5,none⟩=some (.slice ao k cp):=by rw [zab hbl];rfl
   clear hbl;have HO:=zq (zal (H2.out.alloc (.cells (zao (newPm L f)).toArray 241)).drop.head)
   go_wp2_with (at_builtin;refine wpList_append_lies _ rfl (.tmp 50) (.tmp 53) 212 rfl 0 241 i0 (.agg #[.pointer none,.bool false,.bool false,.int .i64 0,.int .i64 0,.int .i64 0,.slice none 0 0,.slice none 0 0,.bool false,.int .i64 0,.int .i64 0,.int .i64 0,.slice none 0 0,.slice none 0 0]) 14 168 Tryz.underlying212 hi hz0 hz1 hz2 rfl (by decide) _ k _ rfl HO.out ⟨w2.heap.size,0,none⟩ 1 1 (zao (newPm L f)) rfl rfl ?c1 ?c2 (by decide) ?c3 ?c4 (Nat.zero_le _) _ rfl ?c6)
   case c1=>exact World.news_of_block (heap_alloc_new w2 _)
   case c2=>exact zwc L f
   case c3=>unfold maxLen;omega
   case c4=>omega
   case c6=>
    intro g cap2 w3 hown hgrow hat hlt;have h3:=((H2.out.alloc (.cells (zao (newPm L f)).toArray 241)).swap.grow hgrow (by rw [zbn];exact hat) hown);have H3:=zq h3;clear hown hgrow hat hlt h3 HO c5;have hbl:=H3.out.drop.drop.blk_out;have c5:w3.cell? ⟨W.heap.size,5,none⟩=some (.slice ao k cp):=by rw [zab hbl];rfl
    have fz:=zac hbl 5;clear hbl
    go_wp2_with fail
    have H4:=zq ((H3.out.rot.store 5 (.slice (some ⟨g,0,none⟩) (k+1) cap2)))
    go_roundw
    case rel=>exact ⟨k+1,by omega,by go_num,zq (mk_more HL.out HLF.out HF.out H4.out)⟩
    case measure=>simp [intOf];omega
  ·have hk16:k=16:=by omega
   subst hk16;obtain ⟨ls,ao,cp,hl,hlf,hown⟩:=HM.out;have HX:=zq (mk_done hf1 hf2 ha1 ha2 hl hlf hown);clear hl hlf hown
   go_wp2_with fail
   go_ret2
   obtain ⟨x,h1,h2,h3⟩:=HX.out;exact ⟨x,by simp [Ins.ptr,h1],h2,h3⟩
end
def AtI (B:Nat) (w0 w:World) (i:Nat) (st:In) (ss:List Res):Prop:= ∃x:Ins,x.i=i∧x.st=st∧Own B w0 w (instR x::ss)
section
variable {B:Nat} {w0 W W':World} {ss rs:List Res} {x:Ins} {i:Nat} {st:In}
theorem AtI.upd0 (h:AtI B w0 W i st ss) (hu:Upd [] W W'):AtI B w0 W' i st ss:=let ⟨x,h1,h2,h3⟩:=h;⟨x,h1,h2,h3.upd0 hu⟩
theorem AtI.alloc (h:AtI B w0 W i st ss) (o:Obj):AtI B w0 (W.alloc o) i st ss:=h.upd0 ((Upd.refl _ _).alloc o)
theorem AtI.drew (h:AtI B w0 W i st ss):AtI B w0 W.drew i st ss:=h.upd0 (Upd.refl _ _).drew
theorem AtI.below (h:AtI B w0 W i st ss):Below B w0 W:=let ⟨_,_,_,h3⟩:=h;h3.below
theorem AtI.ss_own (h:AtI B w0 W i st ss):Own B w0 W ss:=let ⟨_,_,_,h3⟩:=h;h3.drop
theorem ai_vote (h:AtI B w0 W i st ss) (kind seq node sl:Int) (v:Value) (l:List Rq) (hb:Bat W v l) (hn:l.length≤100000):
  Calls Tryz.prog 236 #[.pointer (some ⟨i,0,none⟩),.int .i64 kind,.int .i64 seq,.int .i64 node,.int .i64 sl,v] W fun e w'=>e= .returned (.bool (voteB st kind seq node))∧AtI B w0 w' i (voteI st kind seq node sl l) ss:=by
 obtain ⟨x,h1,rfl,h3⟩:=h;exact ins_vote h3 h1 kind seq node sl v l hb hn
theorem ai_pre (h:AtI B w0 W i st ss) (seq:Int) (v:Value) (l:List Rq) (hb:Bat W v l) (hn:l.length≤100000):
  Calls Tryz.prog 159 #[.pointer (some ⟨i,0,none⟩),.int .i64 seq,v] W fun e w'=>e= .returned (.bool (preB st seq))∧AtI B w0 w' i (preI st seq l) ss:=by
 obtain ⟨x,h1,rfl,h3⟩:=h;exact ins_pre h3 h1 seq v l hb hn
theorem zx5 (h:AtI B w0 W i st ss):Calls Tryz.prog 156 #[.pointer (some ⟨i,0,none⟩)] W fun e w'=>e= .returned (.int .i64 (doneI st))∧W=w':=by
 obtain ⟨x,h1,rfl,h3⟩:=h;exact zmj h3 h1
theorem zx6 (h:AtI B w0 W i st ss):Calls Tryz.prog 154 #[.pointer (some ⟨i,0,none⟩)] W fun e w'=>e= .returned (.int .i64 (nextI st))∧Upd [] W w':=by
 obtain ⟨x,h1,rfl,h3⟩:=h;exact ins_next h3 h1
theorem zex (h:AtI B w0 W i st ss):Calls Tryz.prog 73 #[.pointer (some ⟨i,0,none⟩)] W fun e w'=>e= .returned (.bool st.on)∧W=w':=by
 obtain ⟨x,h1,rfl,h3⟩:=h;exact zdk h3 h1
theorem znm (h:AtI B w0 W i st ss) (seq:Int):Calls Tryz.prog 220 #[.pointer (some ⟨i,0,none⟩),.int .i64 seq] W (zxz W (zau st seq)):=by
 obtain ⟨x,h1,rfl,h3⟩:=h;exact zr8 h3 h1 seq
def Told (W w':World) (r:Option Cp) (c:Ct):Prop:=
 c.cp=r.getD noCp∧(c.rs.length≤100000∧c.vs.length≤100000)∧Bat w' c.vb c.rs∧Vts w' c.vv c.vs∧(∀k∈blkOf c.vb,W.heap.size≤k)∧ ∀k∈blkOf c.vv,W.heap.size≤k
theorem zxt {r:Option Cp} {c:Ct} {p:Cp} (h:Told W W' r c) (hp:r.getD noCp=p): ∃ao cap co cav,c=⟨p.view,p.inst,p.seq,.slice ao p.rs.length cap,.slice co p.vs.length cav,p.rs,p.vs⟩∧(p.rs.length≤100000∧p.vs.length≤100000)∧
  Bat W' (.slice ao p.rs.length cap) p.rs∧Vts W' (.slice co p.vs.length cav) p.vs∧(∀k∈blkOf (.slice ao p.rs.length cap),W.heap.size≤k)∧ ∀k∈blkOf (.slice co p.vs.length cav),W.heap.size≤k:=by
 subst hp;obtain ⟨view,inst,seq,vb,vv,rs,vs⟩:=c;obtain ⟨h1,h2,h3,h4,h5,h6⟩:=h;simp only [Ct.cp] at h1 h2 h3 h4 h5 h6;rw [←h1];obtain ⟨ao,cap,rfl⟩:=zb9 h3;obtain ⟨co,cav,rfl⟩:=zds h4;exact ⟨ao,cap,co,cav,rfl,h2,h3,h4,h5,h6⟩
end
section
variable {B:Nat} {w0 W W':World} {ss rs:List Res} {x:Ins}
theorem zec (h:Own B w0 W (instR x::ss)) {i:Nat} (hi:x.i=i) (seq:Int):Calls Tryz.prog 110 #[.pointer (some ⟨i,0,none⟩),.int .i64 seq] W (CertP B w0 W i (zai x.st seq) x.st ss):=by
 subst hi;have hz:=zdh (h.box zct).swap;obtain ⟨-,-,-,-,-,c5,l1,l2⟩:=zc1 hz;cases hk:idx seq with
 | none=>
  have hs:=zfq hk;have HE:=zq (show zai x.st seq=none by simp [zai,zer hk]);have HA:=zq (at_no x.i x.b x.cap seq _ hs c5);have H:=zq h;clear hz h hk hs c5;go_enter Tryz.func110,Tryz.ntmps110
  go_wp2_with fail
  refine HA.out.mono ?_;rintro e w' ⟨rfl,rfl⟩
  go_wp2_with fail
  exact bodyPost_ret (v:= .tuple #[ctAgg noCt,.bool false]) (by simp [results,Tryz.results110,go_sem,noCt]) rfl (zca (H.out.upd0 ((Upd.refl _ _).alloc _)) HE.out rfl)
 | some k=>
  obtain ⟨hl,hp⟩:=zes (oi_ok hz) hk;obtain ⟨i1,i2⟩:=zkm hk;have HA:=zq (zpe x.i x.b x.cap seq _ (by omega) (by omega) c5);have hks:seq.toNat-1=k:=by omega
  rw [hks] at HA;have cd:=zsz hz k hl;cases hd:x.l[k].done
  ·rw [hd] at cd
   have HE:=zq (show zai x.st seq=none by simp only [zai,hp];simp [Pm.pl,hd]);have H:=zq h;clear hz h hk hp i2 hks hd c5;go_enter Tryz.func110,Tryz.ntmps110
   go_wp2_with fail
   refine HA.out.mono ?_;rintro e w' ⟨rfl,rfl⟩
   go_wp2_with fail
   exact bodyPost_ret (v:= .tuple #[ctAgg noCt,.bool false]) (by simp [results,Tryz.results110,go_sem,noCt]) rfl (zca (H.out.upd0 ((Upd.refl _ _).alloc _)) HE.out rfl)
  ·rw [hd] at cd
   have HCI:=zq (show zai x.st seq=some x.l[k].dw.cp by simp only [zai,hp];simp [Pm.pl,hd]);have c9:=oi_at hz k hl 9 (by omega);have c10:=oi_at hz k hl 10 (by omega);have c11:=oi_at hz k hl 11 (by omega);have c12:=oi_at hz k hl 12 (by omega);have c13:=oi_at hz k hl 13 (by omega);simp only [zao,List.getElem?_cons_succ,List.getElem?_cons_zero] at c9 c10 c11 c12 c13;obtain ⟨-,q1,q2,q3,q4⟩:=zhc hz k hl;have HF:=zq (zmh x.l[k].dw _ q1 q3 q2 q4);have HZ:=zq hz;clear hz h hk hp i2 hks hd c5 q1 q2;generalize x.l[k].dw=c at*;go_enter Tryz.func110,Tryz.ntmps110
   go_wp2_with fail
   refine HA.out.mono ?_;rintro e w' ⟨rfl,rfl⟩
   go_wp2_with fail
   refine HF.out.mono ?_;rintro e w5 ⟨⟨view',inst',seq',vb',vv',rs',vs'⟩,rfl,hcp,hu5,hb5,hv5,nb,nv⟩;simp only at hb5 hv5 nb nv;obtain ⟨ao6,cap6,rfl⟩:=zb9 hb5;obtain ⟨co6,cav6,rfl⟩:=zds hv5;have H5:=zq ((zhh (zcm HZ.out).swap hu5 hb5 hv5 nb nv).rot);have HCP:=zq hcp;have HB5:=zq hb5;have HV5:=zq hv5;have NB:=zq nb;have NV:=zq nv;clear hcp hu5 hb5 hv5 nb nv HZ HF c9 c10 c11 c12 c13 cd;obtain ⟨f0,f1,f2,f3,f4,fl,fz⟩:=zbr H5.out.blk_out;have fz0:=fz 0;have fz1:=fz 1;have fz2:=fz 2;have fz3:=fz 3;have fz4:=fz 4;clear fz
   go_wp2_with fail
   have H6:=zq (zkz H5.out view' inst' seq' (.slice ao6 rs'.length cap6) (.slice co6 vs'.length cav6));have HU6:=zq (zui w5 W.heap.size view' inst' seq' (.slice ao6 rs'.length cap6) (.slice co6 vs'.length cav6));generalize ((((w5.setCell ⟨W.heap.size,0,none⟩ (.int .i64 view')).setCell ⟨W.heap.size,1,none⟩ (.int .i64 inst')).setCell ⟨W.heap.size,2,none⟩ (.int .i64 seq')).setCell ⟨W.heap.size,3,none⟩ (.slice ao6 rs'.length cap6)).setCell ⟨W.heap.size,4,none⟩ (.slice co6 vs'.length cav6)=w6 at*;clear f0 f1 f2 f3 f4 fl fz0 fz1 fz2 fz3 fz4 H5;obtain ⟨f0,f1,f2,f3,f4,fl,-⟩:=zbr H6.out.blk_out;refine bodyPost_ret (v:= .tuple #[ctAgg ⟨view',inst',seq',.slice ao6 rs'.length cap6,.slice co6 vs'.length cav6,rs',vs'⟩,.bool true]) (by simp [results,Tryz.results110,go_sem,f0,f1,f2,f3,f4]) rfl ?_;have hcp:=HCP.out;have e4:rs'=c.rs:=congrArg Cp.rs hcp;have e5:vs'=c.vs:=congrArg Cp.vs hcp;have hnew: ∀(v:Value),(∀k∈blkOf v,(W.alloc zct).heap.size≤k)→(∀k∈blkOf v,W.heap.size≤k)∧ ∀k∈blkOf v,k∉[W.heap.size]:=fun v hv=>⟨fun k hk=>by have:=hv k hk;simp at this;omega,fun k hk hn=>by have:=hv k hk;simp at this hn;omega⟩;refine ⟨⟨view',inst',seq',.slice ao6 rs'.length cap6,.slice co6 vs'.length cav6,rs',vs'⟩,?_,?_,⟨by simp only [e4];exact q3,by simp only [e5];exact q4⟩,HB5.out.upd HU6.out (hnew _ NB.out).2,Reads.upd HV5.out HU6.out (hnew _ NV.out).2,(hnew _ NB.out).1,(hnew _ NV.out).1,x,rfl,rfl,H6.out.drop⟩
   ·rw [HCI.out];rfl
   ·rw [HCI.out];exact hcp
theorem zl6 {i:Nat} {st:In} (h:AtI B w0 W i st ss) (seq:Int):Calls Tryz.prog 110 #[.pointer (some ⟨i,0,none⟩),.int .i64 seq] W fun e w'=> ∃c:Ct,e= .returned (.tuple #[ctAgg c,.bool (zai st seq).isSome])∧Told W w' (zai st seq) c∧AtI B w0 w' i st ss:=by
 obtain ⟨x,h1,rfl,h3⟩:=h;refine (zec h3 h1 seq).mono ?_;rintro e w' ⟨c,he,hc,hn,hb,hv,n1,n2,x',e1,e2,e3⟩;exact ⟨c,he,⟨hc,hn,hb,hv,n1,n2⟩,x',e1,e2,e3.drop.drop⟩
end
def cs3 (b:List Rq) (n:Nat):List Vt:=(List.range 4).map fun i=>if i<n then ⟨true,1,b⟩ else noVt
def vPl (k n:Nat):Pl:= {zbq 1 with sl:= {zcb 1 with cs:=cs3 [rq 0 k] n}}
def gCp (k:Nat):Cp:=⟨0,0,k,[rq 0 k],[(0,1),(1,1),(2,1)]⟩
def gPl (k:Nat):Pl:= {vPl k 3 with done:=true,dw:=gCp k}
def gp (h:Nat→Bool):In:=⟨1,0,1,0,true,(List.range 16).map fun j=>if h (j+1) then gPl (j+1) else zbq 1⟩
def vk (h:Nat→Bool) (k n:Nat):In:=(gp h).upd (k-1) fun p=>if h k then p else vPl k n
section
variable {B:Nat} {w0 W W':World} {ss rs:List Res} {x:Ins}
end
end Go.Proofs.YtannckelmojkoaaGreat
