/- Parts of the proof, one behind the other. -/
import Derived.Test.YtannckelmojkoaaGreatOrdB5
import Derived.Deep.MidRow
import Derived.Deep.AppendLies
set_option maxHeartbeats 32000000
set_option maxRecDepth 100000
namespace Go.Proofs.YtannckelmojkoaaGreat
open Go.RowKit Go.Heap
structure En where
 rq:Rq
 res:Int
deriving DecidableEq
def zd5 (e:En):List Value:=[.int .i64 e.rq.client,.int .i64 e.rq.time,.int .i64 e.rq.kind,.int .i64 e.rq.key,.int .i64 e.rq.val,.int .i64 e.rq.sl,.int .i64 e.res]
abbrev zbs (l:List En):List Value:=l.flatMap zd5
theorem zqu (l:List En): ∀u∈zbs l,u.oneCell'=true:=by
 intro u hu
 simp only [zbs,List.mem_flatMap] at hu
 obtain ⟨r,_,h⟩:=hu
 simp only [zd5,List.mem_cons,List.not_mem_nil,or_false] at h
 rcases h with rfl | rfl | rfl | rfl | rfl | rfl | rfl<;>rfl
def zhx (c:Bool×Int):List Value:=[.bool c.1,.int .i64 c.2]
abbrev zd6 (l:List (Bool×Int)):List Value:=l.flatMap zhx
theorem zwe (l:List (Bool×Int)):(zd6 l).length=l.length*2:=zb2 (cells:=zhx) (sz:=2) (fun _=>rfl) l
theorem zsu (l:List (Int×Int)):(l.flatMap zcd).length=l.length*2:=zb2 (cells:=zcd) (sz:=2) (fun _=>rfl) l
theorem rp_one (l:List (Int×Int)): ∀u∈l.flatMap zcd,u.oneCell'=true:=by
 intro u hu
 simp only [List.mem_flatMap] at hu
 obtain ⟨r,_,h⟩:=hu
 simp only [zcd,List.mem_cons,List.not_mem_nil,or_false] at h
 rcases h with rfl | rfl<;>rfl
abbrev st0:List (Bool×Int):=List.replicate 64 (false,0)
theorem Tryz.zst:Tryz.zeroCells192.toList=zd6 st0:=by kernel_rfl
structure Lg where
 p:Nat
 s:Nat
 c:Nat
 g:Nat
 cap:Nat
 v:Value
 clients:Int
 es:List En
 st:List (Bool×Int)
 rp:List (Int×Int)
abbrev lgO (clients:Int) (v:Value) (s c:Nat):Obj:= .cells #[.int .i64 clients,v,.pointer (some ⟨s,0,none⟩),.pointer (some ⟨c,0,none⟩)] 184 (0,0)
abbrev chO (g n cap:Nat):Obj:= .cells #[.slice (some ⟨g,0,none⟩) n cap] 289 (0,0)
abbrev enR (v:Value) (es:List En):Res:=ownR 106 7 v es.length (zbs es)
abbrev stR (s:Nat) (st:List (Bool×Int)):Res:=segR s 192 (zd6 st)
abbrev rpR (g:Nat) (l:List (Int×Int)):Res:=segR g 286 (l.flatMap zcd)
abbrev lgL (x:Lg):List Res:=[blk x.p (lgO x.clients x.v x.s x.c),enR x.v x.es,stR x.s x.st,blk x.c (chO x.g x.rp.length x.cap),rpR x.g x.rp]
structure LgOk (x:Lg):Prop where
 st:x.st.length=64
 rp1:1≤x.rp.length
 rp4:x.rp.length≤4
 cap:x.rp.length≤x.cap∧x.cap≤maxLen
 es:x.es.length≤100000
structure Lp where
 clients:Int
 es:List En
 st:List (Bool×Int)
 rp:List (Int×Int)
def Lg.lp (x:Lg):Lp:=⟨x.clients,x.es,x.st,x.rp⟩
def newL (n:Nat):Lp:=⟨n,[],st0,List.replicate n (0,0)⟩
section
variable {B:Nat} {w0 W W':World} {ss:List Res} {x:Lg}
theorem Tryz.infoEn:(Tryz.prog.info? 106).map (fun i=>(i.zero,i.size,i.bytes))=some (some (.agg #[.int .i64 0,.int .i64 0,.int .i64 0,.int .i64 0,.int .i64 0,.int .i64 0,.int .i64 0]),7,56):=by kernel_rfl
theorem zha (h:Own B w0 W (lgL x++ss)):W.cell? ⟨x.p,0,none⟩=some (.int .i64 x.clients)∧W.cell? ⟨x.p,1,none⟩=some x.v∧W.cell? ⟨x.p,2,none⟩=some (.pointer (some ⟨x.s,0,none⟩))∧W.cell? ⟨x.p,3,none⟩=some (.pointer (some ⟨x.c,0,none⟩)):=by
 have hb:=h.blkAt 0 (b:=x.p) (o:=lgO x.clients x.v x.s x.c) rfl
 exact ⟨by rw [zab hb];rfl,by rw [zab hb];rfl,by rw [zab hb];rfl,by rw [zab hb];rfl⟩
theorem zkl (n:Nat) (h1:1≤n) (h4:n≤4) (h:Own B w0 W ss):
  Calls Tryz.prog 86 #[.int .i64 n] W fun e w'=> ∃x:Lg,e= .returned (.tuple #[.pointer (some ⟨x.p,0,none⟩),.int .i64 0])∧LgOk x∧x.lp=newL n∧Own B w0 w' (lgL x++ss):=by
 have HC:=Lib.hid (zt3 n h1 h4 h)
 clear h
 go_enter Tryz.func86,Tryz.ntmps86
 go_wp2_with fail
 refine HC.out.mono ?_
 rintro e w1 ⟨p,g,rfl,ho⟩
 have HS:=Lib.hid (zwk ho)
 clear ho HC
 go_wp2_with fail
 refine HS.out.mono ?_
 rintro e w2 ⟨s,rfl,ho⟩
 have H2:=Lib.hid (zcn ho Tryz.zst)
 clear ho HS
 go_wp2_with fail
 go_ret2
 have h3:=((H2.out.row0 (E:=106) (sz:=7))).boxAt (lgO n (.slice none 0 0) s p) rfl
 refine ⟨⟨w2.heap.size,s,p,g,n,.slice none 0 0,n,[],st0,List.replicate n (0,0)⟩,rfl,⟨by simp,by simpa using h1,by simpa using h4,⟨by simp,by show n≤maxLen;unfold maxLen;omega⟩,by simp⟩,rfl,?_⟩
 exact h3
theorem zkk (h:Own B w0 W (lgL x++ss)) (hk:LgOk x):
  Calls Tryz.prog 51 #[.pointer (some ⟨x.p,0,none⟩)] W fun e w'=> ∃v,e= .returned v∧Own B w0 w' (enR v x.es::(lgL x++ss)):=by
 obtain ⟨i0,hi,hz0,hz1,hz2⟩:=info_parts Tryz.infoEn
 obtain ⟨-,c1,-,-⟩:=zha h
 have h5:=hk.es
 have H:=Lib.hid h
 have hr:=owns_reads (zak (h.get 1 (r:=enR x.v x.es) rfl))
 clear h
 go_enter Tryz.func51,Tryz.ntmps51
 go_wp2_with (at_builtin;refine zcm rfl (.tmp 6) 103 rfl 106 i0 (.agg #[.int .i64 0,.int .i64 0,.int .i64 0,.int .i64 0,.int .i64 0,.int .i64 0,.int .i64 0]) 7 56 Tryz.underlying103 hi hz0 hz1 hz2 rfl (by decide) _ _ _ rfl hr (zqu x.es) (by omega) ?_)
 intro v w' ho hu
 have H2:=Lib.hid (H.out.row1 hu ho)
 clear ho hu
 go_wp2_with fail
 go_ret
 exact ⟨v,rfl,H2.out⟩
theorem zou (h:Own B w0 W (lgL x++ss)) (hk:LgOk x):
  Calls Tryz.prog 192 #[.pointer (some ⟨x.c,0,none⟩)] W fun e w'=> ∃p g cap,e= .returned (.pointer (some ⟨p,0,none⟩))∧x.rp.length≤cap∧cap≤maxLen∧Own B w0 w' (blk p (chO g x.rp.length cap)::rpR g x.rp::(lgL x++ss)):=by
 obtain ⟨i0,hi,hz0,hz1,hz2⟩:=info_parts Tryz.infoRp
 have c0:W.cell? ⟨x.c,0,none⟩=some (.slice (some ⟨x.g,0,none⟩) x.rp.length x.cap):=by rw [zab (h.blkAt 3 (b:=x.c) (o:=chO x.g x.rp.length x.cap) rfl)];rfl
 have hr4:=hk.rp4
 have hr1:=hk.rp1
 have H:=Lib.hid h
 have hr:Reads W (.slice (some ⟨x.g,0,none⟩) x.rp.length x.cap) 2 x.rp.length (x.rp.flatMap zcd):=by
  obtain ⟨q1,q2,-⟩:=zcw (h.get 4 (r:=rpR x.g x.rp) rfl)
  exact ⟨_,_,rfl,hk.cap.1,hk.cap.2,zsu _,(fun e=>by cases e),fun _=>⟨x.g,0,rfl,q1,fun j hj=>by rw [Nat.zero_add];exact q2 j (by rw [zsu];exact hj)⟩⟩
 clear h
 go_enter Tryz.func192,Tryz.ntmps192
 go_wp2_with (at_builtin;refine zcm rfl (.tmp 6) 287 rfl 286 i0 (.agg #[.int .i64 0,.int .i64 0]) 2 16 Tryz.underlying287 hi hz0 hz1 hz2 rfl (by decide) _ _ _ rfl hr (rp_one x.rp) (by omega) ?_)
 intro v w' ho hu
 have h2:=H.out.row1 hu ho
 have hsh: ∃g cap,v= .slice (some ⟨g,0,none⟩) x.rp.length cap∧x.rp.length≤cap∧cap≤maxLen:=by
  rcases ho.2 with ⟨_,h0⟩ | ⟨g,cap,cur,rfl,_,_,h3,h4,_⟩
  ·omega
  ·exact ⟨g,cap,rfl,h3,h4⟩
 obtain ⟨g,cap,rfl,hc1,hc2⟩:=hsh
 have H2:=Lib.hid (h2.alter (r':=rpR g x.rp) (zhj h2.head) (fun k hk=>by simpa [ownR,segR,blkOf] using hk))
 clear ho hu h2
 go_wp2_with fail
 go_ret
 exact ⟨w'.heap.size,g,cap,rfl,hc1,hc2,H2.out.boxAt _ rfl⟩
theorem fold_at: ∀(cs:List Value) (k:Nat) (z:Array Value) (j:Nat),(List.foldl (fun (a:Array Value) (x:Value×Nat)=>a.setIfInBounds x.snd x.fst) z (cs.zipIdx k))[j]?=if k≤j∧j<k+cs.length∧j<z.size then cs[j-k]? else z[j]?
 | [],k,z,j=>by simp;omega
 | v::vs,k,z,j=>by
  rw [List.zipIdx_cons,List.foldl_cons,fold_at vs (k+1) _ j]
  simp only [Array.size_setIfInBounds,List.length_cons]
  by_cases hj:k=j
  ·subst hj
   rw [if_neg (by omega)]
   by_cases hs:k<z.size
   ·rw [if_pos ⟨Nat.le_refl _,by omega,hs⟩,Nat.sub_self]
    simp [hs]
   ·rw [if_neg (by omega)]
    simp only [Array.setIfInBounds,hs,dite_false]
  ·rw [Array.getElem?_setIfInBounds_ne hj]
   by_cases h2:k+1≤j∧j<k+1+vs.length∧j<z.size
   ·rw [if_pos h2,if_pos ⟨by omega,by omega,h2.2.2⟩,show j-k=(j-(k+1))+1 by omega,List.getElem?_cons_succ]
   ·rw [if_neg h2,if_neg (by omega)]
theorem zys (cs:List Value) (z:Array Value) (h:z.size=cs.length):(List.foldl (fun (a:Array Value) (x:Value×Nat)=>a.setIfInBounds x.snd x.fst) z cs.zipIdx).toList=cs:=by
 apply List.ext_getElem?
 intro j
 rw [Array.getElem?_toList,fold_at cs 0 z j]
 by_cases hj:j<cs.length
 ·rw [if_pos ⟨Nat.zero_le _,by omega,by omega⟩,Nat.sub_zero]
 ·rw [if_neg (by omega),List.getElem?_eq_none (by omega),Array.getElem?_eq_none (by omega)]
theorem Tryz.zsts:Tryz.zeroCells192.size=128:=by kernel_rfl
theorem ztb (b:Nat) (cs:List Value) (hl:cs.length=128) (hra:W.rangeAt b 0 cs):
  Calls Tryz.prog 111 #[.pointer (some ⟨b,0,none⟩)] W fun e w'=> ∃o,e= .returned (.pointer (some ⟨W.heap.size,0,none⟩))∧o.toList=cs∧w'=W.alloc (.cells o 192 (0,0)):=by
 have HRA:=Lib.hid hra
 have HI:Hid ((Tryz.prog.info? 190).map (·.size)=some cs.length):=Lib.hid (by rw [hl];kernel_rfl)
 have HZ:=Lib.hid (zys cs Tryz.zeroCells192 (by rw [Tryz.zsts,hl]))
 have c0: ∃v,W.cell? ⟨b,0,none⟩=some v:=by
  have h0:0<cs.length:=by omega
  exact ⟨_,hra 0 _ (List.getElem?_eq_getElem h0)⟩
 clear hra
 go_enter Tryz.func111,Tryz.ntmps111
 go_wp2_with (refine wpList_load_mid rfl 190 (.tmp 5) rfl b 0 rfl cs _ HRA.out Tryz.underlying190 rfl HI.out ?_)
 go_wp2_with fail
 go_ret
 exact ⟨_,rfl,HZ.out,rfl⟩
theorem zpy (h:Own B w0 W (lgL x++ss)) (hk:LgOk x):
  Calls Tryz.prog 111 #[.pointer (some ⟨x.s,0,none⟩)] W fun e w'=> ∃s,e= .returned (.pointer (some ⟨s,0,none⟩))∧Own B w0 w' (stR s x.st::(lgL x++ss)):=by
 have hra:W.rangeAt x.s 0 (zd6 x.st):=by
  obtain ⟨q1,q2,-⟩:=zcw (h.get 2 (r:=stR x.s x.st) rfl)
  intro j v hv
  rw [Nat.zero_add,q2 j (List.getElem?_eq_some_iff.1 hv).1]
  exact hv
 refine (ztb x.s (zd6 x.st) (by rw [zwe,hk.st]) hra).mono ?_
 rintro e w' ⟨o,rfl,ho,rfl⟩
 exact ⟨_,rfl,zcn (h.box (.cells o 192 (0,0))) ho⟩
end
end Go.Proofs.YtannckelmojkoaaGreat
namespace Go.Proofs.YtannckelmojkoaaGreat
def sumV (l:List Int):Int:=l.foldl (· + ·) 0
def zce (vs:List Int) (r:Rq):Int×List Int:=
 if r.key<0∨64≤r.key∨r.val≤ -2147483648∨2147483648≤r.val then (0,vs)
 else if r.kind=1 then (vs.getD r.key.toNat 0,vs.set r.key.toNat r.val)
 else if r.kind=2 then (vs.getD r.key.toNat 0,vs)
 else if r.kind=3 then
  if vs.getD r.key.toNat 0+r.val≤ -2147483648∨2147483648≤vs.getD r.key.toNat 0+r.val then (vs.getD r.key.toNat 0,vs)
  else (vs.getD r.key.toNat 0+r.val,vs.set r.key.toNat (vs.getD r.key.toNat 0+r.val))
 else if r.kind=4 then (vs.getD r.key.toNat 0,vs.set r.key.toNat 0)
 else if r.kind=5 then (sumV vs,vs)
 else (0,vs)
def VsOk (vs:List Int):Prop:=vs.length=64∧ ∀v∈vs,-2147483648<v∧v<2147483648
theorem VsOk.at {vs:List Int} (h:VsOk vs) (k:Nat): -2147483648<vs.getD k 0∧vs.getD k 0<2147483648:=by
 rw [List.getD_eq_getElem?_getD]
 cases hk:vs[k]? with
 | none=>simp
 | some v=>simpa using h.2 v (List.mem_of_getElem? hk)
theorem VsOk.put {vs:List Int} (h:VsOk vs) (k:Nat) {v:Int} (h1: -2147483648<v) (h2:v<2147483648):VsOk (vs.set k v):=by
 refine ⟨by simpa using h.1,fun u hu=> ?_⟩
 rcases List.mem_or_eq_of_mem_set hu with hu | rfl
 ·exact h.2 u hu
 ·exact ⟨h1,h2⟩
theorem sum_in: ∀(l:List Int) (a:Int),(∀v∈l,-2147483648<v∧v<2147483648)→a-2147483648*l.length≤l.foldl (· + ·) a∧l.foldl (· + ·) a≤a+2147483648*l.length
 | [],a,_=>by simp
 | v::l,a,h=>by
  have h1:=h v (by simp)
  have h2:=sum_in l (a+v) (fun u hu=>h u (by simp [hu]))
  simp only [List.foldl_cons,List.length_cons]
  omega
theorem zt0 {vs:List Int} (h:VsOk vs) (r:Rq):VsOk (zce vs r).2∧ -1000000000000<(zce vs r).1∧(zce vs r).1<1000000000000:=by
 have ha:=h.at r.key.toNat
 have hs:=sum_in vs 0 h.2
 rw [h.1] at hs
 unfold zce
 split
 ·exact ⟨h,by simp,by simp⟩
 ·rename_i hb
  split
  ·exact ⟨h.put _ (by omega) (by omega),by simp only;omega,by simp only;omega⟩
  ·split
   ·exact ⟨h,by simp only;omega,by simp only;omega⟩
   ·split
    ·split
     ·exact ⟨h,by simp only;omega,by simp only;omega⟩
     ·rename_i hc
      exact ⟨h.put _ (by omega) (by omega),by simp only;omega,by simp only;omega⟩
    ·split
     ·exact ⟨h.put _ (by omega) (by omega),by simp only;omega,by simp only;omega⟩
     ·split
      ·exact ⟨h,by simp only [sumV];omega,by simp only [sumV];omega⟩
      ·exact ⟨h,by simp,by simp⟩
structure Sv where
 vs:List Int
 tm:Nat→Int
def Sv.new:Sv:=⟨List.replicate 64 0,fun _=>0⟩
def upT (t:Nat→Int) (k:Nat) (v:Int):Nat→Int:=fun j=>if j=k then v else t j
def stepR (n:Int) (s:Sv) (r:Rq):Option Int×Sv:=
 if r.client<0∨n≤r.client∨r.time≤s.tm r.client.toNat then (none,s)
 else (some (zce s.vs r).1,⟨(zce s.vs r).2,upT s.tm r.client.toNat r.time⟩)
def behind (n:Int):Sv→List En→Sv
 | s,[]=>s
 | s,e::es=>behind n (stepR n s e.rq).2 es
def OnceP (l:List En):Prop:=l.Pairwise fun f e=> ¬(f.rq.client=e.rq.client∧e.rq.time≤f.rq.time)
instance (l:List En):Decidable (OnceP l):=by unfold OnceP;exact inferInstance
end Go.Proofs.YtannckelmojkoaaGreat
namespace Go.Proofs.YtannckelmojkoaaGreat
open Go.RowKit Go.Heap
section
variable {B:Nat} {w0 W W':World} {ss:List Res}
end
section
variable {B:Nat} {w0 w W W':World} {ss:List Res}
theorem news_at {g:Nat} {cs:Array Value} {T:TypeId} (h:w.heap[g]?=some (.cells cs T (0,0))): ∀j u,cs.toList[j]?=some u→w.cell? ((⟨g,0,none⟩:Addr).add j)=some u:=by
 intro j u hj
 have:(⟨g,0,none⟩:Addr).add j=⟨g,j,none⟩:=by unfold Addr.add;split<;>simp_all
 rw [this,zab h]
 simpa using hj
theorem zv5 {g n sz:Nat} {cs:Array Value} {T:TypeId} (h:w.heap[g]?=some (.cells cs T (0,0))) (hs:cs.size=n*sz) (hn:n≤maxLen):Reads w (.slice (some ⟨g,0,none⟩) n n) sz n cs.toList:=
 ⟨_,_,rfl,Nat.le_refl _,hn,by simpa using hs,(fun e=>by cases e),fun _=>⟨g,0,rfl,block_lt h,fun j _=>by rw [Nat.zero_add,zab h];simp⟩⟩
theorem zoa {b o:Nat} {cs:List Value} (hu:Upd [] w W) (h:w.rangeAt b o cs):W.rangeAt b o cs:=fun j v hj=>zah hu (h j v hj)
theorem zn8 {b:Nat} {cs:Array Value} {T:TypeId} (h:w.heap[b]?=some (.cells cs T (0,0))):w.rangeAt b 0 cs.toList:=fun j v hj=>by
 rw [Nat.zero_add,zab h]
 simpa using hj
theorem zn9 {b:Nat} {T:TypeId} {cs:List Value} {A:List Nat} (h:(segR b T cs).At w A):w.rangeAt b 0 cs:=fun j v hj=>by
 obtain ⟨-,q,-⟩:=zcw h
 rw [Nat.zero_add,q j (List.getElem?_eq_some_iff.1 hj).1]
 exact hj
theorem zh1 {b:Nat} {T:TypeId} {fr:Nat×Nat}: ∀(vs:List Value) (o:Nat) (w:World) (cur:Array Value),w.heap[b]?=some (.cells cur T fr)→ ∃cur',(w.setCells b o vs).heap[b]?=some (.cells cur' T fr)∧cur'.size=cur.size∧
  ∀j,cur'[j]?=if o≤j∧j<o+vs.length∧j<cur.size then vs[j-o]? else cur[j]?
 | [],o,w,cur,h=>⟨cur,h,rfl,fun j=>by rw [if_neg (by simp;omega)]⟩
 | v::vs,o,w,cur,h=>by
  have h1:(w.setCell ⟨b,o,none⟩ v).heap[b]?=some (.cells (cur.setIfInBounds o v) T fr):=by rw [zc6 rfl,h];rfl
  obtain ⟨cur',e1,e2,e3⟩:=zh1 vs (o+1) _ _ h1
  refine ⟨cur',e1,by simpa using e2,fun j=> ?_⟩
  rw [e3 j]
  simp only [Array.size_setIfInBounds,List.length_cons]
  by_cases hj:o=j
  ·subst hj
   rw [if_neg (by omega),Array.getElem?_setIfInBounds_self]
   by_cases hs:o<cur.size
   ·rw [if_pos hs,if_pos ⟨Nat.le_refl _,by omega,hs⟩];simp
   ·rw [if_neg hs,if_neg (by omega),Array.getElem?_eq_none (by omega)]
  ·rw [Array.getElem?_setIfInBounds_ne hj]
   by_cases h2:o+1≤j∧j<o+1+vs.length∧j<cur.size
   ·rw [if_pos h2,if_pos ⟨by omega,by omega,h2.2.2⟩]
    rw [show j-o=(j-(o+1))+1 by omega,List.getElem?_cons_succ]
   ·rw [if_neg h2,if_neg (by omega)]
theorem zok {b:Nat}: ∀(vs:List Value) (o:Nat) (w0 w:World),Upd [b] w0 w→Upd [b] w0 (w.setCells b o vs)
 | [],_,_,_,h=>h
 | v::vs,o,w0,w,h=>zok vs (o+1) w0 _ (h.setCell (.inl (by simp)) v)
theorem zr9 (h:Own B w0 W ss) {z:Array Value} {T:TypeId} {cs:List Value} (hz:z.size=cs.length) {n:Nat} (hn:W.heap.size=n):Own B w0 ((W.alloc (.cells z T (0,0))).setCells n 0 cs) (segR n T cs::ss):=by
 subst hn
 have h1:=h.box (.cells z T (0,0))
 have hu:Upd [W.heap.size] (W.alloc (.cells z T (0,0))) ((W.alloc (.cells z T (0,0))).setCells W.heap.size 0 cs):=zok _ _ _ _ (Upd.refl _ _)
 obtain ⟨cur',e1,e2,e3⟩:=zh1 cs 0 (W.alloc (.cells z T (0,0))) z (heap_alloc_new W _)
 exact h1.step (r':=segR W.heap.size T cs) hu ⟨[],⟨⟨cur',e1,by rw [e2,hz];exact Nat.le_refl _,fun j hj=>by
  rw [e3 j,if_pos ⟨by omega,by omega,by omega⟩,Nat.sub_zero]⟩,rfl⟩,by simp,fun k hk=>Nat.lt_of_lt_of_le (h1.lt k hk) hu.size⟩ (fun k hk=> .inl hk)
theorem zoj {z:Array Value} {T:TypeId} {n k:Nat} (hn:W.heap.size=n) (hk:k≤z.size):(W.alloc (.cells z T (0,0))).there n 0 k:=fun j hj=>by
 subst hn
 have hb:=heap_alloc_new W (.cells z T (0,0))
 refine ⟨?_,zac hb _⟩
 rw [Nat.zero_add,zab hb,Array.getElem?_eq_getElem (by omega)]
 rfl
end
section
variable {B:Nat} {w0 w W W':World} {ss:List Res}
theorem cx_one: ∀u∈(madeCells #[.complex .f64 0 0] 2).toList,u.oneCell'=true:=by decide+kernel
theorem cx_size:(madeCells #[.complex .f64 0 0] 2).size=2*1:=by simp [size_madeCells]
abbrev zda:Obj:= .cells #[.int .i64 0,.slice none 0 0] 236 (0,0)
theorem zka (h:Own B w0 W ss):Calls Tryz.prog 81 #[] W fun e w'=> ∃p,e= .returned (.pointer (some ⟨p,0,none⟩))∧Upd [] W w'∧Own B w0 w' (blk p zda::ss):=by
 have H:=Lib.hid h
 clear h
 go_enter Tryz.func81,Tryz.ntmps81
 go_wp2
 go_ret
 exact ⟨_,rfl,(Upd.refl _ _).alloc _,H.out.box _⟩
end
section
variable {B:Nat} {w0 W W':World} {ss:List Res} {x:Lg}
theorem zhk (hd:List Res) {l:List Res} (h:Own B w0 W (hd++(l++ss))):Own B w0 W (l++(hd++ss)):=h.perm (List.perm_append_comm_assoc _ _ _)
theorem zz8 {r1 r2 r3 r4 r5:Res} {l:List Res} (h:Own B w0 W (r1::r4::r5::(l++(r3::r2::ss)))):Own B w0 W ([r1,r2,r3,r4,r5]++(l++ss)):=by
 have h1:=zhk [r1,r4,r5] h
 have h2:=zhk l (l:=[r1,r4,r5,r3,r2]) h1
 exact h2.perm (List.Perm.append_right _ (List.Perm.cons _ ((List.perm_append_comm (l₁:=[_,_]) (l₂:=[_,_])).trans (List.Perm.swap _ _ _))))
theorem zl7 (h:Own B w0 W (lgL x++ss)) (hk:LgOk x):
  Calls Tryz.prog 108 #[.pointer (some ⟨x.p,0,none⟩)] W fun e w'=> ∃y:Lg,e= .returned (.pointer (some ⟨y.p,0,none⟩))∧LgOk y∧y.lp=x.lp∧Own B w0 w' (lgL y++(lgL x++ss)):=by
 obtain ⟨c0,c1,c2,c3⟩:=zha h
 have HA:=Lib.hid (zkk h.drew hk)
 clear h
 go_enter Tryz.func108,Tryz.ntmps108
 go_upto_region 1 with fail
 have d0:W.drew.cell? ⟨x.p,0,none⟩=some (.int .i64 x.clients):=c0
 have d2:W.drew.cell? ⟨x.p,2,none⟩=some (.pointer (some ⟨x.s,0,none⟩)):=c2
 have d3:W.drew.cell? ⟨x.p,3,none⟩=some (.pointer (some ⟨x.c,0,none⟩)):=c3
 clear c0 c1 c2 c3
 go_region_held3 (fun w'=>w'.cell? ⟨x.p,0,none⟩=some (.int .i64 x.clients)∧w'.cell? ⟨x.p,2,none⟩=some (.pointer (some ⟨x.s,0,none⟩))∧w'.cell? ⟨x.p,3,none⟩=some (.pointer (some ⟨x.c,0,none⟩)))
  (first | (with_reducible exact ⟨d0,d2,d3⟩) | (with_reducible exact ⟨e0,e2,e3⟩) | (with_reducible exact ⟨f0,f2,f3⟩) | (with_reducible exact ⟨j0,j2,j3⟩) | (with_reducible exact ⟨zad j0,zad j2,zad j3⟩))
  (first
   | (go_at_call 51;refine HA.out.mono ?_;rintro e w1 ⟨v1,rfl,h1⟩;obtain ⟨ao1,cap1,rfl⟩:=zd3 (zak h1.head);have H1:=Lib.hid (zhk (l:=lgL x) [enR (.slice ao1 x.es.length cap1) x.es] h1);clear h1;obtain ⟨e0,-,e2,e3⟩:=zha H1.out)
   | (go_at_call 111;refine (zpy H1.out hk).mono ?_;rintro e w2 ⟨s2,rfl,h2⟩;have H2:=Lib.hid (zhk (l:=lgL x) [stR s2 x.st] h2);clear h2;obtain ⟨f0,-,f2,f3⟩:=zha H2.out)
   | (go_at_call 192;refine (zou H2.out hk).mono ?_;rintro e w3 ⟨p3,g3,cap3,rfl,hc3,hd3,h3⟩;have H3:=Lib.hid h3;have HC:=Lib.hid hc3;have HD:=Lib.hid hd3;clear h3 hc3 hd3;obtain ⟨j0,-,j2,j3⟩:=zha (zhk (l:=lgL x) [blk p3 (chO g3 x.rp.length cap3),rpR g3 x.rp] H3.out)))
 go_wp2_with fail
 go_ret
 refine ⟨⟨w3.heap.size,s2,p3,g3,cap3,.slice ao1 x.es.length cap1,x.clients,x.es,x.st,x.rp⟩,rfl,⟨hk.st,hk.rp1,hk.rp4,⟨HC.out,HD.out⟩,hk.es⟩,rfl,?_⟩
 exact zz8 (H3.out.boxAt (lgO x.clients (.slice ao1 x.es.length cap1) s2 p3) rfl)
end
theorem zck {l:List Pm} {k:Nat} (hk:k<l.length) (x y:Pm) (r:Nat) (v:Value) (hr:r<14) (h:zal y=(zal x).set r v):((l.set k x).flatMap zal).set (k*14+r) v=(l.set k y).flatMap zal:=by
 rw [zft (cells:=zal) (sz:=14) (fun _=>rfl) (l.set k x) k r x y v (List.getElem?_set_self hk) hr h,List.set_set]
theorem put_done (l:List Pm) (k:Nat) (hk:k<l.length) (c:Ct):
  ((((((l.flatMap zal).set (k*14+8) (.bool true)).set (k*14+9) (.int .i64 c.view)).set (k*14+10) (.int .i64 c.inst)).set (k*14+11) (.int .i64 c.seq)).set (k*14+12) c.vb).set (k*14+13) c.vv=
   (l.set k {l[k] with done:=true,dw:=c}).flatMap zal:=by
 have e:l.flatMap zal=(l.set k l[k]).flatMap zal:=by rw [List.set_getElem_self]
 rw [e]
 generalize l[k]=p
 obtain ⟨lc,sl,told,has,ct,done,⟨a,b,d,e,f,g,h⟩⟩:=p
 obtain ⟨a',b',d',e',f',g',h'⟩:=c
 rw [zck hk ⟨lc,sl,told,has,ct,done,⟨a,b,d,e,f,g,h⟩⟩ ⟨lc,sl,told,has,ct,true,⟨a,b,d,e,f,g,h⟩⟩ 8 (.bool true) (by omega) rfl,zck hk ⟨lc,sl,told,has,ct,true,⟨a,b,d,e,f,g,h⟩⟩ ⟨lc,sl,told,has,ct,true,⟨a',b,d,e,f,g,h⟩⟩ 9 (.int .i64 a') (by omega) rfl,zck hk ⟨lc,sl,told,has,ct,true,⟨a',b,d,e,f,g,h⟩⟩ ⟨lc,sl,told,has,ct,true,⟨a',b',d,e,f,g,h⟩⟩ 10 (.int .i64 b') (by omega) rfl,zck hk ⟨lc,sl,told,has,ct,true,⟨a',b',d,e,f,g,h⟩⟩ ⟨lc,sl,told,has,ct,true,⟨a',b',d',e,f,g,h⟩⟩ 11 (.int .i64 d') (by omega) rfl,zck hk ⟨lc,sl,told,has,ct,true,⟨a',b',d',e,f,g,h⟩⟩ ⟨lc,sl,told,has,ct,true,⟨a',b',d',e',f,g,h⟩⟩ 12 e' (by omega) rfl,zck hk ⟨lc,sl,told,has,ct,true,⟨a',b',d',e',f,g,h⟩⟩ ⟨lc,sl,told,has,ct,true,⟨a',b',d',e',f',g',h'⟩⟩ 13 f' (by omega) rfl]
theorem put_cert (l:List Pm) (k:Nat) (hk:k<l.length) (c:Ct):
  (((((((l.flatMap zal).set (k*14+1) (.bool true)).set (k*14+2) (.bool true)).set (k*14+3) (.int .i64 c.view)).set (k*14+4) (.int .i64 c.inst)).set (k*14+5) (.int .i64 c.seq)).set (k*14+6) c.vb).set (k*14+7) c.vv=
   (l.set k {l[k] with told:=true,has:=true,ct:=c}).flatMap zal:=by
 have e:l.flatMap zal=(l.set k l[k]).flatMap zal:=by rw [List.set_getElem_self]
 rw [e]
 generalize l[k]=p
 obtain ⟨lc,sl,told,has,⟨a,b,d,e,f,g,h⟩,done,dw⟩:=p
 obtain ⟨a',b',d',e',f',g',h'⟩:=c
 rw [zck hk ⟨lc,sl,told,has,⟨a,b,d,e,f,g,h⟩,done,dw⟩ ⟨lc,sl,true,has,⟨a,b,d,e,f,g,h⟩,done,dw⟩ 1 (.bool true) (by omega) rfl,zck hk ⟨lc,sl,true,has,⟨a,b,d,e,f,g,h⟩,done,dw⟩ ⟨lc,sl,true,true,⟨a,b,d,e,f,g,h⟩,done,dw⟩ 2 (.bool true) (by omega) rfl,zck hk ⟨lc,sl,true,true,⟨a,b,d,e,f,g,h⟩,done,dw⟩ ⟨lc,sl,true,true,⟨a',b,d,e,f,g,h⟩,done,dw⟩ 3 (.int .i64 a') (by omega) rfl,zck hk ⟨lc,sl,true,true,⟨a',b,d,e,f,g,h⟩,done,dw⟩ ⟨lc,sl,true,true,⟨a',b',d,e,f,g,h⟩,done,dw⟩ 4 (.int .i64 b') (by omega) rfl,zck hk ⟨lc,sl,true,true,⟨a',b',d,e,f,g,h⟩,done,dw⟩ ⟨lc,sl,true,true,⟨a',b',d',e,f,g,h⟩,done,dw⟩ 5 (.int .i64 d') (by omega) rfl,zck hk ⟨lc,sl,true,true,⟨a',b',d',e,f,g,h⟩,done,dw⟩ ⟨lc,sl,true,true,⟨a',b',d',e',f,g,h⟩,done,dw⟩ 6 e' (by omega) rfl,zck hk ⟨lc,sl,true,true,⟨a',b',d',e',f,g,h⟩,done,dw⟩ ⟨lc,sl,true,true,⟨a',b',d',e',f',g',h'⟩,done,dw⟩ 7 f' (by omega) rfl]
theorem put_done' (l:List Pm) (k:Nat) (hk:k<l.length) (c:Ct):
  ((((((l.flatMap zal).set (k*14+8) (.bool true)).set (k*14+9) (.int .i64 c.view)).set (k*14+9+1) (.int .i64 c.inst)).set (k*14+9+2) (.int .i64 c.seq)).set (k*14+9+3) c.vb).set (k*14+9+4) c.vv=
   (l.set k {l[k] with done:=true,dw:=c}).flatMap zal:=put_done l k hk c
theorem put_cert' (l:List Pm) (k:Nat) (hk:k<l.length) (c:Ct):
  (((((((l.flatMap zal).set (k*14+1) (.bool true)).set (k*14+2) (.bool true)).set (k*14+3) (.int .i64 c.view)).set (k*14+3+1) (.int .i64 c.inst)).set (k*14+3+2) (.int .i64 c.seq)).set (k*14+3+3) c.vb).set (k*14+3+4) c.vv=
   (l.set k {l[k] with told:=true,has:=true,ct:=c}).flatMap zal:=put_cert l k hk c
section
variable {B:Nat} {w0 W W':World} {ss rs:List Res} {x:Ins} {v1 v2:Value} {l:List Rq} {vs:Vs}
theorem zrx {k:Nat} {p:Pm} {c:Ct} (h:Own B w0 W (redR c.vv 2 c.vs.length (zan c.vs)::redR c.vb 6 c.rs.length (zam c.rs)::([blk x.i x.o,segR x.b 241 ((x.l.set k p).flatMap zal),zfc x]++(x.l.map pmR++ss))))
  (hk:k<x.l.length) (hl:p.lc=x.l[k].lc) (hs:p.sl=x.l[k].sl) (hn:c.rs.length≤100000) (hm:c.vs.length≤100000) (hc:(p.ct=c∧p.dw=x.l[k].dw)∨(p.ct=x.l[k].ct∧p.dw=c)):OwnI B w0 W (x.sl k p) ss:=by
 have hmap:(x.l.set k p).map pmR=x.l.map pmR:=by
  rw [List.map_set,show pmR p=pmR x.l[k] by simp [pmR,hl,hs]]
  conv=>lhs;arg 3;rw [←List.getElem_map (f:=pmR) (h:=by simpa using hk)]
  exact List.set_getElem_self _
 have h1:Own B w0 W (zfc x::redR c.vv 2 c.vs.length (zan c.vs)::redR c.vb 6 c.rs.length (zam c.rs)::blk x.i x.o::segR x.b 241 ((x.l.set k p).flatMap zal)::(x.l.map pmR++ss)):=h.perm (List.perm_middle (l₁:=[_,_,_,_]))
 have h2:=h1.alter (r':=zfc (x.sl k p)) (by
  obtain ⟨D,⟨⟨q1,q2⟩,q3⟩,q4,q5⟩:=h1.head
  obtain ⟨D1,⟨v1,v2⟩,v3,_⟩:=(h1.all (redR c.vv 2 c.vs.length (zan c.vs)) (List.mem_cons_of_mem _ List.mem_cons_self)).1
  obtain ⟨D2,⟨b1,b2⟩,b3,_⟩:=(h1.all (redR c.vb 6 c.rs.length (zam c.rs)) (List.mem_cons_of_mem _ (List.mem_cons_of_mem _ List.mem_cons_self))).1
  have hnew:CtIn W c (D++(D1++D2)):=⟨b1.mono (by simp+contextual),hn,v1.mono (by simp+contextual),hm⟩
  have hold: ∀p'∈x.l,CtIn W p'.ct (D++(D1++D2))∧CtIn W p'.dw (D++(D1++D2)):=fun p' hp'=>⟨(q2 p' hp').1.mono (by simp+contextual),(q2 p' hp').2.mono (by simp+contextual)⟩
  refine ⟨D++(D1++D2),⟨⟨⟨by simpa using q1.n,q1.f1,q1.f2,fun p' hp'=> ?_,q1.c1,q1.a1,q1.a2,q1.vw⟩,fun p' hp'=> ?_⟩,fun k hk=> ?_⟩,fun k hk=> ?_,q5⟩
  ·rcases List.mem_or_eq_of_mem_set hp' with hp' | rfl
   ·exact q1.lf p' hp'
   ·rw [hl];exact q1.lf _ (by simp)
  ·rcases List.mem_or_eq_of_mem_set hp' with hp' | rfl
   ·exact hold p' hp'
   ·rcases hc with ⟨e1,e2⟩ | ⟨e1,e2⟩
    ·rw [e1,e2];exact ⟨hnew,(hold _ (by simp)).2⟩
    ·rw [e1,e2];exact ⟨(hold _ (by simp)).1,hnew⟩
  ·rcases List.mem_append.1 hk with hk | hk
   ·exact q3 k hk
   ·rcases List.mem_append.1 hk with hk | hk
    ·exact v2 k hk
    ·exact b2 k hk
  ·rcases List.mem_append.1 hk with hk | hk
   ·exact q4 k hk
   ·rcases List.mem_append.1 hk with hk | hk
    ·exact v3 k hk
    ·exact b3 k hk) (by simp [zfc,imm])
 have h3:Own B w0 W (blk x.i x.o::segR x.b 241 ((x.l.set k p).flatMap zal)::zfc (x.sl k p)::(x.l.map pmR++ss)):=(h2.perm (List.perm_middle (l₁:=[_,_,_,_])).symm).drop.drop
 show Own B w0 W (insHd (x.sl k p)++((x.l.set k p).map pmR++ss))
 rw [hmap]
 exact h3
theorem oi_dw (h:Own B w0 W (redR v2 2 vs.length (zan vs)::redR v1 6 l.length (zam l)::(insHd x++(x.l.map pmR++ss)))) (k:Nat) (hk:k<x.l.length) (view inst seq:Int) (hn:l.length≤100000) (hm:vs.length≤100000):
  OwnI B w0 ((((((W.setCell ⟨x.b,k*14+8,none⟩ (.bool true)).setCell ⟨x.b,k*14+9,none⟩ (.int .i64 view)).setCell ⟨x.b,k*14+9+1,none⟩ (.int .i64 inst)).setCell ⟨x.b,k*14+9+2,none⟩ (.int .i64 seq)).setCell ⟨x.b,k*14+9+3,none⟩ v1).setCell ⟨x.b,k*14+9+4,none⟩ v2)
   (x.sl k {x.l[k] with done:=true,dw:=⟨view,inst,seq,v1,v2,l,vs⟩}) ss:=by
 have h1:=(((((((h.perm (List.perm_middle (l₁:=[_,_,_]))).put (k*14+8) (.bool true)).put (k*14+9) (.int .i64 view)).put (k*14+9+1) (.int .i64 inst)).put (k*14+9+2) (.int .i64 seq)).put (k*14+9+3) v1).put (k*14+9+4) v2)
 rw [put_done' x.l k hk ⟨view,inst,seq,v1,v2,l,vs⟩] at h1
 exact zrx (c:=⟨view,inst,seq,v1,v2,l,vs⟩) (h1.perm (List.perm_middle (l₁:=[_,_,_])).symm) hk rfl rfl hn hm (.inr ⟨rfl,rfl⟩)
theorem oi_ct (h:Own B w0 W (redR v2 2 vs.length (zan vs)::redR v1 6 l.length (zam l)::(insHd x++(x.l.map pmR++ss)))) (k:Nat) (hk:k<x.l.length) (view inst seq:Int) (hn:l.length≤100000) (hm:vs.length≤100000):
  OwnI B w0 (((((((W.setCell ⟨x.b,k*14+1,none⟩ (.bool true)).setCell ⟨x.b,k*14+2,none⟩ (.bool true)).setCell ⟨x.b,k*14+3,none⟩ (.int .i64 view)).setCell ⟨x.b,k*14+3+1,none⟩ (.int .i64 inst)).setCell ⟨x.b,k*14+3+2,none⟩ (.int .i64 seq)).setCell ⟨x.b,k*14+3+3,none⟩ v1).setCell ⟨x.b,k*14+3+4,none⟩ v2)
   (x.sl k {x.l[k] with told:=true,has:=true,ct:=⟨view,inst,seq,v1,v2,l,vs⟩}) ss:=by
 have h1:=((((((((h.perm (List.perm_middle (l₁:=[_,_,_]))).put (k*14+1) (.bool true)).put (k*14+2) (.bool true)).put (k*14+3) (.int .i64 view)).put (k*14+3+1) (.int .i64 inst)).put (k*14+3+2) (.int .i64 seq)).put (k*14+3+3) v1).put (k*14+3+4) v2)
 rw [put_cert' x.l k hk ⟨view,inst,seq,v1,v2,l,vs⟩] at h1
 exact zrx (c:=⟨view,inst,seq,v1,v2,l,vs⟩) (h1.perm (List.perm_middle (l₁:=[_,_,_])).symm) hk rfl rfl hn hm (.inl ⟨rfl,rfl⟩)
def CertP (B:Nat) (w0 W:World) (i:Nat) (r:Option Cp) (st:In) (ss:List Res) (e:Ending) (w':World):Prop:=
 ∃c:Ct,e= .returned (.tuple #[ctAgg c,.bool r.isSome])∧c.cp=r.getD noCp∧(c.rs.length≤100000∧c.vs.length≤100000)∧Bat w' c.vb c.rs∧Vts w' c.vv c.vs∧(∀k∈blkOf c.vb,W.heap.size≤k)∧(∀k∈blkOf c.vv,W.heap.size≤k)∧
  ∃x':Ins,x'.i=i∧x'.st=st∧Own B w0 w' (redR c.vv 2 c.vs.length (zan c.vs)::redR c.vb 6 c.rs.length (zam c.rs)::instR x'::ss)
def noCt:Ct:=⟨0,0,0,.slice none 0 0,.slice none 0 0,[],[]⟩
theorem zb4 {st:In} {r:Option Cp} (h:Own B w0 W' (instR x::ss)) (hr:r=none) (hst:st=x.st):CertP B w0 W x.i r st ss (.returned (.tuple #[ctAgg noCt,.bool false])) W':=by
 subst hr
 exact ⟨noCt,rfl,rfl,by simp [noCt],Reads.nil _ _,Reads.nil _ _,by simp [noCt,blkOf],by simp [noCt,blkOf],x,rfl,hst.symm,(h.red (Reads.nil _ _) (by simp [blkIf])).red (Reads.nil _ _) (by simp [blkIf,noCt])⟩
end
section
variable {B:Nat} {w0 W W':World} {ss rs:List Res} {x:Ins}
abbrev zct:Obj:=ctO 0 0 0 (.slice none 0 0) (.slice none 0 0)
theorem zhm {v u:Value} {l:List Rq} {vs:Vs} (h:Own B w0 W rs) (hu:Upd [] W W') (hb:Bat W' v l) (hv:Vts W' u vs) (n1: ∀k∈blkOf v,W.heap.size≤k) (n2: ∀k∈blkOf u,W.heap.size≤k):
  Own B w0 W' (redR u 2 vs.length (zan vs)::redR v 6 l.length (zam l)::rs):=by
 have h1:=(h.upd0 hu).red hb (fun k hk=>h.fresh (n1 k (zd2 hk)))
 refine h1.red hv (fun k hk hn=> ?_)
 rcases (zc4 _ _ _).1 hn with hn | hn
 ·simp [redR,imm] at hn
 ·exact h.fresh (n2 k (zd2 hk)) hn
theorem zrv (h:OwnI B w0 W x ss) (k:Nat) (hk:k<x.l.length):(Bat W x.l[k].ct.vb x.l[k].ct.rs∧Vts W x.l[k].ct.vv x.l[k].ct.vs∧x.l[k].ct.rs.length≤100000∧x.l[k].ct.vs.length≤100000)∧
  Bat W x.l[k].dw.vb x.l[k].dw.rs∧Vts W x.l[k].dw.vv x.l[k].dw.vs∧x.l[k].dw.rs.length≤100000∧x.l[k].dw.vs.length≤100000:=by
 obtain ⟨D,⟨⟨_,h2⟩,_⟩,_,_⟩:=(h.all (zfc x) (by simp [insHd])).1
 obtain ⟨q1,q2⟩:=h2 x.l[k] (by simp)
 exact ⟨⟨q1.b.1,q1.v.1,q1.bn,q1.vn⟩,q2.b.1,q2.v.1,q2.bn,q2.vn⟩
theorem zqj {all:List Vt} {q n:Nat}: ∀l:List Vt,(∀t∈l,t.batch.length≤n)→(zd9 (zaw all q l)).length≤n
 | [],_=>by simp [zaw,zd9]
 | t::r,h=>by
  have ih:=zqj (all:=all) (q:=q) r (fun t ht=>h t (List.mem_cons_of_mem _ ht))
  unfold zaw
  cases t.has
  ·exact ih
  ·cases zb1 all t.batch q with
   | none=>exact ih
   | some vs=>exact h t (by simp)
theorem zqt {all:List Vt} {b:List Rq} {q:Nat} {vs:Vs} (h:zb1 all b q=some vs):vs.length≤q:=by
 unfold zb1 at h
 split at h
 ·cases h
 ·simp only [Option.some.injEq] at h
  subst h
  rw [List.length_take];omega
theorem zqk {all:List Vt} {q:Nat}: ∀l:List Vt,(zer (zaw all q l)).length≤q
 | []=>by simp [zaw,zer]
 | t::r=>by
  have ih:=zqk (all:=all) (q:=q) r
  unfold zaw
  cases t.has
  ·exact ih
  ·cases he:zb1 all t.batch q with
   | none=>exact ih
   | some vs=>exact zqt he
theorem zyi {st:Sl} {f:Nat} (h: ∀t∈st.cs,t.batch.length≤100000) (hf:f≤4):(zd9 (zar f st)).length≤100000∧(zer (zar f st)).length≤100000:=
 ⟨zqj _ h,by have:=zqk (all:=st.cs) (q:=2*f+1) st.cs;unfold zar;omega⟩
theorem zkt {b:Nat} {a1 a2 a3:Int} {a4 a5:Value} (h:Own B w0 W (blk b (ctO a1 a2 a3 a4 a5)::rs)) (view inst seq:Int) (vb vv:Value):
  Own B w0 (((((W.setCell ⟨b,0,none⟩ (.int .i64 view)).setCell ⟨b,1,none⟩ (.int .i64 inst)).setCell ⟨b,2,none⟩ (.int .i64 seq)).setCell ⟨b,3,none⟩ vb).setCell ⟨b,4,none⟩ vv) (blk b (ctO view inst seq vb vv)::rs):=
 ((((h.store 0 (.int .i64 view)).store 1 (.int .i64 inst)).store 2 (.int .i64 seq)).store 3 vb).store 4 vv
theorem ztg (w:World) (b:Nat) (view inst seq:Int) (vb vv:Value):Upd [b] w (((((w.setCell ⟨b,0,none⟩ (.int .i64 view)).setCell ⟨b,1,none⟩ (.int .i64 inst)).setCell ⟨b,2,none⟩ (.int .i64 seq)).setCell ⟨b,3,none⟩ vb).setCell ⟨b,4,none⟩ vv):=
 (((((Upd.refl _ _).setCell (.inl (by simp)) _).setCell (.inl (by simp)) _).setCell (.inl (by simp)) _).setCell (.inl (by simp)) _).setCell (.inl (by simp)) _
theorem zly {seq:Int} {st:In} (h:commI st seq=none):zbc st seq=st:=by
 unfold zbc;rw [h];cases idx seq<;>rfl
theorem zo3 (h:Own B w0 W (instR x::ss)) {i:Nat} (hi:x.i=i) (seq:Int):Calls Tryz.prog 256 #[.pointer (some ⟨i,0,none⟩),.int .i64 seq] W (CertP B w0 W i (commI x.st seq) (zbc x.st seq) ss):=by
 subst hi
 have hz:=zdo (h.box zct).swap
 obtain ⟨-,-,-,-,-,c5,l1,l2⟩:=zdf hz
 cases hk:idx seq with
 | none=>
  have hs:=zfv hk
  have HE:=Lib.hid (show commI x.st seq=none by simp [commI,zeu hk])
  have HA:=Lib.hid (at_no x.i x.b x.cap seq _ hs c5)
  have H:=Lib.hid h
  clear hz h hk hs c5
  go_enter Tryz.func256,Tryz.ntmps256
  go_wp2_with fail
  refine HA.out.mono ?_
  rintro e w' ⟨rfl,rfl⟩
  go_wp2_with fail
  exact bodyPost_ret (v:= .tuple #[ctAgg noCt,.bool false]) (by simp [results,Tryz.results256,go_sem,noCt]) rfl (zb4 (H.out.upd0 ((Upd.refl _ _).alloc _)) HE.out (zly HE.out))
 | some k=>
  obtain ⟨hl,hp⟩:=zev (oi_ok hz) hk
  obtain ⟨i1,i2⟩:=zkh hk
  have HA:=Lib.hid (zos x.i x.b x.cap seq _ (by omega) (by omega) c5)
  have hks:seq.toNat-1=k:=by omega
  rw [hks] at HA
  have cp:=zmi hz k hl
  have cd:=zrw hz k hl
  have HLF:=Lib.hid ((oi_ok hz).lf _ (List.getElem_mem hl))
  cases hd:x.l[k].done
  ·rw [hd] at cd
   have HC:=Lib.hid (zks (zfh hz k hl))
   have HSM:=Lib.hid (zyi (zn0 (zfh hz k hl)).2.2.1 (oi_ok hz).f2)
   have HCI:=Lib.hid (show commI x.st seq=(zar x.f x.l[k].sl).map fun r=>⟨x.view,x.num,seq,r.1,r.2⟩ by simp only [commI,hp];simp [Pm.pl,Ins.st,hd])
   have HZ:=Lib.hid hz
   have H:=Lib.hid h
   have HK:=Lib.hid hk
   clear hz h hk hp i2 hks hd
   go_enter Tryz.func256,Tryz.ntmps256
   go_wp2_with fail
   refine HA.out.mono ?_
   rintro e w' ⟨rfl,rfl⟩
   go_wp2_with fail
   refine HC.out.mono ?_
   rintro e w2 ⟨v,u,rfl,hu,hb,hv,n1,n2⟩
   rw [HLF.out] at hb hv⊢
   obtain ⟨ao,cap,rfl⟩:=zcf hb
   obtain ⟨co,cav,rfl⟩:=zes hv
   have H2:=Lib.hid (zhm HZ.out hu hb hv n1 n2)
   clear hu hb hv n1 n2 cp cd c5 HC HA
   obtain ⟨hnb,hnv⟩:=HSM.out
   cases hcm:zar x.f x.l[k].sl with
   | none=>
    rw [hcm] at HCI
    have H3:=Lib.hid (zc3 H2.out.drop.drop)
    have fz:=fun o=>zac H3.out.drop.blk_out o
    have hbx:=H3.out.drop.blk_out
    have HBX:=Lib.hid hbx
    obtain ⟨f0,f1,f2,f3,f4,fl,-⟩:=zbr hbx
    have fz0:=fz 0
    have fz1:=fz 1
    have fz2:=fz 2
    have fz3:=fz 3
    have fz4:=fz 4
    clear hbx fz hcm
    go_wp2_with fail
    have H4:=Lib.hid (zkt H3.out.swap 0 0 0 (.slice none 0 0) (.slice none 0 0))
    generalize ((((w2.setCell ⟨W.heap.size,0,none⟩ (.int .i64 0)).setCell ⟨W.heap.size,1,none⟩ (.int .i64 0)).setCell ⟨W.heap.size,2,none⟩ (.int .i64 0)).setCell ⟨W.heap.size,3,none⟩ (.slice none 0 0)).setCell ⟨W.heap.size,4,none⟩ (.slice none 0 0)=w4 at*
    clear f0 f1 f2 f3 f4 fl fz0 fz1 fz2 fz3 fz4 HBX
    obtain ⟨f0,f1,f2,f3,f4,fl,-⟩:=zbr H4.out.blk_out
    exact bodyPost_ret (v:= .tuple #[ctAgg noCt,.bool false]) (by simp [results,Tryz.results256,go_sem,noCt,f0,f1,f2,f3,f4]) rfl (zb4 H4.out.drop HCI.out (zly HCI.out))
   | some r=>
    rw [hcm] at HCI H2 hnb hnv
    have hb2:=zvi H2.out.drop.drop
    have HB2:=Lib.hid hb2
    clear hb2 hcm
    go_wp2_with fail
    refine (zqc x.i x.f x.num x.ahead x.view x.on _ seq ao _ cap co _ cav _ HB2.out).mono ?_
    rintro e w3 ⟨rfl,hu3⟩
    have H3:=Lib.hid (H2.out.upd0 hu3)
    clear hu3 H2 HB2
    have ho3:=H3.out.drop.drop
    have c8:=oi_at ho3 k hl 8 (by omega)
    have c9:=oi_at ho3 k hl 9 (by omega)
    have c10:=oi_at ho3 k hl 10 (by omega)
    have c11:=oi_at ho3 k hl 11 (by omega)
    have c12:=oi_at ho3 k hl 12 (by omega)
    have c13:=oi_at ho3 k hl 13 (by omega)
    obtain ⟨fzb,-⟩:=oi_fz ho3
    have z8:=fzb (k*14+8)
    have z9:=fzb (k*14+9)
    have z10:=fzb (k*14+10)
    have z11:=fzb (k*14+11)
    have z12:=fzb (k*14+12)
    have z13:=fzb (k*14+13)
    clear ho3 fzb
    simp only [zal,List.getElem?_cons_succ,List.getElem?_cons_zero] at c8 c9 c10 c11 c12 c13
    go_wp2_with fail
    have H4:=Lib.hid (oi_dw H3.out k hl x.view x.num seq hnb hnv)
    have r1:=(zf0 (H3.out.drop.head))
    have r2:=(zf0 H3.out.head)
    have H4S:=Lib.hid (show W.heap.size<w3.heap.size from block_lt (zc3 H3.out.drop.drop).drop.blk_out)
    generalize (((((w3.setCell ⟨x.b,k*14+8,none⟩ (.bool true)).setCell ⟨x.b,k*14+9,none⟩ (.int .i64 x.view)).setCell ⟨x.b,k*14+9+1,none⟩ (.int .i64 x.num)).setCell ⟨x.b,k*14+9+2,none⟩ (.int .i64 seq)).setCell ⟨x.b,k*14+9+3,none⟩ (.slice ao (zd9 (some r)).length cap)).setCell ⟨x.b,k*14+9+4,none⟩ (.slice co (zer (some r)).length cav)=w4 at*
    clear c8 c9 c10 c11 c12 c13 z8 z9 z10 z11 z12 z13 H3 r1 r2
    have hq:=(zrv H4.out k (by simpa using hl)).2
    simp only [List.getElem_set_self] at hq
    obtain ⟨q1,q2,q3,q4⟩:=hq
    have HF:=Lib.hid (zl2 ⟨x.view,x.num,seq,.slice ao (zd9 (some r)).length cap,.slice co (zer (some r)).length cav,zd9 (some r),zer (some r)⟩ w4 q1 q3 q2 q4)
    clear q1 q2 q3 q4
    have H4L:=Lib.hid (show W.heap.size<w4.heap.size from block_lt (zc3 H4.out).drop.blk_out)
    refine HF.out.mono ?_
    rintro e w5 ⟨⟨view',inst',seq',vb',vv',rs',vs'⟩,rfl,hcp,hu5,hb5,hv5,nb,nv⟩
    simp only at hb5 hv5 nb nv
    obtain ⟨ao6,cap6,rfl⟩:=zcf hb5
    obtain ⟨co6,cav6,rfl⟩:=zes hv5
    have H5:=Lib.hid ((zhm (zc3 H4.out).swap hu5 hb5 hv5 nb nv).rot)
    have HCP:=Lib.hid hcp
    have HB5:=Lib.hid hb5
    have HV5:=Lib.hid hv5
    have NB:=Lib.hid nb
    have NV:=Lib.hid nv
    clear hcp hu5 hb5 hv5 nb nv H4 HF
    obtain ⟨f0,f1,f2,f3,f4,fl,fz⟩:=zbr H5.out.blk_out
    have fz0:=fz 0
    have fz1:=fz 1
    have fz2:=fz 2
    have fz3:=fz 3
    have fz4:=fz 4
    clear fz
    go_wp2_with fail
    have H6:=Lib.hid (zkt H5.out view' inst' seq' (.slice ao6 rs'.length cap6) (.slice co6 vs'.length cav6))
    have HU6:=Lib.hid (ztg w5 W.heap.size view' inst' seq' (.slice ao6 rs'.length cap6) (.slice co6 vs'.length cav6))
    generalize ((((w5.setCell ⟨W.heap.size,0,none⟩ (.int .i64 view')).setCell ⟨W.heap.size,1,none⟩ (.int .i64 inst')).setCell ⟨W.heap.size,2,none⟩ (.int .i64 seq')).setCell ⟨W.heap.size,3,none⟩ (.slice ao6 rs'.length cap6)).setCell ⟨W.heap.size,4,none⟩ (.slice co6 vs'.length cav6)=w6 at*
    clear f0 f1 f2 f3 f4 fl fz0 fz1 fz2 fz3 fz4 H5
    obtain ⟨f0,f1,f2,f3,f4,fl,-⟩:=zbr H6.out.blk_out
    refine bodyPost_ret (v:= .tuple #[ctAgg ⟨view',inst',seq',.slice ao6 rs'.length cap6,.slice co6 vs'.length cav6,rs',vs'⟩,.bool true]) (by simp [results,Tryz.results256,go_sem,f0,f1,f2,f3,f4]) rfl ?_
    have hcp:=HCP.out
    simp only [Ct.cp,Cp.mk.injEq] at hcp
    obtain ⟨e1,e2,e3,e4,e5⟩:=hcp
    have hnew: ∀(v:Value),(∀k∈blkOf v,w4.heap.size≤k)→(∀k∈blkOf v,W.heap.size≤k)∧ ∀k∈blkOf v,k∉[W.heap.size]:=fun v hv=>⟨fun k hk=>by have:=hv k hk;have:=H4L.out;omega,fun k hk hn=>by have:=hv k hk;have:=H4L.out;simp at hn;omega⟩
    refine ⟨⟨view',inst',seq',.slice ao6 rs'.length cap6,.slice co6 vs'.length cav6,rs',vs'⟩,?_,?_,⟨by simp only [e4];exact hnb,by simp only [e5];exact hnv⟩,HB5.out.upd HU6.out (hnew _ NB.out).2,Reads.upd HV5.out HU6.out (hnew _ NV.out).2,(hnew _ NB.out).1,(hnew _ NV.out).1,
     x.sl k {x.l[k] with done:=true,dw:=⟨x.view,x.num,seq,.slice ao (zd9 (some r)).length cap,.slice co (zer (some r)).length cav,zd9 (some r),zer (some r)⟩},rfl,?_,H6.out.drop⟩
    ·rw [HCI.out];rfl
    ·rw [HCI.out]
     simp only [Ct.cp,Option.map_some,Option.getD_some,Cp.mk.injEq]
     exact ⟨e1,e2,e3,e4,e5⟩
    ·rw [show zbc x.st seq=x.st.upd k fun p=> {p with done:=true,dw:=⟨x.view,x.num,seq,r.1,r.2⟩} by simp [zbc,HK.out,HCI.out]]
     exact zs7 x k hl _ _ rfl
  ·rw [hd] at cd
   have HE:=Lib.hid (show commI x.st seq=none by simp only [commI,hp];simp [Pm.pl,hd])
   have H:=Lib.hid h
   clear hz h hk hp i2 hks hd c5 cp
   go_enter Tryz.func256,Tryz.ntmps256
   go_wp2_with fail
   refine HA.out.mono ?_
   rintro e w' ⟨rfl,rfl⟩
   go_wp2_with fail
   exact bodyPost_ret (v:= .tuple #[ctAgg noCt,.bool false]) (by simp [results,Tryz.results256,go_sem,noCt]) rfl (zb4 (H.out.upd0 ((Upd.refl _ _).alloc _)) HE.out (zly HE.out))
end
theorem Tryz.infoPl:(Tryz.prog.info? 241).map (fun i=>(i.zero,i.size,i.bytes))=some (some (.agg #[.pointer none,.bool false,.bool false,.int .i64 0,.int .i64 0,.int .i64 0,.slice none 0 0,.slice none 0 0,.bool false,.int .i64 0,.int .i64 0,.int .i64 0,.slice none 0 0,.slice none 0 0]),14,168):=by kernel_rfl
section
variable {B:Nat} {w0 W W':World} {ss rs:List Res} {x:Ins}
def newPm (L:Loc) (f:Nat):Pm:=⟨L,zcb f,false,false,noCt,false,noCt⟩
theorem zvc (L:Loc) (f:Nat): ∀u∈zal (newPm L f),u.oneCell'=true:=by
 intro u hu
 simp only [zal,newPm,noCt,List.mem_cons,List.not_mem_nil,or_false] at hu
 rcases hu with rfl | rfl | rfl | rfl | rfl | rfl | rfl | rfl | rfl | rfl | rfl | rfl | rfl | rfl<;>rfl
def NewP (B:Nat) (w0:World) (st:In) (ss:List Res) (e:Ending) (w':World):Prop:= ∃x:Ins,e= .returned (.tuple #[x.ptr,.int .i64 0])∧x.st=st∧Own B w0 w' (instR x::ss)
def MkI (B:Nat) (w0 w:World) (i f:Nat) (num ahead:Int) (k:Nat) (ss:List Res):Prop:=
 ∃(ls:List Loc) (ao:Option Addr) (cp:Nat),ls.length=k∧(∀L∈ls,L.f=f)∧
  Own B w0 w (ownR 241 14 (.slice ao k cp) k ((ls.map fun L=>newPm L f).flatMap zal)::blk i (insO f num ahead 0 true (.slice ao k cp))::((ls.map fun L=>newPm L f).map pmR++ss))
theorem mk_more {i f:Nat} {num ahead:Int} {k g cap2:Nat} {ls:List Loc} {L:Loc} {ao:Option Addr} {cp:Nat} (hl:ls.length=k) (hlf: ∀L∈ls,L.f=f) (hf:L.f=f)
  (h:Own B w0 W (blk i (setIn 5 (.slice (some ⟨g,0,none⟩) (k+1) cap2) (insO f num ahead 0 true (.slice ao k cp)))::ownR 241 14 (.slice (some ⟨g,0,none⟩) (k+1) cap2) (k+1) ((ls.map fun L=>newPm L f).flatMap zal++zal (newPm L f))::slotR L (zcb f)::((ls.map fun L=>newPm L f).map pmR++ss))):MkI B w0 W i f num ahead (k+1) ss:=by
 refine ⟨ls++[L],some ⟨g,0,none⟩,cap2,by simp [hl],fun L' hL'=> ?_,?_⟩
 ·rcases List.mem_append.1 hL' with h | h
  ·exact hlf L' h
  ·simp at h;subst h;exact hf
 ·have h2:=h.rot
  have h3:Own B w0 W (slotR L (zcb f)::([ownR 241 14 (.slice (some ⟨g,0,none⟩) (k+1) cap2) (k+1) ((ls.map fun L=>newPm L f).flatMap zal++zal (newPm L f)),blk i (insO f num ahead 0 true (.slice (some ⟨g,0,none⟩) (k+1) cap2))]++((ls.map fun L=>newPm L f).map pmR++ss))):=h2.perm (List.Perm.cons _ (List.Perm.swap _ _ _))
  have h4:=Own.perm (ss:=([ownR 241 14 (.slice (some ⟨g,0,none⟩) (k+1) cap2) (k+1) ((ls.map fun L=>newPm L f).flatMap zal++zal (newPm L f)),blk i (insO f num ahead 0 true (.slice (some ⟨g,0,none⟩) (k+1) cap2))]++(ls.map fun L=>newPm L f).map pmR)++slotR L (zcb f)::ss) h3 (by
   rw [←List.append_assoc]
   exact List.perm_middle.symm)
  simp only [List.map_append,List.flatMap_append,List.map_cons,List.map_nil,List.flatMap_cons,List.flatMap_nil,List.append_nil,List.append_assoc,List.cons_append,List.nil_append] at h4⊢
  exact h4
theorem mk_done {i f:Nat} {num ahead:Int} {ls:List Loc} {ao:Option Addr} {cp:Nat} (hf1:1≤f) (hf2:f≤4) (ha1:1≤ahead) (ha2:ahead≤16) (hl:ls.length=16) (hlf: ∀L∈ls,L.f=f)
  (h:Own B w0 W (ownR 241 14 (.slice ao 16 cp) 16 ((ls.map fun L=>newPm L f).flatMap zal)::blk i (insO f num ahead 0 true (.slice ao 16 cp))::((ls.map fun L=>newPm L f).map pmR++ss))): ∃x:Ins,x.i=i∧x.st=newI f num ahead∧Own B w0 W (instR x::ss):=by
 have hown:=zak h.head
 rcases hown.2 with ⟨h1,h2⟩ | ⟨g,cap,cur,h1,hb,hg,q1,q2,q3,q4⟩
 ·omega
 ·simp only [Value.slice.injEq] at h1
  obtain ⟨rfl,-,rfl⟩:=h1
  have h2:=h.alter (r':=segR g 241 ((ls.map fun L=>newPm L f).flatMap zal)) (zhj h.head) (fun k hk=>by simp [ownR,blkOf,segR] at hk⊢;exact hk)
  refine ⟨⟨i,g,cp,f,num,ahead,0,true,ls.map fun L=>newPm L f⟩,rfl,?_,zc3 ?_⟩
  ·simp only [Ins.st,newI,In.mk.injEq,true_and,List.map_map]
   apply List.ext_getElem?
   intro j
   rw [List.getElem?_map,List.getElem?_replicate]
   by_cases hj:j<16
   ·rw [if_pos hj,List.getElem?_eq_getElem (by omega)];rfl
   ·rw [if_neg hj,List.getElem?_eq_none (by omega)];rfl
  ·have h3:Own B w0 W (zfc ⟨i,g,cp,f,num,ahead,0,true,ls.map fun L=>newPm L f⟩::segR g 241 ((ls.map fun L=>newPm L f).flatMap zal)::blk i (insO f num ahead 0 true (.slice (some ⟨g,0,none⟩) 16 cp))::((ls.map fun L=>newPm L f).map pmR++ss)):=h2.new (Upd.refl [] _) ⟨[],⟨⟨⟨by simp [hl],hf1,hf2,fun p hp=> ?_,q1,ha1,ha2,by simp⟩,fun p hp=> ?_⟩,by simp⟩,by simp,fun k hk=>h2.lt k hk⟩ (by simp [zfc,imm])
   ·exact h3.swap.rot
   ·simp only [List.mem_map] at hp
    obtain ⟨L,hL,rfl⟩:=hp
    exact hlf L hL
   ·simp only [List.mem_map] at hp
    obtain ⟨L,hL,rfl⟩:=hp
    exact ⟨⟨zau.nil _ _ _,by simp [newPm,noCt],zau.nil _ _ _,by simp [newPm,noCt]⟩,⟨zau.nil _ _ _,by simp [newPm,noCt],zau.nil _ _ _,by simp [newPm,noCt]⟩⟩
theorem zxj (f:Nat) (num ahead:Int) (hf1:1≤f) (hf2:f≤4) (hn1:0≤num) (hn2:num≤f) (ha1:1≤ahead) (ha2:ahead≤16) (h:Own B w0 W ss):
  Calls Tryz.prog 82 #[.int .i64 f,.int .i64 num,.int .i64 ahead] W (NewP B w0 (newI f num ahead) ss):=by
 obtain ⟨i0,hi,hz0,hz1,hz2⟩:=info_parts Tryz.infoPl
 have hb1:decide ((f:Int)<1)=false:=by simp;omega
 have hb2:decide (4<(f:Int))=false:=by simp;omega
 have hb3:decide (num<0)=false:=by simp;omega
 have hb4:decide ((f:Int)<num)=false:=by simp;omega
 have hb5:decide (ahead<1)=false:=by simp;omega
 have hb6:decide (16<ahead)=false:=by simp;omega
 have h0:MkI B w0 (W.alloc (insO f num ahead 0 true (.slice none 0 0))) W.heap.size f num ahead 0 ss:=⟨[],none,0,rfl,by simp,(h.box (insO f num ahead 0 true (.slice none 0 0))).row0⟩
 have H0:=Lib.hid h0
 clear h0 h
 go_enter Tryz.func82,Tryz.ntmps82
 go_wp2_with fail
 go_loopw [39] (fun i wr=> ∃k:Nat,k≤16∧i= .int .i64 k∧Hid (MkI B w0 wr W.heap.size f num ahead k ss)) (fun i _=>16-(intOf i).toNat)
 case atStart=>exact ⟨0,by omega,rfl,H0⟩
 case round=>
  clear H0
  obtain ⟨k,hk,rfl,HM⟩:=hrel
  by_cases hlt:k<16
  ·have hkI:(k:Int)<16:=by omega
   obtain ⟨ls,ao,cp,hl,hlf,hown⟩:=HM.out
   have HL:=Lib.hid hl
   have HLF:=Lib.hid hlf
   have HC:=Lib.hid (own_new f hf1 hf2 hown)
   clear hl hlf hown
   go_wp2_with fail
   refine HC.out.mono ?_
   rintro e w2 ⟨L,rfl,hLf,-,h2⟩
   have H2:=Lib.hid h2
   have HF:=Lib.hid hLf
   clear h2 hLf HC
   have hbl:=H2.out.drop.drop.blk_out
   have c5:w2.cell? ⟨W.heap.size,5,none⟩=some (.slice ao k cp):=by rw [zab hbl];rfl
   clear hbl
   have HO:=Lib.hid (zak (H2.out.alloc (.cells (zal (newPm L f)).toArray 241)).drop.head)
   go_wp2_with (at_builtin;refine wpList_append_lies _ rfl (.tmp 50) (.tmp 53) 212 rfl 0 241 i0 (.agg #[.pointer none,.bool false,.bool false,.int .i64 0,.int .i64 0,.int .i64 0,.slice none 0 0,.slice none 0 0,.bool false,.int .i64 0,.int .i64 0,.int .i64 0,.slice none 0 0,.slice none 0 0]) 14 168 Tryz.underlying212 hi hz0 hz1 hz2 rfl (by decide) _ k _ rfl HO.out ⟨w2.heap.size,0,none⟩ 1 1 (zal (newPm L f)) rfl rfl ?c1 ?c2 (by decide) ?c3 ?c4 (Nat.zero_le _) _ rfl ?c6)
   case c1=>exact World.news_of_block (heap_alloc_new w2 _)
   case c2=>exact zvc L f
   case c3=>unfold maxLen;omega
   case c4=>omega
   case c6=>
    intro g cap2 w3 hown hgrow hat hlt
    have h3:=((H2.out.alloc (.cells (zal (newPm L f)).toArray 241)).swap.grow hgrow (by rw [zbb];exact hat) hown)
    have H3:=Lib.hid h3
    clear hown hgrow hat hlt h3 HO c5
    have hbl:=H3.out.drop.drop.blk_out
    have c5:w3.cell? ⟨W.heap.size,5,none⟩=some (.slice ao k cp):=by rw [zab hbl];rfl
    have fz:=zac hbl 5
    clear hbl
    go_wp2_with fail
    have H4:=Lib.hid ((H3.out.rot.store 5 (.slice (some ⟨g,0,none⟩) (k+1) cap2)))
    go_roundw
    case rel=>exact ⟨k+1,by omega,by go_num,Lib.hid (mk_more HL.out HLF.out HF.out H4.out)⟩
    case measure=>simp [intOf];omega
  ·have hk16:k=16:=by omega
   subst hk16
   obtain ⟨ls,ao,cp,hl,hlf,hown⟩:=HM.out
   have HX:=Lib.hid (mk_done hf1 hf2 ha1 ha2 hl hlf hown)
   clear hl hlf hown
   go_wp2_with fail
   go_ret2
   obtain ⟨x,h1,h2,h3⟩:=HX.out
   exact ⟨x,by simp [Ins.ptr,h1],h2,h3⟩
end
end Go.Proofs.YtannckelmojkoaaGreat
