/- Parts of the proof, one behind the other. -/
import Derived.WalkKit
import Derived.WalkSpells
import Derived.WalkLawsBesides
import Derived.Lib.Hide
import Derived.IntWalk
import Derived.Deep.AppendLies
import Derived.Laws.AppendOwnNone
set_option maxHeartbeats 32000000
set_option maxRecDepth 100000
set_option linter.unusedVariables false
set_option linter.unusedSimpArgs false
namespace Go
theorem zq {p:Prop} (h:p):RowKit.Hid p:=Lib.hid h
end Go
namespace Go.Heap
open Go Go.RowKit
theorem zac {w:World} {b:Nat} {cs:Array Value} {T:TypeId} {fz:Nat×Nat} (h:w.heap[b]?=some (.cells cs T fz)) (o:Nat):w.cell? ⟨b,o,none⟩=cs[o]?:=by
 simp [World.cell?,h]
theorem zab {w:World} {b:Nat} {cs:Array Value} {T:TypeId} (h:w.heap[b]?=some (.cells cs T (0,0))) (o:Nat):w.frozen? ⟨b,o,none⟩=false:=by
 simp [World.frozen?,h]
theorem block_lt {w:World} {b:Nat} {o:Obj} (h:w.heap[b]?=some o):b<w.heap.size:=(Array.getElem?_eq_some_iff.1 h).1
theorem zi6 {w:World} {a:Addr} {b:Nat} (h:b≠a.block) (v:Value):(w.setCell a v).heap[b]?=w.heap[b]?:=by
 simp only [World.setCell,Array.getElem?_modify];rw [if_neg (by omega)]
theorem zed {w:World} {o:Obj} {b:Nat} (h:b<w.heap.size):(w.alloc o).heap[b]?=w.heap[b]?:=Below.heap_alloc _ _ _ h
structure Upd (M:List Nat) (w w':World):Prop where
 os:w'.os=w.os
 tape:w'.tape=w.tape
 output:w'.output=w.output
 size:w.heap.size≤w'.heap.size
 block: ∀k,k<w.heap.size→k∉M→w'.heap[k]?=w.heap[k]?
section
variable {M N:List Nat} {a w w':World}
theorem Upd.refl (M:List Nat) (w:World):Upd M w w:=⟨rfl,rfl,rfl,Nat.le_refl _,fun _ _ _=>rfl⟩
theorem Upd.trans {b c:World} (h:Upd M a b) (k:Upd M b c):Upd M a c:=
 ⟨k.os.trans h.os,k.tape.trans h.tape,k.output.trans h.output,Nat.le_trans h.size k.size,fun i hi hm=>(k.block i (Nat.lt_of_lt_of_le hi h.size) hm).trans (h.block i hi hm)⟩
theorem Upd.mono (h:Upd M w w') (hs: ∀k,k<w.heap.size→k∈M→k∈N):Upd N w w':=
 ⟨h.os,h.tape,h.output,h.size,fun k hk hm=>h.block k hk (fun hin=>hm (hs k hk hin))⟩
theorem Upd.then {w1 w2:World} (h:Upd M w w1) (k:Upd N w1 w2) (hs: ∀i∈N,i∈M∨w.heap.size≤i):Upd M w w2:=
 ⟨k.os.trans h.os,k.tape.trans h.tape,k.output.trans h.output,Nat.le_trans h.size k.size,fun i hi hm=>
  (k.block i (Nat.lt_of_lt_of_le hi h.size) (fun hin=>(hs i hin).elim hm (fun h=>by omega))).trans (h.block i hi hm)⟩
theorem Upd.drew (h:Upd M a w):Upd M a w.drew:=⟨h.os,h.tape,h.output,h.size,h.block⟩
theorem Upd.drewN (h:Upd M a w) (n:Nat):Upd M a (w.drewN n):=⟨h.os,h.tape,h.output,h.size,h.block⟩
theorem Upd.alloc (h:Upd M a w) (o:Obj):Upd M a (w.alloc o):=
 ⟨h.os,h.tape,h.output,Nat.le_trans h.size (by simp),fun k hk hm=>(Below.heap_alloc _ _ _ (Nat.lt_of_lt_of_le hk h.size)).trans (h.block k hk hm)⟩
theorem Upd.setCell (h:Upd M a w) {p:Addr} (hp:p.block∈M∨a.heap.size≤p.block) (u:Value):Upd M a (w.setCell p u):=
 ⟨h.os,h.tape,h.output,by have:=h.size;simpa [World.setCell] using this,fun k hk hm=>(zi6 (a:=p) (b:=k) (fun e=>hp.elim (fun h=>hm (by rw [e];exact h)) (fun h=>by omega)) u).trans (h.block k hk hm)⟩
theorem Upd.grown (h:Upd M a w) {row:Option Nat} (hg:w.grownBy w' row) (hr: ∀k,row=some k→k∈M∨a.heap.size≤k):Upd M a w':=
 ⟨hg.os.trans h.os,hg.tape.trans h.tape,hg.output.trans h.output,Nat.le_trans h.size hg.size,fun k hk hm=>
  (hg.block k (Nat.lt_of_lt_of_le hk h.size) (fun e=>(hr k e.symm).elim hm (fun h=>by omega))).trans (h.block k hk hm)⟩
theorem Upd.of_below (h:Below w.heap.size w w'):Upd M w w':=⟨h.os,h.tape,h.output,h.size,fun k hk _=>h.block k hk⟩
theorem Upd.below (h:Upd [] w w'):Below w.heap.size w w':=⟨h.os,h.tape,h.output,h.size,fun k hk=>h.block k hk (by simp)⟩
theorem Upd.belowB {B:Nat} (h:Upd M w w') (hB:B≤w.heap.size) (hM: ∀k∈M,B≤k):Below B w w':=
 ⟨h.os,h.tape,h.output,h.size,fun k hk=>h.block k (by omega) (fun hin=>by have:=hM k hin;omega)⟩
theorem Upd.cell (h:Upd M w w') {b o:Nat} (hb:b<w.heap.size) (hm:b∉M):w'.cell? ⟨b,o,none⟩=w.cell? ⟨b,o,none⟩:=World.cell?_of_block (h.block b hb hm)
theorem Upd.frozen (h:Upd M w w') {b o:Nat} (hb:b<w.heap.size) (hm:b∉M):w'.frozen? ⟨b,o,none⟩=w.frozen? ⟨b,o,none⟩:=World.frozen?_of_block (h.block b hb hm)
end
def blkOf:Value→List Nat
 | .slice (some a) _ _=>[a.block]
 | _=>[]
def Reads (w:World) (v:Value) (sz:Nat) (n:Nat) (xs:List Value):Prop:=
 ∃ao cap,v= .slice ao n cap∧n≤cap∧cap≤maxLen∧xs.length=n*sz∧(ao=none→n=0∧cap=0)∧(0<n→ ∃b o,ao=some ⟨b,o,none⟩∧b<w.heap.size∧ ∀j,j<n*sz→w.cell? ⟨b,o+j,none⟩=xs[j]?)
theorem Reads.nil (w:World) (sz:Nat):Reads w (.slice none 0 0) sz 0 []:=⟨none,0,rfl,Nat.le_refl _,by simp [maxLen],by simp,fun _=>⟨rfl,rfl⟩,fun h=>by omega⟩
theorem Reads.keep {w w':World} {v:Value} {sz n:Nat} {xs:List Value} (h:Reads w v sz n xs) (hk: ∀b∈blkOf v,b<w.heap.size→w'.heap[b]?=w.heap[b]?) (hs:w.heap.size≤w'.heap.size):Reads w' v sz n xs:=by
 obtain ⟨ao,cap,rfl,h1,h2,h3,h4,h5⟩:=h;refine ⟨ao,cap,rfl,h1,h2,h3,h4,fun hn=> ?_⟩;obtain ⟨b,o,rfl,hb,hc⟩:=h5 hn;refine ⟨b,o,rfl,by omega,fun j hj=> ?_⟩;rw [World.cell?_of_block (w:=w) (hk b (by simp [blkOf]) hb)];exact hc j hj
theorem Reads.upd {M:List Nat} {w w':World} {v:Value} {sz n:Nat} {xs:List Value} (h:Reads w v sz n xs) (hu:Upd M w w') (hm: ∀b∈blkOf v,b∉M):Reads w' v sz n xs:=
 h.keep (fun b hb hlt=>hu.block b hlt (hm b hb)) hu.size
theorem Reads.drew {w:World} {v:Value} {sz n:Nat} {xs:List Value} (h:Reads w v sz n xs):Reads w.drew v sz n xs:=h
theorem Reads.len {w:World} {v:Value} {sz n:Nat} {xs:List Value} (h:Reads w v sz n xs):xs.length=n*sz:=by
 obtain ⟨ao,cap,_,_,_,h3,_⟩:=h;exact h3
theorem Reads.of_own {w:World} {B E sz n cap g:Nat} {xs:List Value} (h:w.ownsRow B E sz (.slice (some ⟨g,0,none⟩) n cap) n xs):Reads w (.slice (some ⟨g,0,none⟩) n cap) sz n xs:=by
 rcases h.2 with ⟨h',_⟩ | ⟨g',cap',cur,h',hb,hg,hnc,hcm,hcs,htake⟩
 ·simp at h'
 ·simp only [Value.slice.injEq,Option.some.injEq,Addr.mk.injEq,and_true,true_and] at h'
  obtain ⟨rfl,rfl⟩:=h';refine ⟨some ⟨g,0,none⟩,cap,rfl,hnc,hcm,h.1,(fun e=>by cases e),fun _=>⟨g,0,rfl,block_lt hg,fun j hj=> ?_⟩⟩;rw [Nat.zero_add];exact h.cellAt j hj
theorem ze4 {w w':World} {M:List Nat} {B E sz n:Nat} {v:Value} {xs:List Value} (h:w.ownsRow B E sz v n xs) (hu:Upd M w w') (hm: ∀k∈blkOf v,k∉M):w'.ownsRow B E sz v n xs:=by
 refine ⟨h.1,?_⟩;rcases h.2 with hn | ⟨g,cap,cur,rfl,hb,hgg,rest⟩
 ·exact .inl hn
 ·exact .inr ⟨g,cap,cur,rfl,hb,by rw [hu.block g (block_lt hgg) (hm g (by simp [blkOf]))];exact hgg,rest⟩
def setIn (o:Nat) (v:Value):Obj→Obj
 | .cells c T fz=> .cells (c.setIfInBounds o v) T fz
 | x=>x
theorem zde {w:World} {b o:Nat} {v:Value} {k:Nat} (h:k=b):(w.setCell ⟨b,o,none⟩ v).heap[k]?=(w.heap[b]?).map (setIn o v):=by
 subst h;simp only [World.setCell,Array.getElem?_modify,if_true];cases w.heap[k]? with
 | none=>rfl
 | some x=>cases x<;>rfl
theorem zq7 {w:World} {o:Obj} {k:Nat} (h:k=w.heap.size):(w.alloc o).heap[k]?=some o:=by subst h;exact heap_alloc_new w o
theorem zo7 {w:World} {o:Obj} {k:Nat} (h:k<w.heap.size):(w.alloc o).heap[k]?=w.heap[k]?:=zed h
theorem zib {w:World} {k:Nat}:w.drew.heap[k]?=w.heap[k]?:=rfl
theorem hs_set {w:World} {a:Addr} {v:Value}:(w.setCell a v).heap.size=w.heap.size:=by simp [World.setCell]
theorem zav {w:World} {o:Obj}:(w.alloc o).heap.size=w.heap.size+1:=by simp
theorem zxc {w:World}:w.drew.heap.size=w.heap.size:=rfl
structure Res where
 M:List Nat
 Q:World→List Nat→Prop
 dep: ∀ {w w':World} {D:List Nat},Q w D→(∀k,k∈M∨k∈D→w'.heap[k]?=w.heap[k]?)→w.heap.size≤w'.heap.size→Q w' D
 lt: ∀ {w:World} {D:List Nat},Q w D→ ∀k,k∈M∨k∈D→k<w.heap.size
 sep: ∀ {w:World} {D:List Nat},Q w D→ ∀k∈M,k∉D
def Res.At (r:Res) (w:World) (A:List Nat):Prop:= ∃D,r.Q w D∧(∀k∈D,k∉A)∧ ∀k∈A,k<w.heap.size
section
variable {r r' s:Res} {w w' W W' w0:World} {A A' N:List Nat} {rs ss:List Res} {B:Nat}
theorem Res.At.upd (h:r.At w A) (hu:Upd N w w') (hN: ∀k∈N,k<w.heap.size→k∉r.M∧k∈A):r.At w' A:=by
 obtain ⟨D,h1,h2,h3⟩:=h;refine ⟨D,r.dep h1 (fun k hk=>hu.block k (r.lt h1 k hk) (fun hn=> ?_)) hu.size,h2,fun k hk=>Nat.lt_of_lt_of_le (h3 k hk) hu.size⟩;obtain ⟨q1,q2⟩:=hN k hn (r.lt h1 k hk);rcases hk with hk | hk
 ·exact q1 hk
 ·exact h2 k hk q2
theorem Res.At.upd0 (h:r.At w A) (hu:Upd [] w w'):r.At w' A:=h.upd hu (by simp)
theorem Res.At.avoid (h:r.At w A) (hs: ∀k∈A',k∈A):r.At w A':=by
 obtain ⟨D,h1,h2,h3⟩:=h;exact ⟨D,h1,fun k hk hn=>h2 k hk (hs k hn),fun k hk=>h3 k (hs k hk)⟩
theorem Res.At.more (h:r.At w A) (hu:Upd N w w') (hN: ∀k∈N,k<w.heap.size→k∉r.M∧k∈A) (hA: ∀k∈A',k<w'.heap.size∧(k∈A∨k∈r.M∨w.heap.size≤k)):r.At w' A':=by
 obtain ⟨D',k1,k2,k3⟩:=h.upd hu hN;obtain ⟨D,h1,h2,h3⟩:=h;have h1':=r.dep h1 (w':=w') (fun k hk=>hu.block k (r.lt h1 k hk) (fun hn=>by
  obtain ⟨q1,q2⟩:=hN k hn (r.lt h1 k hk);exact hk.elim q1 (fun hk=>h2 k hk q2))) hu.size
 refine ⟨D,h1',fun k hk hn=> ?_,fun k hk=>(hA k hk).1⟩;rcases (hA k hn).2 with hq | hq | hq
 ·exact h2 k hk hq
 ·exact r.sep h1 k hq hk
 ·have:=r.lt h1 k (.inr hk);omega
theorem Res.At.lt (h:r.At w A): ∀k∈r.M,k<w.heap.size:=by
 obtain ⟨D,h1,_,_⟩:=h;exact fun k hk=>r.lt h1 k (.inl hk)
def Ms (rs:List Res):List Nat:=rs.flatMap Res.M
theorem zc6 (r:Res) (rs:List Res) (k:Nat):k∈Ms (r::rs)↔k∈r.M∨k∈Ms rs:=by simp [Ms]
theorem zpd {r:Res} (h:r∈rs) {k:Nat} (hk:k∈r.M):k∈Ms rs:=by simp only [Ms,List.mem_flatMap];exact ⟨r,h,hk⟩
theorem zj9 (rs:List Res) (k:Nat):k∈Ms rs↔ ∃r∈rs,k∈r.M:=by simp [Ms]
structure Own (B:Nat) (w0 W:World) (rs:List Res):Prop where
 below:Below B w0 W
 size:B≤W.heap.size
 all: ∀r∈rs,r.At W (Ms rs)∧ ∀k∈r.M,B≤k
 apart:rs.Pairwise fun r s=> ∀k∈r.M,k∉s.M
theorem Own.lt (h:Own B w0 W rs): ∀k∈Ms rs,k<W.heap.size:=by
 intro k hk;obtain ⟨r,hr,hk⟩:=(zj9 _ _).1 hk;exact (h.all r hr).1.lt k hk
theorem Own.fresh (h:Own B w0 W rs) {k:Nat} (hk:W.heap.size≤k):k∉Ms rs:=fun hn=>by have:=h.lt k hn;omega
theorem Own.elder (h:Own B w0 W rs) {k:Nat} (hk:k<B):k∉Ms rs:=fun hn=>by
 obtain ⟨r,hr,hm⟩:=(zj9 _ _).1 hn;have:=(h.all r hr).2 k hm;omega
theorem Own.start (hb:Below B w0 W) (hB:B≤W.heap.size):Own B w0 W []:=⟨hb,hB,by simp,.nil⟩
theorem Own.upd0 (h:Own B w0 W rs) (hu:Upd [] W W'):Own B w0 W' rs:=
 ⟨h.below.trans (hu.below.mono h.size),Nat.le_trans h.size hu.size,fun r hr=>⟨(h.all r hr).1.upd0 hu,(h.all r hr).2⟩,h.apart⟩
theorem Own.alloc (h:Own B w0 W rs) (o:Obj):Own B w0 (W.alloc o) rs:=h.upd0 ((Upd.refl _ _).alloc o)
theorem Own.drew (h:Own B w0 W rs):Own B w0 W.drew rs:=h.upd0 (Upd.refl _ _).drew
theorem Own.to (h:Own B w0 W rs) (hb:Below W.heap.size W W'):Own B w0 W' rs:=h.upd0 (Upd.of_below hb)
theorem Own.head (h:Own B w0 W (r::rs)):r.At W (Ms (r::rs)):=(h.all r (by simp)).1
theorem Own.step (h:Own B w0 W (r::rs)) (hu:Upd r.M W W') (hr:r'.At W' (Ms (r::rs))) (hM: ∀k∈r'.M,k∈r.M∨W.heap.size≤k):Own B w0 W' (r'::rs):=by
 have hap:=List.pairwise_cons.1 h.apart;have hB:=(h.all r (by simp)).2;have hlt: ∀k∈Ms (r'::rs),k<W'.heap.size:=by
  intro k hk;rcases (zc6 _ _ _).1 hk with hk | hk
  ·exact hr.lt k hk
  ·exact Nat.lt_of_lt_of_le (h.lt k ((zc6 _ _ _).2 (.inr hk))) hu.size
 refine ⟨h.below.trans (hu.belowB h.size hB),Nat.le_trans h.size hu.size,fun s hs=> ?_,?_⟩
 ·rcases List.mem_cons.1 hs with rfl | hs
  ·refine ⟨hr.more (Upd.refl [] _) (by simp) (fun k hk=>⟨hlt k hk,?_⟩),fun k hk=> ?_⟩
   ·rcases (zc6 _ _ _).1 hk with hk | hk
    ·exact .inr (.inl hk)
    ·exact .inl ((zc6 _ _ _).2 (.inr hk))
   ·rcases hM k hk with hk | hk
    ·exact hB k hk
    ·exact Nat.le_trans h.size hk
  ·obtain ⟨q1,q2⟩:=h.all s (List.mem_cons_of_mem _ hs)
   refine ⟨q1.more hu (fun k hk _=>⟨hap.1 s hs k hk,(zc6 _ _ _).2 (.inl hk)⟩) (fun k hk=>⟨hlt k hk,?_⟩),q2⟩;rcases (zc6 _ _ _).1 hk with hk | hk
   ·rcases hM k hk with hk | hk
    ·exact .inl ((zc6 _ _ _).2 (.inl hk))
    ·exact .inr (.inr hk)
   ·exact .inl ((zc6 _ _ _).2 (.inr hk))
 ·rw [List.pairwise_cons]
  refine ⟨fun s hs k hk hn=> ?_,hap.2⟩;rcases hM k hk with hk | hk
  ·exact hap.1 s hs k hk hn
  ·have:=h.lt k ((zc6 _ _ _).2 (.inr (zpd hs hn)));omega
theorem Own.new (h:Own B w0 W rs) (hu:Upd [] W W') (hr:r.At W' (Ms rs)) (hM: ∀k∈r.M,W.heap.size≤k):Own B w0 W' (r::rs):=by
 have h':=h.upd0 hu;have hlt: ∀k∈Ms (r::rs),k<W'.heap.size:=by
  intro k hk;rcases (zc6 _ _ _).1 hk with hk | hk
  ·exact hr.lt k hk
  ·exact h'.lt k hk
 refine ⟨h'.below,h'.size,fun s hs=> ?_,?_⟩
 ·rcases List.mem_cons.1 hs with rfl | hs
  ·exact ⟨hr.more (Upd.refl [] _) (by simp) (fun k hk=>⟨hlt k hk,((zc6 _ _ _).1 hk).elim (fun h=> .inr (.inl h)) .inl⟩),fun k hk=>Nat.le_trans h.size (hM k hk)⟩
  ·obtain ⟨q1,q2⟩:=h.all s hs
   exact ⟨q1.more hu (by simp) (fun k hk=>⟨hlt k hk,((zc6 _ _ _).1 hk).elim (fun h=> .inr (.inr (hM k h))) .inl⟩),q2⟩
 ·rw [List.pairwise_cons]
  exact ⟨fun s hs k hk hn=>by have:=hM k hk;have:=h.lt k (zpd hs hn);omega,h.apart⟩
theorem Own.alter (h:Own B w0 W (r::rs)) (hr:r'.At W (Ms (r::rs))) (hM: ∀k∈r'.M,k∈r.M):Own B w0 W (r'::rs):=
 h.step ((Upd.refl [] _).mono (by simp)) hr (fun k hk=> .inl (hM k hk))
theorem Own.perm (h:Own B w0 W rs) (hp:rs.Perm ss):Own B w0 W ss:=by
 refine ⟨h.below,h.size,fun r hr=> ?_,?_⟩
 ·obtain ⟨q1,q2⟩:=h.all r (hp.mem_iff.2 hr)
  refine ⟨q1.avoid (fun k hk=> ?_),q2⟩;obtain ⟨s,hs,hk⟩:=(zj9 _ _).1 hk;exact zpd (hp.mem_iff.2 hs) hk
 ·exact hp.pairwise h.apart (fun hab k hk hn=>hab k hn hk)
theorem Own.drop (h:Own B w0 W (r::rs)):Own B w0 W rs:=
 ⟨h.below,h.size,fun s hs=>⟨(h.all s (List.mem_cons_of_mem _ hs)).1.avoid (fun _k hk=>(zc6 _ _ _).2 (.inr hk)),(h.all s (List.mem_cons_of_mem _ hs)).2⟩,(List.pairwise_cons.1 h.apart).2⟩
theorem Own.perm3 {r1 r2 r3:Res} (h:Own B w0 W (r::r1::r2::r3::rs)):Own B w0 W (r1::r2::r3::r::rs):=
 h.perm ((List.Perm.swap _ _ _).trans (((List.Perm.swap _ _ _).trans ((List.Perm.swap _ _ _).cons _)).cons _))
theorem Own.swap (h:Own B w0 W (r::s::rs)):Own B w0 W (s::r::rs):=h.perm (.swap _ _ _)
theorem Own.rot' {t:Res} (h:Own B w0 W (r::s::t::rs)):Own B w0 W (s::t::r::rs):=h.perm ((List.Perm.swap _ _ _).trans ((List.Perm.swap _ _ _).cons _))
theorem Own.rot {t:Res} (h:Own B w0 W (r::s::t::rs)):Own B w0 W (t::r::s::rs):=h.perm (((List.Perm.swap _ _ _).cons _).trans (.swap _ _ _))
def blk (b:Nat) (o:Obj):Res where
 M:=[b]
 Q:=fun w D=>w.heap[b]?=some o∧D=[]
 dep:=fun ⟨h,e⟩ hk _=>⟨(hk _ (by simp)).trans h,e⟩
 lt:=fun ⟨h,e⟩ k hk=>by subst e;simp at hk;subst hk;exact block_lt h
 sep:=fun ⟨_,e⟩ k _ hn=>by rw [e] at hn;simp at hn
theorem blk_out {b:Nat} {o:Obj} (h:(blk b o).At w A):w.heap[b]?=some o:=let ⟨_,h,_⟩:=h;h.1
theorem blk_at {b:Nat} {o:Obj} (h:w.heap[b]?=some o) (hA: ∀k∈A,k<w.heap.size):(blk b o).At w A:=⟨[],⟨h,rfl⟩,by simp,hA⟩
theorem Own.blk_out {b:Nat} {o:Obj} (h:Own B w0 W (blk b o::rs)):W.heap[b]?=some o:=Heap.blk_out h.head
theorem Own.box (h:Own B w0 W rs) (o:Obj):Own B w0 (W.alloc o) (blk W.heap.size o::rs):=
 h.new ((Upd.refl _ _).alloc o) (blk_at (heap_alloc_new W o) (fun k hk=>by have:=h.lt k hk;simp;omega)) (by simp [blk])
theorem Own.store {b:Nat} {o:Obj} (h:Own B w0 W (blk b o::rs)) (i:Nat) (v:Value):Own B w0 (W.setCell ⟨b,i,none⟩ v) (blk b (setIn i v o)::rs):=by
 have hu:Upd [b] W (W.setCell ⟨b,i,none⟩ v):=(Upd.refl _ _).setCell (.inl (by simp)) v;refine h.step (r':=blk b (setIn i v o)) hu (blk_at ?_ (fun k hk=>by rw [hs_set];exact h.lt k hk)) (fun k hk=> .inl hk);rw [zde rfl,h.blk_out];rfl
def zat (w:World) (v:Value) (sz n:Nat) (xs:List Value) (D:List Nat):Prop:=Reads w v sz n xs∧(0<n→ ∀k∈blkOf v,k∈D)
theorem zat.mono {v:Value} {sz n:Nat} {xs:List Value} {D D':List Nat} (h:zat w v sz n xs D) (hs: ∀k∈D,k∈D'):zat w v sz n xs D':=⟨h.1,fun hn k hk=>hs k (h.2 hn k hk)⟩
theorem zat.nil (w:World) (sz:Nat) (D:List Nat):zat w (.slice none 0 0) sz 0 [] D:=⟨Reads.nil _ _,fun h=>by omega⟩
theorem zat.dep {v:Value} {sz n:Nat} {xs:List Value} {D:List Nat} (h:zat w v sz n xs D) (hk: ∀k∈D,w'.heap[k]?=w.heap[k]?) (hs:w.heap.size≤w'.heap.size):zat w' v sz n xs D:=by
 obtain ⟨⟨ao,cap,rfl,h1,h2,h3,h4,h5⟩,h6⟩:=h;refine ⟨⟨ao,cap,rfl,h1,h2,h3,h4,fun hn=> ?_⟩,h6⟩;obtain ⟨b,o,rfl,hb,hc⟩:=h5 hn;refine ⟨b,o,rfl,by omega,fun j hj=> ?_⟩;rw [World.cell?_of_block (w:=w) (hk b (h6 hn b (by simp [blkOf])))];exact hc j hj
theorem Reads.lt {v:Value} {sz n:Nat} {xs:List Value} (h:Reads w v sz n xs) (hn:0<n): ∀k∈blkOf v,k<w.heap.size:=by
 obtain ⟨ao,cap,rfl,_,_,_,_,h5⟩:=h;obtain ⟨b,o,rfl,hb,_⟩:=h5 hn;intro k hk;simp [blkOf] at hk;omega
def blkIf (n:Nat) (v:Value):List Nat:=if 0<n then blkOf v else []
theorem Reads.lies {v:Value} {sz n:Nat} {xs:List Value} (h:Reads w v sz n xs):zat w v sz n xs (blkIf n v):=⟨h,fun hn k hk=>by unfold blkIf;rw [if_pos hn];exact hk⟩
theorem Reads.lies_lt {v:Value} {sz n:Nat} {xs:List Value} (h:Reads w v sz n xs): ∀k∈blkIf n v,k<w.heap.size:=by
 intro k hk;unfold blkIf at hk;split at hk
 ·exact h.lt (by assumption) k hk
 ·simp at hk
theorem zc8 {n:Nat} {v:Value} {k:Nat} (h:k∈blkIf n v):k∈blkOf v:=by unfold blkIf at h;split at h;exact h;simp at h
def imm (Q:World→List Nat→Prop) (dep: ∀ {w w':World} {D:List Nat},Q w D→(∀k∈D,w'.heap[k]?=w.heap[k]?)→w.heap.size≤w'.heap.size→Q w' D):Res where
 M:=[]
 Q:=fun w D=>Q w D∧ ∀k∈D,k<w.heap.size
 dep:=fun ⟨h,e⟩ hk hs=>⟨dep h (fun k hkD=>hk k (.inr hkD)) hs,fun k hk=>Nat.lt_of_lt_of_le (e k hk) hs⟩
 lt:=fun ⟨_,e⟩ k hk=>e k (by simpa using hk)
 sep:=fun _ k hk=>by simp at hk
end
section
variable {r r' s:Res} {w w' W W' w0:World} {A A' N:List Nat} {rs ss:List Res} {B:Nat}
theorem ziv (rs ss:List Res) (k:Nat):k∈Ms (rs++ss)↔k∈Ms rs∨k∈Ms ss:=by simp [Ms]
def joinR (rs:List Res):Res where
 M:=Ms rs
 Q:=fun w D=>(∀r∈rs,∃D',r.Q w D'∧ ∀k∈D',k∈D)∧rs.Pairwise (fun (r s:Res)=> ∀k∈r.M,k∉s.M)∧ ∀k∈D,k<w.heap.size∧k∉Ms rs
 dep:=fun ⟨h1,h2,h3⟩ hk hs=>⟨fun r hr=>by
  obtain ⟨D',q1,q2⟩:=h1 r hr;exact ⟨D',r.dep q1 (fun k hkk=>hk k (hkk.imp (fun h=>zpd hr h) (q2 k))) hs,q2⟩,h2,fun k hkD=>⟨Nat.lt_of_lt_of_le (h3 k hkD).1 hs,(h3 k hkD).2⟩⟩
 lt:=fun ⟨h1,_,h3⟩ k hk=>by
  rcases hk with hk | hk
  ·obtain ⟨r,hr,hk⟩:=(zj9 _ _).1 hk
   obtain ⟨D',q1,_⟩:=h1 r hr;exact r.lt q1 k (.inl hk)
  ·exact (h3 k hk).1
 sep:=fun ⟨_,_,h3⟩ k hk hn=>(h3 k hn).2 hk
theorem Own.open (h:Own B w0 W (joinR rs::ss)):Own B w0 W (rs++ss):=by
 obtain ⟨D,⟨h1,h2,h3⟩,h4,h5⟩:=h.head;have hm: ∀k,k∈Ms (rs++ss)↔k∈Ms (joinR rs::ss):=fun k=>by rw [ziv,zc6];rfl
 have hap:=List.pairwise_cons.1 h.apart;refine ⟨h.below,h.size,fun r hr=> ?_,?_⟩
 ·rcases List.mem_append.1 hr with hr | hr
  ·obtain ⟨D',q1,q2⟩:=h1 r hr
   exact ⟨⟨D',q1,fun k hk hn=>h4 k (q2 k hk) ((hm k).1 hn),fun k hk=>h5 k ((hm k).1 hk)⟩,fun k hk=>(h.all _ List.mem_cons_self).2 k (zpd hr hk)⟩
  ·obtain ⟨q1,q2⟩:=h.all r (List.mem_cons_of_mem _ hr)
   exact ⟨q1.avoid (fun k hk=>(hm k).1 hk),q2⟩
 ·rw [List.pairwise_append]
  exact ⟨h2,hap.2,fun r hr s hs k hk=>hap.1 s hs k (zpd hr hk)⟩
theorem Own.shut (h:Own B w0 W (rs++ss)):Own B w0 W (joinR rs::ss):=by
 have hm: ∀k,k∈Ms (rs++ss)↔k∈Ms (joinR rs::ss):=fun k=>by rw [ziv,zc6];rfl
 obtain ⟨p1,p2,p3⟩:=List.pairwise_append.1 h.apart;have hD: ∀k,k∈(List.range W.heap.size).filter (fun k=>decide (k∉Ms (rs++ss)))↔k<W.heap.size∧k∉Ms (rs++ss):=fun k=>by simp
 refine ⟨h.below,h.size,fun r hr=> ?_,?_⟩
 ·rcases List.mem_cons.1 hr with rfl | hr
  ·refine ⟨⟨_,⟨fun r hr=> ?_,p1,fun k hk=>⟨((hD k).1 hk).1,fun hn=>((hD k).1 hk).2 ((ziv _ _ _).2 (.inl hn))⟩⟩,fun k hk hn=>((hD k).1 hk).2 ((hm k).2 hn),fun k hk=>h.lt k ((hm k).2 hk)⟩,fun k hk=> ?_⟩
   ·obtain ⟨⟨D',q1,q2,q3⟩,_⟩:=h.all r (List.mem_append_left _ hr)
    exact ⟨D',q1,fun k hk=>(hD k).2 ⟨r.lt q1 k (.inr hk),q2 k hk⟩⟩
   ·obtain ⟨s,hs,hk⟩:=(zj9 _ _).1 hk
    exact (h.all s (List.mem_append_left _ hs)).2 k hk
  ·obtain ⟨q1,q2⟩:=h.all r (List.mem_append_right _ hr)
   exact ⟨q1.avoid (fun k hk=>(hm k).2 hk),q2⟩
 ·rw [List.pairwise_cons]
  exact ⟨fun s hs k hk=>by
   obtain ⟨r,hr,hk⟩:=(zj9 _ _).1 hk;exact p3 r hr s hs k hk,p2⟩
theorem zhj {α:Type} (l:List α) (k:Nat) (hk:k<l.length):l.Perm (l[k]::l.eraseIdx k):=by
 conv=>lhs;rw [←List.take_append_drop k l,←List.getElem_cons_drop hk]
 rw [List.eraseIdx_eq_take_drop_succ];exact List.perm_middle
theorem zjj {α:Type} (l:List α) (k:Nat) (hk:k<l.length) (x:α):(l.set k x).Perm (x::l.eraseIdx k):=by
 have h:=zhj (l.set k x) k (by simpa using hk)
 rwa [List.getElem_set_self,List.eraseIdx_set_eq] at h
theorem Own.pick {α:Type} {f:α→Res} {l:List α} {hd:List Res} (h:Own B w0 W (hd++(l.map f++ss))) (k:Nat) (hk:k<l.length):Own B w0 W (f l[k]::(hd++((l.eraseIdx k).map f++ss))):=by
 refine h.perm (List.Perm.trans (List.Perm.append_left hd (List.Perm.append_right ss ((zhj l k hk).map f))) ?_);exact List.perm_middle
theorem Own.unpick {α:Type} {f:α→Res} {l:List α} {hd:List Res} {x:α} (k:Nat) (hk:k<l.length) (h:Own B w0 W (f x::(hd++((l.eraseIdx k).map f++ss)))):Own B w0 W (hd++((l.set k x).map f++ss)):=by
 refine h.perm (List.Perm.trans List.perm_middle.symm ?_);exact List.Perm.append_left hd (List.Perm.append_right ss ((zjj l k hk x).map f).symm)
def redR (v:Value) (sz n:Nat) (xs:List Value):Res:=imm (fun w D=>zat w v sz n xs D) (fun h hk hs=>zat.dep h hk hs)
theorem zf0 {v:Value} {sz n:Nat} {xs:List Value} (h:(redR v sz n xs).At w A):Reads w v sz n xs:=let ⟨_,h,_⟩:=h;h.1.1
theorem Own.red {v:Value} {sz n:Nat} {xs:List Value} (h:Own B w0 W rs) (hr:Reads W v sz n xs) (hk: ∀k∈blkIf n v,k∉Ms rs):Own B w0 W (redR v sz n xs::rs):=
 h.new (Upd.refl [] _) ⟨blkIf n v,⟨hr.lies,Reads.lies_lt hr⟩,hk,fun k hkA=>h.lt k hkA⟩ (by simp [redR,imm])
def segR (b:Nat) (T:TypeId) (vals:List Value):Res where
 M:=[b]
 Q:=fun w D=>(∃cur,w.heap[b]?=some (.cells cur T (0,0))∧vals.length≤cur.size∧ ∀j,j<vals.length→cur[j]?=vals[j]?)∧D=[]
 dep:=fun ⟨⟨cur,h1,h2⟩,e⟩ hk _=>⟨⟨cur,(hk _ (by simp)).trans h1,h2⟩,e⟩
 lt:=fun ⟨⟨cur,h1,h2⟩,e⟩ k hk=>by subst e;simp at hk;subst hk;exact block_lt h1
 sep:=fun ⟨_,e⟩ k _ hn=>by rw [e] at hn;simp at hn
theorem zez {b:Nat} {T:TypeId} {vals:List Value} (h:(segR b T vals).At w A):b<w.heap.size∧(∀j,j<vals.length→w.cell? ⟨b,j,none⟩=vals[j]?)∧ ∀o,w.frozen? ⟨b,o,none⟩=false:=by
 obtain ⟨D,⟨⟨cur,h1,h2,h3⟩,-⟩,-,-⟩:=h;exact ⟨block_lt h1,fun j hj=>by rw [zac h1];exact h3 j hj,zab h1⟩
theorem Own.put {b:Nat} {T:TypeId} {vals:List Value} (h:Own B w0 W (segR b T vals::rs)) (i:Nat) (v:Value):Own B w0 (W.setCell ⟨b,i,none⟩ v) (segR b T (vals.set i v)::rs):=by
 have hu:Upd [b] W (W.setCell ⟨b,i,none⟩ v):=(Upd.refl _ _).setCell (.inl (by simp)) v;obtain ⟨D,⟨⟨cur,h1,h2,h3⟩,rfl⟩,h4,h5⟩:=h.head;refine h.step (r':=segR b T (vals.set i v)) hu ⟨[],⟨⟨cur.setIfInBounds i v,by rw [zde rfl,h1];rfl,by simpa using h2,fun j hj=> ?_⟩,rfl⟩,by simp,fun k hk=>by rw [hs_set];exact h5 k hk⟩ (fun k hk=> .inl hk);have hj:j<vals.length:=by simpa using hj
 by_cases hij:i=j
 ·subst hij
  rw [Array.getElem?_setIfInBounds_self,List.getElem?_set_self hj,if_pos (by omega)]
 ·rw [Array.getElem?_setIfInBounds_ne hij,List.getElem?_set_ne hij]
  exact h3 j hj
def ownR (E sz:Nat) (v:Value) (n:Nat) (xs:List Value):Res where
 M:=blkOf v
 Q:=fun w D=>w.ownsRow 0 E sz v n xs∧D=[]
 dep:=fun {w w' D} ⟨h,e⟩ hk _=>by
  refine ⟨⟨h.1,?_⟩,e⟩;rcases h.2 with hn | ⟨g,cap,cur,rfl,hb,hg,rest⟩
  ·exact .inl hn
  ·exact .inr ⟨g,cap,cur,rfl,hb,by rw [hk g (.inl (by simp [blkOf]))];exact hg,rest⟩
 lt:=fun {w D} ⟨h,e⟩ k hk=>by
  subst e;rcases h.2 with ⟨rfl,_⟩ | ⟨g,cap,cur,rfl,hb,hg,rest⟩
  ·simp [blkOf] at hk
  ·simp [blkOf] at hk;subst hk;exact block_lt hg
 sep:=fun ⟨_,e⟩ k _ hn=>by rw [e] at hn;simp at hn
variable {E sz n m:Nat} {v:Value} {xs ys:List Value}
theorem zam (h:(ownR E sz v n xs).At w A):w.ownsRow 0 E sz v n xs:=let ⟨_,h,_⟩:=h;h.1
theorem zvq {B:Nat} (h:w.ownsRow B E sz v n xs):w.ownsRow 0 E sz v n xs:=⟨h.1,h.2.imp id fun ⟨g,cap,cur,e,_,h⟩=>⟨g,cap,cur,e,Nat.zero_le _,h⟩⟩
theorem Own.row0 (h:Own B w0 W rs):Own B w0 W (ownR E sz (.slice none 0 0) 0 []::rs):=
 h.new (Upd.refl [] _) ⟨[],⟨World.ownsRow_nil _ _ _ _,rfl⟩,by simp,fun k hk=>h.lt k hk⟩ (by simp [ownR,blkOf])
theorem Own.grow {g cap:Nat} (h:Own B w0 W (ownR E sz v n xs::rs)) (hg:W.grownBy W' v.ownBlock) (hat:v.ownBlock=some g∨g=W.heap.size) (ho:W'.ownsRow 0 E sz (.slice (some ⟨g,0,none⟩) m cap) m ys):Own B w0 W' (ownR E sz (.slice (some ⟨g,0,none⟩) m cap) m ys::rs):=by
 have hown:=zam h.head;have hv: ∀k,v.ownBlock=some k→k∈blkOf v:=by
  intro k hk;rcases hown.2 with ⟨rfl,_⟩ | ⟨g',cap',cur,rfl,_⟩
  ·simp [Value.ownBlock] at hk
  ·simp [Value.ownBlock] at hk;subst hk;simp [blkOf]
 have hu:Upd (blkOf v) W W':=(Upd.refl _ _).grown hg (fun k hk=> .inl (hv k hk));refine h.step (r':=ownR E sz (.slice (some ⟨g,0,none⟩) m cap) m ys) hu ⟨[],⟨ho,rfl⟩,by simp,fun k hk=>Nat.lt_of_lt_of_le (h.lt k hk) hu.size⟩ (fun k hk=> ?_);simp [ownR,blkOf] at hk;subst hk;rcases hat with hat | hat
 ·exact .inl (hv _ hat)
 ·exact .inr (by omega)
theorem Own.row1 {W':World} (h:Own B w0 W rs) (hu:Upd [] W W') (ho:W'.ownsRow W.heap.size E sz v n xs):Own B w0 W' (ownR E sz v n xs::rs):=
 h.new hu ⟨[],⟨zvq ho,rfl⟩,by simp,fun k hk=>Nat.lt_of_lt_of_le (h.lt k hk) hu.size⟩ (fun k hk=>by
  rcases ho.2 with ⟨rfl,_⟩ | ⟨g,cap,cur,rfl,hb,_⟩
  ·simp [ownR,blkOf] at hk
  ·simp [ownR,blkOf] at hk;omega)
theorem zmg {g cap:Nat} (h:(ownR E sz (.slice (some ⟨g,0,none⟩) n cap) n xs).At w A):(segR g E xs).At w A:=by
 obtain ⟨D,⟨h1,rfl⟩,h2,h3⟩:=h;rcases h1.2 with ⟨h',_⟩ | ⟨g',cap',cur,h',hb,hg,hnc,hcm,hcs,htake⟩
 ·simp at h'
 ·simp only [Value.slice.injEq,Option.some.injEq,Addr.mk.injEq,and_true,true_and] at h'
  obtain ⟨rfl,rfl⟩:=h';refine ⟨[],⟨⟨cur,hg,by rw [h1.1,hcs];exact Nat.mul_le_mul_right _ hnc,fun j hj=> ?_⟩,rfl⟩,by simp,h3⟩;rw [←htake,List.getElem?_take_of_lt (by rw [h1.1] at hj;exact hj)];simp
end
theorem zfv {α:Type} {cells:α→List Value} {sz:Nat} (hl: ∀x,(cells x).length=sz): ∀(xs:List α) (i r:Nat) (x y:α) (v:Value),xs[i]?=some x→r<sz→cells y=(cells x).set r v→(xs.flatMap cells).set (i*sz+r) v=(xs.set i y).flatMap cells
 | [],i,r,x,y,v,h,_,_=>by simp at h
 | z::xs,0,r,x,y,v,h,hr,hy=>by
  simp at h;subst h;simp only [List.flatMap_cons,List.set_cons_zero,Nat.zero_mul,Nat.zero_add];rw [List.set_append_left _ _ (by rw [hl];exact hr),hy]
 | z::xs,i+1,r,x,y,v,h,hr,hy=>by
  simp only [List.flatMap_cons,List.set_cons_succ];rw [List.set_append_right _ _ (by rw [hl,Nat.succ_mul];omega),hl,show (i+1)*sz+r-sz=i*sz+r by rw [Nat.succ_mul];omega,zfv hl xs i r x y v (by simpa using h) hr hy]
section
variable {r r':Res} {w0 W W':World} {rs:List Res} {B:Nat}
theorem Own.boxAt (h:Own B w0 W rs) (o:Obj) {n:Nat} (hn:W.heap.size=n):Own B w0 (W.alloc o) (blk n o::rs):=by subst hn;exact h.box o
theorem Own.get (h:Own B w0 W rs) (k:Nat) (e:rs[k]?=some r):r.At W (Ms rs):=(h.all r (List.mem_of_getElem? e)).1
theorem Own.blkAt (h:Own B w0 W rs) (k:Nat) {b:Nat} {o:Obj} (e:rs[k]?=some (blk b o)):W.heap[b]?=some o:=Heap.blk_out (h.get k e)
theorem Own.onAt (h:Own B w0 W rs) (k:Nat) (e:rs[k]?=some r) (f: ∀ss,Own B w0 W (r::ss)→Own B w0 W' (r'::ss)):Own B w0 W' (rs.set k r'):=by
 obtain ⟨hk,rfl⟩:=List.getElem?_eq_some_iff.1 e;exact (f _ (h.perm (zhj rs k hk))).perm (zjj rs k hk r').symm
theorem Own.putAt (h:Own B w0 W rs) (k:Nat) {b:Nat} {T:TypeId} {vals:List Value} (e:rs[k]?=some (segR b T vals)) (i:Nat) (v:Value):Own B w0 (W.setCell ⟨b,i,none⟩ v) (rs.set k (segR b T (vals.set i v))):=
 h.onAt k e (fun _ h=>h.put i v)
theorem Own.growAt {E sz n m g cap:Nat} {v:Value} {xs ys:List Value} (h:Own B w0 W rs) (k:Nat) (e:rs[k]?=some (ownR E sz v n xs)) (hg:W.grownBy W' v.ownBlock) (hat:v.ownBlock=some g∨g=W.heap.size) (ho:W'.ownsRow 0 E sz (.slice (some ⟨g,0,none⟩) m cap) m ys):Own B w0 W' (rs.set k (ownR E sz (.slice (some ⟨g,0,none⟩) m cap) m ys)):=
 h.onAt k e (fun _ h=>h.grow hg hat ho)
theorem Own.dropAt (h:Own B w0 W rs) (k:Nat) (hk:k<rs.length):Own B w0 W (rs.eraseIdx k):=(h.perm (zhj rs k hk)).drop
theorem zwn {w w':World} {p o:Nat} (hu:Upd [] w w') (hp:p<w.heap.size):w'.cell? ⟨p,o,none⟩=w.cell? ⟨p,o,none⟩:=World.cell?_of_block (hu.block p hp (by simp))
theorem zw3 {w:World} {b o:Nat} {v:Value} (h:w.cell? ⟨b,o,none⟩=some v):b<w.heap.size:=by
 by_cases hb:b<w.heap.size
 ·exact hb
 ·have:w.heap[b]?=none:=by simp;omega
  simp [World.cell?,this] at h
theorem zay {w:World} {o:Obj} {b i:Nat} {v:Value} (h:w.cell? ⟨b,i,none⟩=some v):(w.alloc o).cell? ⟨b,i,none⟩=some v:=
 (World.cell?_of_block (zed (zw3 h))).trans h
theorem zap {w w':World} {b i:Nat} {v:Value} (hu:Upd [] w w') (h:w.cell? ⟨b,i,none⟩=some v):w'.cell? ⟨b,i,none⟩=some v:=(zwn hu (zw3 h)).trans h
end
theorem zcs {P:Program} {w:World} {ops:Array Oper} {rest:List Oper} {o:Oper} {a:Act} {Q:Exit→Act→World→Prop} (hgd:o.guard=none) (x:Operand) (t:TypeId)
  (ho:o.op= .call {callee:= .builtin .append,args:=#[.const (.slice none 0 0),x],argTypes:=#[t,t]})
  (e:TypeId) (i:TypeInfo) (z:Value) (size bytes:Nat) (ht:P.underlying t=some (.slice e)) (hi:P.info? e=some i) (hz:i.zero=some z)
  (hsize:i.size=size) (hby:i.bytes=bytes) (hzs:z.cells.size=size) (hsz:0<size)
  (v:Value) (n:Nat) (xs:List Value) (hx:a.eval x=v) (hr:Reads w v size n xs) (h1: ∀u∈xs,u.oneCell'=true) (hbytes:n*bytes≤140737488355328)
  (h: ∀v' w',w'.ownsRow w.heap.size e size v' n xs→Upd [] w w'→wpList P ops Q rest (a.put o.dst v') w'):wpList P ops Q (o::rest) a w:=by
 obtain ⟨ao,cap,rfl,hl1,hl2,hl3,hl4,hl5⟩:=hr;cases ao with
 | none=>
  obtain ⟨rfl,rfl⟩:=hl4 rfl;have:xs=[]:=List.eq_nil_of_length_eq_zero (by simpa using hl3);subst this;exact wpList_append_own_none hgd (.const (.slice none 0 0)) x t ho w.heap.size e i size ht hi _ 0 [] rfl (World.ownsRow_nil _ _ _ _) hx (h _ _ (World.ownsRow_nil _ _ _ _) (Upd.refl _ _))
 | some ad=>
  have hnews: ∀j u,xs[j]?=some u→w.cell? (ad.add j)=some u:=by
   intro j u hj;have hlt:=(List.getElem?_eq_some_iff.1 hj).1;have hn:0<n:=by
    rcases Nat.eq_zero_or_pos n with h0 | h0
    ·subst h0;omega
    ·exact h0
   obtain ⟨b,o,hab,hb,hc⟩:=hl5 hn;simp only [Option.some.injEq] at hab;subst hab;have:(⟨b,o,none⟩:Addr).add j=⟨b,o+j,none⟩:=by unfold Addr.add;split<;>simp_all
   rw [this,hc j (by omega)];exact hj
  refine wpList_append_own w hgd (.const (.slice none 0 0)) x t ho w.heap.size e i z size bytes ht hi hz hsize hby hzs hsz (.slice none 0 0) 0 [] rfl (World.ownsRow_nil _ _ _ _) ad n cap xs hx hl3 hnews h1 (by rw [Nat.zero_add];omega) (by rw [Nat.zero_add];exact hbytes) (Nat.le_refl _) ?_;intro v' w' hown hgrow _;rw [Nat.zero_add,List.nil_append] at hown;exact h v' w' hown ((Upd.refl _ _).grown hgrow (by intro k hk;simp [Value.ownBlock] at hk))
end Go.Heap
