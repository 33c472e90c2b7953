/- Parts of the proof, one behind the other. -/
import Derived.Test.YtannckelmojkoaaGreatAgnB3
import Derived.Test.YtannckelmojkoaaGreatRows
import Derived.WalkKit
import Derived.ProofKit
import Derived.OpenShut
import Derived.Carry
set_option maxHeartbeats 32000000
set_option maxRecDepth 100000
set_option linter.unusedVariables false
set_option linter.unusedSimpArgs false
namespace Go.Proofs.YtannckelmojkoaaGreat
open Go.RowKit Go.Heap
structure Sl where
 has:Bool
 batch:List Rq
 ps:List Vt
 cs:List Vt
def noVt:Vt:=⟨false,0,[]⟩
structure SlotAt (w:World) (s bp bc cp cq:Nat) (f:Nat) (st:Sl) (D:List Nat):Prop where
 f1:1≤f
 f2:f≤4
 own: ∃v,w.heap[s]?=some (.cells #[.int .i64 f,.bool st.has,v,.slice (some ⟨bp,0,none⟩) (3*f+1) cp,.slice (some ⟨bc,0,none⟩) (3*f+1) cq] 307 (0,0))∧Bat w v st.batch∧ ∀k∈blkOf v,k∈D
 ps:zbz w bp st.ps D
 cs:zbz w bc st.cs D
 pl:st.ps.length=3*f+1
 cl:st.cs.length=3*f+1
 sp:s≠bp
 sc:s≠bc
 pc:bp≠bc
 Ds:s∉D
 Dp:bp∉D
 Dc:bc∉D
 Dw: ∀k∈D,k<w.heap.size
 small:st.batch.length≤100000∧(∀t∈st.ps,t.batch.length≤100000)∧ ∀t∈st.cs,t.batch.length≤100000
theorem SlotAt.upd {w w':World} {M:List Nat} {s bp bc cp cq f:Nat} {st:Sl} {D:List Nat} (h:SlotAt w s bp bc cp cq f st D) (hu:Upd M w w') (h1:s∉M) (h2:bp∉M) (h3:bc∉M) (hD: ∀k∈D,k∉M):SlotAt w' s bp bc cp cq f st D:=by
 obtain ⟨v,a1,a2,a3⟩:=h.own;exact {h with
  own:=⟨v,by rw [hu.block s (block_lt a1) h1];exact a1,a2.upd hu (fun k hk=>hD k (a3 k hk)),a3⟩
  ps:=h.ps.upd hu h2 hD
  cs:=h.cs.upd hu h3 hD
  Dw:=fun k hk=>Nat.lt_of_lt_of_le (h.Dw k hk) hu.size}
theorem SlotAt.cells {w:World} {s bp bc cp cq f:Nat} {st:Sl} {D:List Nat} (h:SlotAt w s bp bc cp cq f st D):
  ∃ao cap,s<w.heap.size∧bp<w.heap.size∧bc<w.heap.size∧w.cell? ⟨s,0,none⟩=some (.int .i64 f)∧w.cell? ⟨s,1,none⟩=some (.bool st.has)∧w.cell? ⟨s,2,none⟩=some (.slice ao st.batch.length cap)∧
   w.cell? ⟨s,3,none⟩=some (.slice (some ⟨bp,0,none⟩) (3*f+1) cp)∧w.cell? ⟨s,4,none⟩=some (.slice (some ⟨bc,0,none⟩) (3*f+1) cq)∧(∀o,w.frozen? ⟨s,o,none⟩=false)∧
   Bat w (.slice ao st.batch.length cap) st.batch∧(∀k∈blkOf (.slice ao st.batch.length cap),k∈D)∧
   w.heap[s]?=some (.cells #[.int .i64 f,.bool st.has,.slice ao st.batch.length cap,.slice (some ⟨bp,0,none⟩) (3*f+1) cp,.slice (some ⟨bc,0,none⟩) (3*f+1) cq] 307 (0,0)):=by
 obtain ⟨v,a1,a2,a3⟩:=h.own;obtain ⟨ao,cap,rfl⟩:=zb9 a2;obtain ⟨arr,p1,_,_⟩:=h.ps;obtain ⟨arr',c1,_,_⟩:=h.cs;exact ⟨ao,cap,block_lt a1,block_lt p1,block_lt c1,by rw [zab a1];rfl,by rw [zab a1];rfl,by rw [zab a1];rfl,by rw [zab a1];rfl,by rw [zab a1];rfl,zac a1,a2,a3,a1⟩
def zv (n:Nat):Array Value:=madeCells #[.bool false,.int .i64 0,.slice none 0 0] (n*3)
theorem zv_size (n:Nat):(zv n).size=n*3:=by simp [zv,size_madeCells]
theorem zux {w:World} {b n:Nat} {D:List Nat} (h:w.heap[b]?=some (.cells (zv n) 371 (0,0))):zbz w b (List.replicate n noVt) D:=by
 refine ⟨zv n,h,by rw [zv_size,List.length_replicate];exact Nat.le_refl _,fun i t hi=> ?_⟩;have hin:i<n:=by simpa using (List.getElem?_eq_some_iff.1 hi).1
 rw [List.getElem?_replicate,if_pos hin] at hi;cases hi
 have key: ∀j,j<n*3→(zv n)[j]?=some ((#[.bool false,.int .i64 0,.slice none 0 0]:Array Value)[j%3]!):=by
  intro j hj;simp [zv,madeCells,hj]
 refine ⟨.slice none 0 0,?_,?_,?_,Reads.nil _ _,by simp [blkOf]⟩
 ·rw [key _ (by omega),show i*3%3=0 by omega];rfl
 ·rw [key _ (by omega),show (i*3+1)%3=1 by omega];rfl
 ·rw [key _ (by omega),show (i*3+2)%3=2 by omega];rfl
theorem Tryz.infoSv:(Tryz.prog.info? 371).map (fun i=>(i.zero,i.size,i.bytes))=some (some (.agg #[.bool false,.int .i64 0,.slice none 0 0]),3,40):=by kernel_rfl
theorem zjw (f:Nat) (h2:f≤4) (wx:World):(Instr.makeSlice 305 (.int .i64 (3*(f:Int)+1)) (.int .i64 (3*(f:Int)+1))).run Tryz.prog wx= .ok (.slice (some ⟨wx.heap.size,0,none⟩) (3*f+1) (3*f+1)) (wx.alloc (.cells (zv (3*f+1)) 371)):=by
 obtain ⟨i0,hi,hz0,hz1,hz2⟩:=info_parts Tryz.infoSv;have:=run_make (P:=Tryz.prog) wx 305 371 i0 _ Tryz.underlying305 hi hz0 .i64 .i64 (3*(f:Int)+1) (3*(f:Int)+1) (by omega) (by omega) (by rw [hz2];omega) (by omega);rw [show (3*(f:Int)+1).toNat=3*f+1 by omega,hz1] at this;exact this
def zuy (w:World) (s f:Nat) (e:Ending) (w':World):Prop:=
 e= .returned (.tuple #[])∧ ∃bp bc,bp≠bc∧w.heap.size≤bp∧w.heap.size≤bc∧Upd [s] w w'∧
  w'.heap[s]?=some (.cells #[.int .i64 f,.bool false,.slice none 0 0,.slice (some ⟨bp,0,none⟩) (3*f+1) (3*f+1),.slice (some ⟨bc,0,none⟩) (3*f+1) (3*f+1)] 307 (0,0))∧
  w'.heap[bp]?=some (.cells (zv (3*f+1)) 371 (0,0))∧w'.heap[bc]?=some (.cells (zv (3*f+1)) 371 (0,0))
theorem ztr (s:Nat) (f:Nat) (h1:1≤f) (h2:f≤4) (w:World) (a1 a2 a3 a4:Value) (hb:w.heap[s]?=some (.cells #[.int .i64 f,a1,a2,a3,a4] 307 (0,0))):
  Calls Tryz.prog 214 #[.pointer (some ⟨s,0,none⟩)] w (zuy w s f):=by
 have hs:s<w.heap.size:=block_lt hb;have c0:w.cell? ⟨s,0,none⟩=some (.int .i64 f):=by rw [zab hb];rfl
 have c1:w.cell? ⟨s,1,none⟩=some a1:=by rw [zab hb];rfl
 have c2:w.cell? ⟨s,2,none⟩=some a2:=by rw [zab hb];rfl
 have c3:w.cell? ⟨s,3,none⟩=some a3:=by rw [zab hb];rfl
 have c4:w.cell? ⟨s,4,none⟩=some a4:=by rw [zab hb];rfl
 have f1:=zac hb 1;have f2:=zac hb 2;have f3:=zac hb 3;have f4:=zac hb 4;have HB:=zq hb;clear hb;have hmk:=fun wx=>zjw f h2 wx;go_enter Tryz.func214,Tryz.ntmps214
 go_wp2_with fail
 refine (za4 f _ (by omega) (by omega)).mono ?_;rintro e w' ⟨rfl,rfl⟩
 go_wp2_with fail
 go_region
 all_goals go_wp2
 all_goals go_end0
 ·refine ⟨rfl,w.heap.size,w.heap.size+1,by omega,by omega,by omega,?_,?_,?_,?_⟩
  ·exact (((((((Upd.refl _ _).setCell (.inl (by simp)) _).setCell (.inl (by simp)) _).setCell (.inl (by simp)) _).setCell (.inl (by simp)) _).alloc _).alloc _).drew
  ·rw [zie,zps (by simp;omega),zps (by simp;omega),zc5 rfl,zc5 rfl,zc5 rfl,zc5 rfl,HB.out];rfl
  ·rw [zie,zps (by simp),zr6 (by simp)]
  ·rw [zie,zr6 (by simp)]
 ·refine ⟨rfl,w.heap.size+1,w.heap.size,by omega,by omega,by omega,?_,?_,?_,?_⟩
  ·exact (((((((Upd.refl _ _).setCell (.inl (by simp)) _).setCell (.inl (by simp)) _).setCell (.inl (by simp)) _).setCell (.inl (by simp)) _).alloc _).alloc _).drew
  ·rw [zie,zps (by simp;omega),zps (by simp;omega),zc5 rfl,zc5 rfl,zc5 rfl,zc5 rfl,HB.out];rfl
  ·rw [zie,zr6 (by simp)]
  ·rw [zie,zps (by simp),zr6 (by simp)]
def zcb (f:Nat):Sl:=⟨false,[],List.replicate (3*f+1) noVt,List.replicate (3*f+1) noVt⟩
theorem zt2 {w:World} {s bp bc f:Nat} (h1:1≤f) (h2:f≤4) (hs:w.heap[s]?=some (.cells #[.int .i64 f,.bool false,.slice none 0 0,.slice (some ⟨bp,0,none⟩) (3*f+1) (3*f+1),.slice (some ⟨bc,0,none⟩) (3*f+1) (3*f+1)] 307 (0,0)))
  (hp:w.heap[bp]?=some (.cells (zv (3*f+1)) 371 (0,0))) (hc:w.heap[bc]?=some (.cells (zv (3*f+1)) 371 (0,0))) (e1:s≠bp) (e2:s≠bc) (e3:bp≠bc):SlotAt w s bp bc (3*f+1) (3*f+1) f (zcb f) [] where
 f1:=h1
 f2:=h2
 own:=⟨_,hs,Reads.nil _ _,by simp [blkOf]⟩
 ps:=zux hp
 cs:=zux hc
 pl:=by simp [zcb]
 cl:=by simp [zcb]
 sp:=e1
 sc:=e2
 pc:=e3
 Ds:=by simp
 Dp:=by simp
 Dc:=by simp
 Dw:=by simp
 small:=by
  refine ⟨by simp [zcb],?_,?_⟩
  ·intro t ht;simp [zcb] at ht;simp [ht,noVt]
  ·intro t ht;simp [zcb] at ht;simp [ht,noVt]
theorem slot_new (f:Nat) (h1:1≤f) (h2:f≤4) (w:World):
  Calls Tryz.prog 151 #[.int .i64 f] w fun e w'=> ∃s bp bc,e= .returned (.tuple #[.pointer (some ⟨s,0,none⟩),.int .i64 0])∧Upd [] w w'∧w.heap.size≤s∧w.heap.size≤bp∧w.heap.size≤bc∧SlotAt w' s bp bc (3*f+1) (3*f+1) f (zcb f) []:=by
 go_enter Tryz.func151,Tryz.ntmps151
 go_wp2_with fail
 refine (ztr w.heap.size f h1 h2 _ _ _ _ _ (heap_alloc_new w _)).mono ?_;rintro e w1 ⟨rfl,bp,bc,e1,e2,e3,e4,e5,e6,e7⟩;simp only [zbn] at e2 e3;have E5:=zq e5;have E6:=zq e6;have E7:=zq e7;clear e5 e6 e7
 go_wp2_with fail
 go_ret2
 exact ⟨w.heap.size,bp,bc,rfl,((Upd.refl _ _).alloc _).then e4 (by intro i hi;simp at hi;omega),Nat.le_refl _,by omega,by omega,zt2 h1 h2 E5.out E6.out E7.out (by omega) (by omega) e1⟩
theorem zxd {w1 w2:World} {s bp bc cp cq f W:Nat} {st:Sl} {D:List Nat} {ao':Option Addr} {rs:List Rq} {cap':Nat} {v:Value} (h:SlotAt w1 s bp bc cp cq f st D)
  (hw2:w2=(w1.setCell ⟨s,1,none⟩ (.bool true)).setCell ⟨s,2,none⟩ (.slice ao' rs.length cap'))
  (own:w1.heap[s]?=some (.cells #[.int .i64 f,.bool st.has,v,.slice (some ⟨bp,0,none⟩) (3*f+1) cp,.slice (some ⟨bc,0,none⟩) (3*f+1) cq] 307 (0,0)))
  (hb:Bat w1 (.slice ao' rs.length cap') rs) (hn: ∀k∈blkOf (.slice ao' rs.length cap'),W≤k∧k<w1.heap.size) (l1:s<W) (l2:bp<W) (l3:bc<W) (hl:rs.length≤100000):
  SlotAt w2 s bp bc cp cq f {st with has:=true,batch:=rs} (blkOf (.slice ao' rs.length cap')++D):=by
 have HU:Upd [s] w1 w2:=by rw [hw2];exact ((Upd.refl _ _).setCell (.inl (by simp)) _).setCell (.inl (by simp)) _
 have hbs: ∀b∈blkOf (.slice ao' rs.length cap'),b∉[s]:=by
  intro b hb e;have:=hn b hb;simp at e;omega
 have hDs: ∀k∈D,k∉[s]:=fun k hk e=>by
  simp at e;subst e;exact h.Ds hk
 have hD': ∀x,x<W→x∉D→x∉blkOf (.slice ao' rs.length cap')++D:=by
  intro x hx hxD hin;rcases List.mem_append.1 hin with h1 | h1
  ·have:=hn x h1;omega
  ·exact hxD h1
 have ps:=h.ps.upd HU (by simp;exact fun e=>h.sp e.symm) hDs;have cs:=h.cs.upd HU (by simp;exact fun e=>h.sc e.symm) hDs;have wid: ∀ {b:Nat} {vs:List Vt},zbz w2 b vs D→zbz w2 b vs (blkOf (.slice ao' rs.length cap')++D):=by
  intro b vs ⟨arr,a1,a2,a3⟩;refine ⟨arr,a1,a2,fun i t hi=> ?_⟩;obtain ⟨v,c1,c2,c3,c4,c5⟩:=a3 i t hi;exact ⟨v,c1,c2,c3,c4,fun k hk=>List.mem_append_right _ (c5 k hk)⟩
 exact {
  f1:=h.f1
  f2:=h.f2
  own:=⟨.slice ao' rs.length cap',by rw [hw2,zc5 rfl,zc5 rfl,own];rfl,hb.upd HU hbs,fun k hk=>List.mem_append_left _ hk⟩
  ps:=wid ps
  cs:=wid cs
  pl:=h.pl
  cl:=h.cl
  sp:=h.sp
  sc:=h.sc
  pc:=h.pc
  Ds:=hD' s l1 h.Ds
  Dp:=hD' bp l2 h.Dp
  Dc:=hD' bc l3 h.Dc
  Dw:=by
   intro k hk;have hs:=HU.size;rcases List.mem_append.1 hk with h1 | h1
   ·have:=hn k h1;omega
   ·have:=h.Dw k h1;omega
  small:=⟨hl,h.small.2⟩}
theorem slot_pre {w:World} {s bp bc cp cq f:Nat} {st:Sl} {D:List Nat} (h:SlotAt w s bp bc cp cq f st D) (v:Value) (rs:List Rq) (hb:Bat w v rs) (hn:rs.length≤100000):
  Calls Tryz.prog 217 #[.pointer (some ⟨s,0,none⟩),v] w fun e w'=>e= .returned (.bool (!st.has))∧Upd [s] w w'∧ ∃D',(∀k∈D',k∈D∨w.heap.size≤k)∧
   SlotAt w' s bp bc cp cq f (if st.has then st else {st with has:=true,batch:=rs}) D':=by
 have H:=zq h;obtain ⟨ao,cap,l1,l2,l3,c0,c1,c2,c3,c4,fz,b1,b2,own⟩:=h.cells;have B1:=zq b1;have OWN:=zq own;have HB:=zq hb;have fz1:=fz 1;have fz2:=fz 2;clear b1 own hb fz;cases hhas:st.has with
 | true=>
  rw [hhas] at c1;clear hhas;go_enter Tryz.func217,Tryz.ntmps217
  go_wp2_with fail
  go_ret
  exact ⟨rfl,Upd.refl _ _,D,fun k hk=> .inl hk,by simpa using H.out⟩
 | false=>
  rw [hhas] at c1;have HH:=zq hhas;clear hhas;go_enter Tryz.func217,Tryz.ntmps217
  go_wp2_with fail
  refine (zgj v rs _ hn HB.out).mono ?_;rintro e w1 ⟨v',rfl,hu,hbat,hnew⟩;obtain ⟨ao',cap',rfl⟩:=zb9 hbat;have HBAT:=zq hbat;clear hbat;have k1:=(hu.cell (o:=1) l1 (by simp)).trans c1;have k2:=(hu.cell (o:=2) l1 (by simp)).trans c2;have g1:=(hu.frozen (o:=1) l1 (by simp)).trans fz1;have g2:=(hu.frozen (o:=2) l1 (by simp)).trans fz2;have OWN1:=zq ((hu.block s l1 (by simp)).trans OWN.out);have H1:=zq (H.out.upd hu (by simp) (by simp) (by simp) (by simp));have hsz:=hu.size;clear c0 c1 c2 c3 c4 fz1 fz2
  go_wp2_with fail
  go_ret
  have HU:Upd [s] w1 ((w1.setCell ⟨s,1,none⟩ (.bool true)).setCell ⟨s,2,none⟩ (.slice ao' rs.length cap')):=((Upd.refl _ _).setCell (.inl (by simp)) _).setCell (.inl (by simp)) _;have H2:=H1.out;have hnD: ∀k∈blkOf (.slice ao' rs.length cap'),w.heap.size≤k:=fun k hk=>(hnew k hk).1;refine ⟨rfl,(hu.mono (by simp)).trans HU,blkOf (.slice ao' rs.length cap')++D,?_,?_⟩
  ·intro k hk
   rcases List.mem_append.1 hk with hk | hk
   ·exact .inr (hnD k hk)
   ·exact .inl hk
  ·exact zxd H2 rfl OWN1.out HBAT.out hnew l1 l2 l3 hn
theorem zgs {w:World} {s bp bc cp cq f:Nat} {st:Sl} {D:List Nat} (h:SlotAt w s bp bc cp cq f st D) (kind:Int):
  Calls Tryz.prog 287 #[.pointer (some ⟨s,0,none⟩),.int .i64 kind] w fun e w'=>
   e= .returned (if kind=4 then .slice (some ⟨bp,0,none⟩) (3*f+1) cp else if kind=5 then .slice (some ⟨bc,0,none⟩) (3*f+1) cq else .slice none 0 0)∧w=w':=by
 obtain ⟨ao,cap,l1,l2,l3,c0,c1,c2,c3,c4,fz,b1,b2,own⟩:=h.cells;clear b1 own fz b2;by_cases h4:kind=4
 ·subst h4
  go_enter Tryz.func287,Tryz.ntmps287
  go_wp2_with fail
  go_ret
  exact ⟨rfl,rfl⟩
 ·by_cases h5:kind=5
  ·subst h5
   go_enter Tryz.func287,Tryz.ntmps287
   go_wp2_with fail
   go_ret
   exact ⟨rfl,rfl⟩
  ·have h4b:(kind==4)=false:=by simp [h4]
   have h5b:(kind==5)=false:=by simp [h5]
   have H4:=zq h4;have H5:=zq h5;clear h4 h5;go_enter Tryz.func287,Tryz.ntmps287
   go_wp2_with fail
   go_ret
   exact ⟨rfl,rfl⟩
def openB (l:List Vt) (node:Int):Bool:=decide (0≤node)&&match l[node.toNat]? with | some t=> !t.has | none=>false
def zsb (st:Sl) (kind:Int):List Vt:=if kind=4 then st.ps else if kind=5 then st.cs else []
def zdj (st:Sl) (kind node:Int):Bool:=openB (zsb st kind) node
def voteS (st:Sl) (kind node sl:Int) (rs:List Rq):Sl:=
 if zdj st kind node then
  if kind=4 then {st with ps:=st.ps.set node.toNat ⟨true,sl,rs⟩} else {st with cs:=st.cs.set node.toNat ⟨true,sl,rs⟩}
 else st
theorem zo7 {w w2:World} {b:Nat} {vs:List Vt} {D:List Nat} {i:Nat} {sl:Int} {v':Value} {rs:List Rq} (h:zbz w b vs D)
  (hw2:w2=((w.setCell ⟨b,i*3,none⟩ (.bool true)).setCell ⟨b,i*3+1,none⟩ (.int .i64 sl)).setCell ⟨b,i*3+2,none⟩ v') (hi:i<vs.length) (hb:Bat w v' rs) (hv:b∉blkOf v') (hD:b∉D):
  zbz w2 b (vs.set i ⟨true,sl,rs⟩) (blkOf v'++D):=by
 have HU:Upd [b] w w2:=by rw [hw2];exact (((Upd.refl _ _).setCell (.inl (by simp)) _).setCell (.inl (by simp)) _).setCell (.inl (by simp)) _
 obtain ⟨arr,a1,a2,a3⟩:=h;refine ⟨((arr.setIfInBounds (i*3) (.bool true)).setIfInBounds (i*3+1) (.int .i64 sl)).setIfInBounds (i*3+2) v',?_,by simpa using a2,fun j t hj=> ?_⟩
 ·rw [hw2,zc5 rfl,zc5 rfl,zc5 rfl,a1];rfl
 ·have hjl:j<vs.length:=by simpa using (List.getElem?_eq_some_iff.1 hj).1
  by_cases hji:j=i
  ·subst hji
   rw [List.getElem?_set_self hjl] at hj;cases hj
   refine ⟨v',?_,?_,?_,hb.upd HU (by intro k hk e;simp at e;subst e;exact hv hk),fun k hk=>List.mem_append_left _ hk⟩
   ·rw [Array.getElem?_setIfInBounds_ne (by omega),Array.getElem?_setIfInBounds_ne (by omega),Array.getElem?_setIfInBounds_self,if_pos (by omega)]
   ·rw [Array.getElem?_setIfInBounds_ne (by omega),Array.getElem?_setIfInBounds_self,if_pos (by simp;omega)]
   ·rw [Array.getElem?_setIfInBounds_self,if_pos (by simp;omega)]
  ·rw [List.getElem?_set_ne (Ne.symm hji)] at hj
   obtain ⟨v,c1,c2,c3,c4,c5⟩:=a3 j t hj;refine ⟨v,?_,?_,?_,c4.upd HU (by intro k hk e;simp at e;subst e;exact hD (c5 k hk)),fun k hk=>List.mem_append_right _ (c5 k hk)⟩
   ·rw [Array.getElem?_setIfInBounds_ne (by omega),Array.getElem?_setIfInBounds_ne (by omega),Array.getElem?_setIfInBounds_ne (by omega)];exact c1
   ·rw [Array.getElem?_setIfInBounds_ne (by omega),Array.getElem?_setIfInBounds_ne (by omega),Array.getElem?_setIfInBounds_ne (by omega)];exact c2
   ·rw [Array.getElem?_setIfInBounds_ne (by omega),Array.getElem?_setIfInBounds_ne (by omega),Array.getElem?_setIfInBounds_ne (by omega)];exact c3
def Stored (w w':World) (b i:Nat) (sl:Int) (rs:List Rq):Prop:=
 ∃w1 ao cap,Upd [] w w1∧Bat w1 (.slice ao rs.length cap) rs∧(∀k∈blkOf (.slice ao rs.length cap),w.heap.size≤k∧k<w1.heap.size)∧
  w'=((w1.setCell ⟨b,i*3,none⟩ (.bool true)).setCell ⟨b,i*3+1,none⟩ (.int .i64 sl)).setCell ⟨b,i*3+2,none⟩ (.slice ao rs.length cap)
theorem vote_yes {w:World} {s bp bc cp cq f:Nat} {st:Sl} {D:List Nat} (h:SlotAt w s bp bc cp cq f st D) (kind:Int) (node:Nat) (sl:Int) (v:Value) (rs:List Rq) (b cb:Nat) (l:List Vt) (hl:l.length=3*f+1)
  (hk:(if kind=4 then .slice (some ⟨bp,0,none⟩) (3*f+1) cp else if kind=5 then .slice (some ⟨bc,0,none⟩) (3*f+1) cq else .slice none 0 0:Value)= .slice (some ⟨b,0,none⟩) (3*f+1) cb)
  (hv:zbz w b l D) (t:Vt) (ht:l[node]?=some t) (hhas:t.has=false) (hb:Bat w v rs) (hn:rs.length≤100000):
  Calls Tryz.prog 264 #[.pointer (some ⟨s,0,none⟩),.int .i64 kind,.int .i64 node,.int .i64 sl,v] w fun e w'=>e= .returned (.bool true)∧Stored w w' b node sl rs:=by
 have HB:=zq hb;obtain ⟨bv,c0,c1,c2,_,hbw,_,fz⟩:=hv.cells node t ht;rw [hhas] at c0;have H:=zq h;have hf2:=h.f2;have hnl:node<3*f+1:=by rw [←hl];exact (List.getElem?_eq_some_iff.1 ht).1
 have q0:=fz (node*3);have q1:=fz (node*3+1);have q2:=fz (node*3+2);have HK:=zq hk;clear hb hk ht hhas fz hl hv h;have i1: ¬(node:Int)<0:=by omega
 have i2:(node:Int)<3*(f:Int)+1:=by omega
 have i3: ¬((3*f+1:Nat):Int)≤(node:Int):=by omega
 go_enter Tryz.func264,Tryz.ntmps264
 go_wp2_with fail
 refine (zgs H.out kind).mono ?_;rw [HK.out];rintro e w' ⟨rfl,rfl⟩
 go_wp2_with fail
 refine (zgj v rs _ hn HB.out).mono ?_;rintro e w1 ⟨v',rfl,hu,hbat,hnew⟩;obtain ⟨ao',cap',rfl⟩:=zb9 hbat;have HBAT:=zq hbat;clear hbat;have k0:=(hu.cell (o:=node*3) hbw (by simp)).trans c0;have k1:=(hu.cell (o:=node*3+1) hbw (by simp)).trans c1;have k2:=(hu.cell (o:=node*3+2) hbw (by simp)).trans c2;have g0:=(hu.frozen (o:=node*3) hbw (by simp)).trans q0;have g1:=(hu.frozen (o:=node*3+1) hbw (by simp)).trans q1;have g2:=(hu.frozen (o:=node*3+2) hbw (by simp)).trans q2;have HNEW:=zq hnew;clear c0 c1 c2 q0 q1 q2 hnew
 go_wp2_with fail
 go_ret
 exact ⟨rfl,w1,ao',cap',hu,HBAT.out,HNEW.out,rfl⟩
theorem zul {w:World} {s bp bc cp cq f:Nat} {st:Sl} {D:List Nat} (h:SlotAt w s bp bc cp cq f st D) (kind node sl:Int) (v:Value) (ao:Option Addr) (n cb:Nat)
  (hk:(if kind=4 then .slice (some ⟨bp,0,none⟩) (3*f+1) cp else if kind=5 then .slice (some ⟨bc,0,none⟩) (3*f+1) cq else .slice none 0 0:Value)= .slice ao n cb)
  (ho:node<0∨(n:Int)≤node):
  Calls Tryz.prog 264 #[.pointer (some ⟨s,0,none⟩),.int .i64 kind,.int .i64 node,.int .i64 sl,v] w fun e w'=>e= .returned (.bool false)∧w=w':=by
 have H:=zq h;have HK:=zq hk;clear hk h;rcases ho with ho | ho
 ·go_enter Tryz.func264,Tryz.ntmps264
  go_wp2_with fail
  refine (zgs H.out kind).mono ?_;rw [HK.out];rintro e w' ⟨rfl,rfl⟩
  go_wp2_with fail
  go_ret
  exact ⟨rfl,rfl⟩
 ·have h0: ¬node<0:=by omega
  go_enter Tryz.func264,Tryz.ntmps264
  go_wp2_with fail
  refine (zgs H.out kind).mono ?_;rw [HK.out];rintro e w' ⟨rfl,rfl⟩
  go_wp2_with fail
  go_ret
  exact ⟨rfl,rfl⟩
theorem vote_has {w:World} {s bp bc cp cq f:Nat} {st:Sl} {D:List Nat} (h:SlotAt w s bp bc cp cq f st D) (kind:Int) (node:Nat) (sl:Int) (v:Value) (b cb:Nat) (l:List Vt) (hl:l.length=3*f+1)
  (hk:(if kind=4 then .slice (some ⟨bp,0,none⟩) (3*f+1) cp else if kind=5 then .slice (some ⟨bc,0,none⟩) (3*f+1) cq else .slice none 0 0:Value)= .slice (some ⟨b,0,none⟩) (3*f+1) cb)
  (hv:zbz w b l D) (t:Vt) (ht:l[node]?=some t) (hhas:t.has=true):
  Calls Tryz.prog 264 #[.pointer (some ⟨s,0,none⟩),.int .i64 kind,.int .i64 node,.int .i64 sl,v] w fun e w'=>e= .returned (.bool false)∧w=w':=by
 obtain ⟨bv,c0,c1,c2,_,hbw,_,fz⟩:=hv.cells node t ht;rw [hhas] at c0;have H:=zq h;have hf2:=h.f2;have hnl:node<3*f+1:=by rw [←hl];exact (List.getElem?_eq_some_iff.1 ht).1
 have HK:=zq hk;clear hk ht hhas fz hl hv h;have i1: ¬(node:Int)<0:=by omega
 have i2:(node:Int)<3*(f:Int)+1:=by omega
 have i3: ¬((3*f+1:Nat):Int)≤(node:Int):=by omega
 go_enter Tryz.func264,Tryz.ntmps264
 go_wp2_with fail
 refine (zgs H.out kind).mono ?_;rw [HK.out];rintro e w' ⟨rfl,rfl⟩
 go_wp2_with fail
 go_ret
 exact ⟨rfl,rfl⟩
def zi1 (w:World) (s bp bc cp cq f:Nat) (st:Sl) (D:List Nat) (kind node sl:Int) (rs:List Rq) (e:Ending) (w':World):Prop:=
 e= .returned (.bool (zdj st kind node))∧Upd [bp,bc] w w'∧ ∃D',(∀k∈D',k∈D∨w.heap.size≤k)∧SlotAt w' s bp bc cp cq f (voteS st kind node sl rs) D'
theorem zqs {w:World} {s bp bc cp cq f:Nat} {st:Sl} {D:List Nat} (h:SlotAt w s bp bc cp cq f st D) {kind node sl:Int} {rs:List Rq} (hc:zdj st kind node=false):zi1 w s bp bc cp cq f st D kind node sl rs (.returned (.bool false)) w:=
 ⟨by rw [hc],Upd.refl _ _,D,fun k hk=> .inl hk,by unfold voteS;rw [hc];exact h⟩
theorem zlz {w:World} {b:Nat} {vs:List Vt} {D E:List Nat} (h:zbz w b vs D):zbz w b vs (E++D):=by
 obtain ⟨arr,a1,a2,a3⟩:=h;refine ⟨arr,a1,a2,fun i t hi=> ?_⟩;obtain ⟨v,c1,c2,c3,c4,c5⟩:=a3 i t hi;exact ⟨v,c1,c2,c3,c4,fun k hk=>List.mem_append_right _ (c5 k hk)⟩
theorem znh {w w':World} {s bp bc cp cq f:Nat} {st:Sl} {D:List Nat} (h:SlotAt w s bp bc cp cq f st D) {kind sl:Int} {node:Nat} {rs:List Rq} {b:Nat} (hc:zdj st kind node=true) (hn:rs.length≤100000)
  (hb:kind=4∧b=bp∨kind=5∧b=bc) (hnode:node<3*f+1) (hs:Stored w w' b node sl rs):zi1 w s bp bc cp cq f st D kind node sl rs (.returned (.bool true)) w':=by
 obtain ⟨w1,ao,cap,hu,hbat,hnew,hw'⟩:=hs;obtain ⟨_,_,l1,l2,l3,_⟩:=h.cells;have h1:=h.upd hu (by simp) (by simp) (by simp) (by simp);have HU:Upd [b] w1 w':=by rw [hw'];exact (((Upd.refl _ _).setCell (.inl (by simp)) _).setCell (.inl (by simp)) _).setCell (.inl (by simp)) _
 have hsz:=HU.size;have hbl: ∀x,x<w.heap.size→x∉blkOf (.slice ao rs.length cap):=fun x hx hin=>by have:=hnew x hin;omega
 have hbD:b∉D:=by
  rcases hb with ⟨_,e⟩ | ⟨_,e⟩
  ·rw [e];exact h.Dp
  ·rw [e];exact h.Dc
 have hbw:b<w.heap.size:=by
  rcases hb with ⟨_,e⟩ | ⟨_,e⟩
  ·rw [e];exact l2
  ·rw [e];exact l3
 have hDb: ∀k∈D,k∉[b]:=fun k hk e=>by simp at e;subst e;exact hbD hk
 have hbb: ∀k∈blkOf (.slice ao rs.length cap),k∉[b]:=fun k hk e=>by simp at e;subst e;exact hbl _ hbw hk
 obtain ⟨v0,o1,o2,o3⟩:=h1.own;have hsb:s≠b:=by
  rcases hb with ⟨_,e⟩ | ⟨_,e⟩
  ·rw [e];exact h.sp
  ·rw [e];exact h.sc
 have own': ∃v,w'.heap[s]?=some (.cells #[.int .i64 f,.bool st.has,v,.slice (some ⟨bp,0,none⟩) (3*f+1) cp,.slice (some ⟨bc,0,none⟩) (3*f+1) cq] 307 (0,0))∧Bat w' v st.batch∧ ∀k∈blkOf v,k∈blkOf (.slice ao rs.length cap)++D:=
  ⟨v0,by rw [HU.block s (block_lt o1) (by simpa using hsb)];exact o1,o2.upd HU (fun k hk=>hDb k (o3 k hk)),fun k hk=>List.mem_append_right _ (o3 k hk)⟩
 have hD': ∀x,x<w.heap.size→x∉D→x∉blkOf (.slice ao rs.length cap)++D:=by
  intro x hx hxD hin;rcases List.mem_append.1 hin with h1 | h1
  ·exact hbl x hx h1
  ·exact hxD h1
 have hDw: ∀k∈blkOf (.slice ao rs.length cap)++D,k<w'.heap.size:=by
  intro k hk;rcases List.mem_append.1 hk with h2 | h2
  ·have:=hnew k h2;omega
  ·have:=h1.Dw k h2;omega
 refine ⟨by rw [hc],(hu.mono (by simp)).trans (HU.mono (by intro k _ hk;simp at hk;subst hk;rcases hb with ⟨_,e⟩ | ⟨_,e⟩<;>simp [e])),blkOf (.slice ao rs.length cap)++D,?_,?_⟩
 ·intro k hk
  rcases List.mem_append.1 hk with hk | hk
  ·exact .inr (hnew k hk).1
  ·exact .inl hk
 ·unfold voteS
  rw [hc,if_pos rfl,Int.toNat_natCast];rcases hb with ⟨rfl,rfl⟩ | ⟨rfl,rfl⟩
  ·rw [if_pos rfl]
   exact {
    f1:=h.f1,f2:=h.f2,own:=own',sp:=h.sp,sc:=h.sc,pc:=h.pc
    ps:=zo7 h1.ps hw' (by rw [h.pl];exact hnode) hbat (hbl _ l2) h.Dp
    cs:=zlz (h1.cs.upd HU (by simpa using Ne.symm h.pc) hDb)
    pl:=by simpa using h.pl
    cl:=h.cl
    Ds:=hD' s l1 h.Ds,Dp:=hD' _ l2 h.Dp,Dc:=hD' _ l3 h.Dc,Dw:=hDw
    small:=⟨h.small.1,fun t ht=>by
     rcases List.mem_or_eq_of_mem_set ht with h2 | h2
     ·exact h.small.2.1 t h2
     ·rw [h2];exact hn,h.small.2.2⟩}
  ·rw [if_neg (by omega)]
   exact {
    f1:=h.f1,f2:=h.f2,own:=own',sp:=h.sp,sc:=h.sc,pc:=h.pc
    ps:=zlz (h1.ps.upd HU (by simpa using h.pc) hDb)
    cs:=zo7 h1.cs hw' (by rw [h.cl];exact hnode) hbat (hbl _ l3) h.Dc
    pl:=h.pl
    cl:=by simpa using h.cl
    Ds:=hD' s l1 h.Ds,Dp:=hD' _ l2 h.Dp,Dc:=hD' _ l3 h.Dc,Dw:=hDw
    small:=⟨h.small.1,h.small.2.1,fun t ht=>by
     rcases List.mem_or_eq_of_mem_set ht with h2 | h2
     ·exact h.small.2.2 t h2
     ·rw [h2];exact hn⟩}
theorem zxc {w:World} {s bp bc cp cq f:Nat} {st:Sl} {D:List Nat} (h:SlotAt w s bp bc cp cq f st D) (kind node sl:Int) (v:Value) (rs:List Rq) (hb:Bat w v rs) (hn:rs.length≤100000):
  Calls Tryz.prog 264 #[.pointer (some ⟨s,0,none⟩),.int .i64 kind,.int .i64 node,.int .i64 sl,v] w (zi1 w s bp bc cp cq f st D kind node sl rs):=by
 have nope: ∀ {e:Ending} {w':World},zdj st kind node=false→e= .returned (.bool false)∧w=w'→zi1 w s bp bc cp cq f st D kind node sl rs e w':=by
  rintro e w' hc ⟨rfl,rfl⟩;exact zqs h hc
 by_cases hk:kind=4∨kind=5
 ·obtain ⟨b, cb, l, hl, hkv, hvv, hlist, hbb⟩ : ∃ (b cb : Nat) (l : List Vt), l.length = 3 * f + 1 ∧ (if kind = 4 then .slice (some ⟨bp, 0, none⟩) (3 * f + 1) cp else if kind = 5 then .slice (some ⟨bc, 0, none⟩) (3 * f + 1) cq else .slice none 0 0 : Value) = .slice (some ⟨b, 0, none⟩) (3 * f + 1) cb ∧
      zbz w b l D∧zsb st kind=l∧(kind=4∧b=bp∨kind=5∧b=bc):=by
   rcases hk with rfl | rfl
   ·exact ⟨bp,cp,st.ps,h.pl,by rw [if_pos rfl],h.ps,by simp [zsb],.inl ⟨rfl,rfl⟩⟩
   ·exact ⟨bc,cq,st.cs,h.cl,by rw [if_neg (by omega),if_pos rfl],h.cs,by simp [zsb],.inr ⟨rfl,rfl⟩⟩
  by_cases hin:0≤node∧node<3*(f:Int)+1
  ·obtain ⟨i,rfl⟩:=Int.eq_ofNat_of_zero_le hin.1
   have hil:i<l.length:=by omega
   have hget:l[i]?=some l[i]:=List.getElem?_eq_getElem hil;by_cases hhas:l[i].has=true
   ·refine (vote_has h kind i sl v b cb l hl hkv hvv _ hget hhas).mono fun e w'=>nope ?_
    simp [zdj,openB,hlist,hget,hhas]
   ·have hhas':l[i].has=false:=by simpa using hhas
    refine (vote_yes h kind i sl v rs b cb l hl hkv hvv _ hget hhas' hb hn).mono fun e w' ⟨he,hst⟩=> ?_;subst he;exact znh h (by simp [zdj,openB,hlist,hget,hhas']) hn hbb (by omega) hst
  ·refine (zul h kind node sl v _ _ _ hkv (by omega)).mono fun e w'=>nope ?_
   unfold zdj openB;rw [hlist];by_cases h0:0≤node
   ·rw [List.getElem?_eq_none (by omega)];simp
   ·simp [h0]
 ·have h4: ¬kind=4:=fun e=>hk (.inl e)
  have h5: ¬kind=5:=fun e=>hk (.inr e);refine (zul h kind node sl v none 0 0 (by rw [if_neg h4,if_neg h5]) (by omega)).mono fun e w'=>nope ?_;simp [zdj,openB,zsb,h4,h5]
def zbj (st:Sl):List Rq:=if st.has then st.batch else []
theorem zqj {w:World} {s bp bc cp cq f:Nat} {st:Sl} {D:List Nat} (h:SlotAt w s bp bc cp cq f st D):
  Calls Tryz.prog 215 #[.pointer (some ⟨s,0,none⟩)] w fun e w'=> ∃u,e= .returned (.tuple #[u,.bool st.has])∧Upd [] w w'∧Bat w' u (zbj st)∧ ∀k∈blkOf u,w.heap.size≤k∧k<w'.heap.size:=by
 have H:=zq h;obtain ⟨ao,cap,l1,l2,l3,c0,c1,c2,c3,c4,fz,b1,b2,own⟩:=h.cells;have B1:=zq b1;clear b1 own fz b2 h;unfold zbj;cases hhas:st.has with
 | false=>
  rw [hhas] at c1;clear hhas;go_enter Tryz.func215,Tryz.ntmps215
  go_wp2_with fail
  go_ret2
  exact ⟨_,rfl,Upd.refl _ _,Reads.nil _ _,by simp [blkOf]⟩
 | true=>
  rw [hhas] at c1;clear hhas;go_enter Tryz.func215,Tryz.ntmps215
  go_wp2_with fail
  refine (zgj _ st.batch _ H.out.small.1 B1.out).mono ?_;rintro e w1 ⟨v',rfl,hu,hbat,hnew⟩;have HBAT:=zq hbat;have HNEW:=zq hnew;clear hbat hnew
  go_wp2_with fail
  go_ret2
  exact ⟨_,rfl,hu,HBAT.out,HNEW.out⟩
def zbi (f:Nat) (st:Sl):Option Vs:=if st.has then zb5 st.ps st.batch (2*f+1) else none
theorem zli {w:World} {s bp bc cp cq f:Nat} {st:Sl} {D:List Nat} (h:SlotAt w s bp bc cp cq f st D):
  Calls Tryz.prog 280 #[.pointer (some ⟨s,0,none⟩)] w fun e w'=> ∃u,e= .returned (.tuple #[u,.bool (zbi f st).isSome])∧Below w.heap.size w w'∧Vts w' u ((zbi f st).getD [])∧ ∀k∈blkOf u,w.heap.size≤k:=by
 have H:=zq h;obtain ⟨ao,cap,l1,l2,l3,c0,c1,c2,c3,c4,fz,b1,b2,own⟩:=h.cells;have B1:=zq b1;have hpl:=h.pl;have HPL:=zq hpl;clear b1 own fz b2 h hpl;unfold zbi;cases hhas:st.has with
 | false=>
  rw [hhas] at c1;clear hhas;go_enter Tryz.func280,Tryz.ntmps280
  go_wp2_with fail
  go_ret2
  exact ⟨_,rfl,Below.refl _ _,Reads.nil _ _,by simp [blkOf]⟩
 | true=>
  rw [hhas] at c1;clear hhas;go_enter Tryz.func280,Tryz.ntmps280
  go_wp2_with fail
  refine Mix.wp_text (by kernel_rfl) (by kernel_rfl) ?_
  go_wp2_with fail
  have hen:=zkg s bp cp (.slice ao st.batch.length cap) f st.ps D st.batch w.drew H.out.f1 H.out.f2 (by rw [HPL.out];have:=H.out.f2;omega) l1 (by rw [HPL.out];omega) c0 H.out.ps B1.out H.out.small.1 H.out.small.2.1;rw [HPL.out] at hen;refine hen.mono ?_;clear hen;rintro e w1 ⟨u,rfl,hb1,hv,hn⟩;have HV:=zq hv;have HN:=zq hn;clear hv hn
  go_wp2_with fail
  refine ⟨by rfl,?_⟩
  go_wp2_with fail
  go_ret2
  exact ⟨_,rfl,(Below.refl _ _).drew.trans hb1,HV.out,HN.out⟩
def za3 (all:List Vt) (q:Nat):List Vt→Option (List Rq×Vs)
 | []=>none
 | t::r=>if t.has then (match zb5 all t.batch q with | some vs=>some (t.batch,vs) | none=>za3 all q r) else za3 all q r
def zaw (f:Nat) (st:Sl):Option (List Rq×Vs):=za3 st.cs (2*f+1) st.cs
def zd7 (r:Option (List Rq×Vs)):List Rq:=match r with | some p=>p.1 | none=>[]
def zen (r:Option (List Rq×Vs)):Vs:=match r with | some p=>p.2 | none=>[]
def zka (w:World) (r:Option (List Rq×Vs)) (e:Ending) (w':World):Prop:=
 ∃v u,e= .returned (.tuple #[v,u,.bool r.isSome])∧Below w.heap.size w w'∧Bat w' v (zd7 r)∧Vts w' u (zen r)∧(∀k∈blkOf v,w.heap.size≤k)∧ ∀k∈blkOf u,w.heap.size≤k
theorem zj0 {w:World} {s bp bc cp cq f:Nat} {st:Sl} {D:List Nat} (h:SlotAt w s bp bc cp cq f st D):
  Calls Tryz.prog 282 #[.pointer (some ⟨s,0,none⟩)] w (zka w (zaw f st)):=by
 have H:=zq h;obtain ⟨ao,cap,l1,l2,l3,c0,c1,c2,c3,c4,fz,b1,b2,own⟩:=h.cells;have hcl:=h.cl;have hf1:=h.f1;have hf2:=h.f2;have hlen:st.cs.length≤13:=by omega
 have HCL:=zq hcl;clear b1 own fz b2 h hcl c1 c2 c3;go_enter Tryz.func282,Tryz.ntmps282
 go_wp2_with fail
 go_loopw [14] (fun i wr=> ∃k:Nat,k≤3*f+1∧i= .int .i64 k∧Below w.heap.size w wr∧Hid (zaw f st=za3 st.cs (2*f+1) (st.cs.drop k))) (fun i _=>3*f+1-(intOf i).toNat)
 case atStart=>exact ⟨0,by omega,rfl,Below.refl _ _,by rfl⟩
 case round=>
  obtain ⟨k,hk,rfl,hbel,hcom⟩:=hrel;have hz:=hbel.size;have k0:=(hbel.cell (p:=⟨s,0,none⟩) l1).trans c0;have k4:=(hbel.cell (p:=⟨s,4,none⟩) l1).trans c4;by_cases hlt:k<3*f+1
  ·have hkl:k<st.cs.length:=by rw [HCL.out];exact hlt
   have hvr:=H.out.cs.upd (M:=[]) (Upd.of_below hbel) (by simp) (by simp);obtain ⟨bv,d0,d1,d2,hbat,hbw,_,_⟩:=hvr.cells k st.cs[k] (by simp);obtain ⟨bo,bcap,rfl⟩:=zb9 hbat;have HBAT:=zq hbat;have HVR:=zq hvr;have hlk:=H.out.small.2.2 st.cs[k] (by simp);have hkI:(k:Int)<3*(f:Int)+1:=by omega
   have hkN:(k:Int)<((3*f+1:Nat):Int):=by omega
   clear hvr hbat;have hdrop:=zq (List.drop_eq_getElem_cons hkl);by_cases hhas:st.cs[k].has=true
   ·rw [hhas] at d0
    have HHAS:=zq hhas;clear hhas;have hsr:s<wr.heap.size:=Nat.lt_of_lt_of_le l1 hz;have hsn:s≠wr.heap.size:=by omega
    go_wp2_with fail
    refine Mix.wp_text (by kernel_rfl) (by kernel_rfl) ?_
    go_wp2_with fail
    have HU0:Upd [] wr (wr.alloc (.cells #[.bool true,.int .i64 st.cs[k].sl,.slice bo st.cs[k].batch.length bcap] 371)).drew:=((Upd.refl _ _).alloc _).drew;have hen:=zkg s bc cq (.slice bo st.cs[k].batch.length bcap) f st.cs D st.cs[k].batch (wr.alloc (.cells #[.bool true,.int .i64 st.cs[k].sl,.slice bo st.cs[k].batch.length bcap] 371)).drew hf1 hf2 hlen (by simp;omega) (by omega)
     ((HU0.cell hsr (by simp)).trans k0) (HVR.out.upd HU0 (by simp) (by simp)) (HBAT.out.upd HU0 (by simp)) hlk H.out.small.2.2
    rw [HCL.out] at hen;simp only [zyl,zbn] at hen;have hx2:(wr.alloc (.cells #[.bool true,.int .i64 st.cs[k].sl,.slice bo st.cs[k].batch.length bcap] 371)).cell? ⟨wr.heap.size,2,none⟩=some (.slice bo st.cs[k].batch.length bcap):=by
     rw [zab (heap_alloc_new wr _)];rfl
    have HX2:=zq hx2;clear hx2;have hbelq:Below w.heap.size w (wr.alloc (.cells #[.bool true,.int .i64 st.cs[k].sl,.slice bo st.cs[k].batch.length bcap] 371)).drew:=(hbel.alloc hz _).drew;cases hr:zb5 st.cs st.cs[k].batch (2*f+1) with
    | none=>
     rw [hr] at hen;have HR:=zq hr;clear hr;refine hen.mono ?_;clear hen;rintro e w2 ⟨u,rfl,hb1,-,-⟩
     go_wp2_with fail
     refine ⟨by rfl,?_⟩
     go_wp2_with fail
     go_roundw
     case rel=>
      refine ⟨k+1,by omega,by go_num,hbelq.trans (hb1.mono (by omega)),?_⟩;have h1:=hcom.out;rw [hdrop.out] at h1;show zaw f st=_;rw [h1,za3,if_pos HHAS.out,HR.out]
     case measure=>simp [intOf];omega
    | some vs=>
     rw [hr] at hen;have HR:=zq hr;clear hr;refine hen.mono ?_;clear hen;rintro e w2 ⟨u,rfl,hb1,hv,hn⟩;have HV:=zq hv;have HN:=zq hn;clear hv hn;have x2:w2.cell? ⟨wr.heap.size,2,none⟩=some (.slice bo st.cs[k].batch.length bcap):=(hb1.cell (p:=⟨wr.heap.size,2,none⟩) (Nat.lt_succ_self _)).trans HX2.out
     go_wp2_with fail
     refine ⟨by rfl,?_⟩
     go_wp2_with fail
     refine (zgj _ st.cs[k].batch _ hlk ((HBAT.out.upd HU0 (by simp)).upd (M:=[]) (Upd.of_below (by simpa using hb1)) (by simp))).mono ?_;rintro e w3 ⟨v',rfl,hu3,hbat3,hnew3⟩;have HB3:=zq hbat3;have HN3:=zq hnew3;clear hbat3 hnew3;have hz2:=hb1.size;simp only [zyl,zbn] at hz2
     go_wp2_with fail
     go_ret3
     have hcs:zaw f st=some (st.cs[k].batch,vs):=by rw [hcom.out,hdrop.out,za3,if_pos HHAS.out,HR.out]
     refine ⟨v',u,by rw [hcs];rfl,(hbelq.trans (hb1.mono (by omega))).trans (hu3.below.mono (by omega)),by rw [hcs];exact HB3.out,?_,?_,?_⟩
     ·rw [hcs];exact HV.out.upd hu3 (by simp)
     ·intro j hj;have:=(HN3.out j hj).1;omega
     ·intro j hj;have:=HN.out j hj;omega
   ·have hhas':st.cs[k].has=false:=by simpa using hhas
    rw [hhas'] at d0;have HHAS:=zq hhas';clear hhas hhas'
    go_wp2_with fail
    go_roundw
    case rel=>
     refine ⟨k+1,by omega,by go_num,hbel.alloc hz _,?_⟩;have h1:=hcom.out;rw [hdrop.out] at h1;show zaw f st=_;rw [h1,za3,if_neg (by rw [HHAS.out];simp)]
    case measure=>simp [intOf];omega
  ·have hkn: ¬(k:Int)<((3*f+1:Nat):Int):=by omega
   go_wp2_with fail
   go_ret3
   have hcs:zaw f st=none:=by rw [hcom.out,List.drop_of_length_le (by rw [HCL.out];omega)];rfl
   exact ⟨.slice none 0 0,.slice none 0 0,by rw [hcs];rfl,hbel,by rw [hcs];exact Reads.nil _ _,by rw [hcs];exact Reads.nil _ _,by simp [blkOf],by simp [blkOf]⟩
structure Loc where
 s:Nat
 bp:Nat
 bc:Nat
 cp:Nat
 cq:Nat
 f:Nat
def Loc.M (L:Loc):List Nat:=[L.s,L.bp,L.bc]
abbrev Loc.ptr (L:Loc):Value:= .pointer (some ⟨L.s,0,none⟩)
def On (w:World) (L:Loc) (st:Sl) (A:List Nat):Prop:=
 ∃D,SlotAt w L.s L.bp L.bc L.cp L.cq L.f st D∧(∀k∈D,k∉A)∧ ∀k∈A,k<w.heap.size
theorem On.upd {w w':World} {L:Loc} {st:Sl} {A N:List Nat} (h:On w L st A) (hu:Upd N w w') (hN: ∀k∈N,k∉L.M∧k∈A):On w' L st A:=by
 obtain ⟨D,h1,h2,h3⟩:=h;have hm: ∀k,k∈L.M→k∉N:=fun k hk hn=>(hN k hn).1 hk;refine ⟨D,h1.upd hu (hm _ (by simp [Loc.M])) (hm _ (by simp [Loc.M])) (hm _ (by simp [Loc.M])) (fun k hk hn=>h2 k hk (hN k hn).2),h2,fun k hk=>Nat.lt_of_lt_of_le (h3 k hk) hu.size⟩
theorem On.upd0 {w w':World} {L:Loc} {st:Sl} {A:List Nat} (h:On w L st A) (hu:Upd [] w w'):On w' L st A:=h.upd hu (by simp)
theorem On.below {w w':World} {L:Loc} {st:Sl} {A:List Nat} (h:On w L st A) (hb:Below w.heap.size w w'):On w' L st A:=h.upd0 (Upd.of_below hb)
theorem On.alloc {w:World} {L:Loc} {st:Sl} {A:List Nat} (h:On w L st A) (o:Obj):On (w.alloc o) L st A:=h.upd0 ((Upd.refl _ _).alloc o)
theorem On.lt {w:World} {L:Loc} {st:Sl} {A:List Nat} (h:On w L st A): ∀k∈L.M,k<w.heap.size:=by
 obtain ⟨D,h1,_,_⟩:=h;obtain ⟨_,_,l1,l2,l3,_⟩:=h1.cells;intro k hk;simp [Loc.M] at hk;rcases hk with rfl | rfl | rfl<;>assumption
theorem On.avoid {w:World} {L:Loc} {st:Sl} {A A':List Nat} (h:On w L st A) (hs: ∀k∈A',k∈A):On w L st A':=by
 obtain ⟨D,h1,h2,h3⟩:=h;exact ⟨D,h1,fun k hk hn=>h2 k hk (hs k hn),fun k hk=>h3 k (hs k hk)⟩
theorem zr4 {D D' A:List Nat} {w:World} (h2: ∀k∈D,k∉A) (h3: ∀k∈A,k<w.heap.size) (hD: ∀k∈D',k∈D∨w.heap.size≤k): ∀k∈D',k∉A:=by
 intro k hk hn;rcases hD k hk with h | h
 ·exact h2 k h hn
 ·have:=h3 k hn;omega
theorem on_new (f:Nat) (h1:1≤f) (h2:f≤4) (w:World):
  Calls Tryz.prog 151 #[.int .i64 f] w fun e w'=> ∃L:Loc,e= .returned (.tuple #[L.ptr,.int .i64 0])∧L.f=f∧Upd [] w w'∧(∀k∈L.M,w.heap.size≤k)∧ ∀A,(∀k∈A,k<w'.heap.size)→On w' L (zcb f) A:=by
 refine (slot_new f h1 h2 w).mono ?_;rintro e w' ⟨s,bp,bc,he,hu,g1,g2,g3,h⟩;refine ⟨⟨s,bp,bc,3*f+1,3*f+1,f⟩,he,rfl,hu,by simp [Loc.M];omega,fun A hA=>⟨[],h,by simp,hA⟩⟩
theorem on_pre {w:World} {L:Loc} {st:Sl} {A:List Nat} (h:On w L st A) (v:Value) (rs:List Rq) (hb:Bat w v rs) (hn:rs.length≤100000):
  Calls Tryz.prog 217 #[L.ptr,v] w fun e w'=>e= .returned (.bool (!st.has))∧Upd L.M w w'∧On w' L (if st.has then st else {st with has:=true,batch:=rs}) A:=by
 obtain ⟨D,h1,h2,h3⟩:=h;refine (slot_pre h1 v rs hb hn).mono ?_;rintro e w' ⟨he,hu,D',hD,h⟩;exact ⟨he,hu.mono (by intro k _ hk;simp at hk;simp [Loc.M,hk]),D',h,zr4 h2 h3 hD,fun k hk=>Nat.lt_of_lt_of_le (h3 k hk) hu.size⟩
theorem on_vote {w:World} {L:Loc} {st:Sl} {A:List Nat} (h:On w L st A) (kind node sl:Int) (v:Value) (rs:List Rq) (hb:Bat w v rs) (hn:rs.length≤100000):
  Calls Tryz.prog 264 #[L.ptr,.int .i64 kind,.int .i64 node,.int .i64 sl,v] w fun e w'=>e= .returned (.bool (zdj st kind node))∧Upd L.M w w'∧On w' L (voteS st kind node sl rs) A:=by
 obtain ⟨D,h1,h2,h3⟩:=h;refine (zxc h1 kind node sl v rs hb hn).mono ?_;rintro e w' ⟨he,hu,D',hD,h⟩;exact ⟨he,hu.mono (by intro k _ hk;simp [Loc.M] at hk⊢;exact .inr hk),D',h,zr4 h2 h3 hD,fun k hk=>Nat.lt_of_lt_of_le (h3 k hk) hu.size⟩
theorem zwj {w:World} {L:Loc} {st:Sl} {A:List Nat} (h:On w L st A):
  Calls Tryz.prog 215 #[L.ptr] w fun e w'=> ∃u,e= .returned (.tuple #[u,.bool st.has])∧Upd [] w w'∧On w' L st A∧Bat w' u (zbj st)∧ ∀k∈blkOf u,w.heap.size≤k:=by
 have h0:=h;obtain ⟨D,h1,h2,h3⟩:=h;refine (zqj h1).mono ?_;rintro e w' ⟨u,he,hu,hb,hn⟩;exact ⟨u,he,hu,h0.upd0 hu,hb,fun k hk=>(hn k hk).1⟩
theorem zp3 {w:World} {L:Loc} {st:Sl} {A:List Nat} (h:On w L st A):
  Calls Tryz.prog 280 #[L.ptr] w fun e w'=> ∃u,e= .returned (.tuple #[u,.bool (zbi L.f st).isSome])∧Upd [] w w'∧On w' L st A∧Vts w' u ((zbi L.f st).getD [])∧ ∀k∈blkOf u,w.heap.size≤k:=by
 have h0:=h;obtain ⟨D,h1,h2,h3⟩:=h;refine (zli h1).mono ?_;rintro e w' ⟨u,he,hb,hv,hn⟩;exact ⟨u,he,Upd.of_below hb,h0.below hb,hv,hn⟩
theorem zmx {w:World} {L:Loc} {st:Sl} {A:List Nat} (h:On w L st A):
  Calls Tryz.prog 282 #[L.ptr] w fun e w'=> ∃v u,e= .returned (.tuple #[v,u,.bool (zaw L.f st).isSome])∧Upd [] w w'∧On w' L st A∧Bat w' v (zd7 (zaw L.f st))∧Vts w' u (zen (zaw L.f st))∧(∀k∈blkOf v,w.heap.size≤k)∧ ∀k∈blkOf u,w.heap.size≤k:=by
 have h0:=h;obtain ⟨D,h1,h2,h3⟩:=h;refine (zj0 h1).mono ?_;rintro e w' ⟨v,u,he,hb,q1,q2,q3,q4⟩;exact ⟨v,u,he,Upd.of_below hb,h0.below hb,q1,q2,q3,q4⟩
theorem zzg (v n:Int) (h:1≤n): -n<v.tmod n∧v.tmod n<n:=by
 have h1:=Int.tmod_lt_of_pos v (show 0<n by omega);have h2:=Int.lt_tmod_of_pos v (show 0<n by omega);exact ⟨h2,h1⟩
theorem zxs (v n:Int) (h:1≤n):v%n=if v.tmod n<0 then v.tmod n+n else v.tmod n:=by
 have h1:=Int.mul_tdiv_add_tmod v n;have h2:=zzg v n h;have h3:v%n=v.tmod n%n:=by
  conv=>lhs;rw [←h1]
  rw [Int.mul_add_emod_self_left]
 rw [h3];split
 ·rw [←Int.add_emod_right,Int.emod_eq_of_lt (by omega) (by omega)]
 ·rw [Int.emod_eq_of_lt (by omega) (by omega)]
theorem zdw (v n:Int) (w:World) (h0:1≤n) (h1:n≤1000000):
  Calls Tryz.prog 16 #[.int .i64 v,.int .i64 n] w fun e w'=>e= .returned (.int .i64 (v%n))∧w=w':=by
 obtain ⟨b1,b2⟩:=zzg v n h0;have H:=zq (zxs v n h0);go_enter Tryz.func16,Tryz.ntmps16
 go_wp2
 all_goals
  go_ret
  refine ⟨zf6 ?_,rfl⟩;have h:=H.out;split at h<;>omega
theorem zgz (v n:Int) (h:1≤n):0≤v%n∧v%n<n:=⟨Int.emod_nonneg _ (by omega),Int.emod_lt_of_pos _ (by omega)⟩
theorem zlc (f:Int) (w:World) (h1:1≤f) (h2:f≤4):Calls Tryz.prog 17 #[.int .i64 f] w fun e w'=>e= .returned (.int .i64 (3*f+1))∧w=w':=by
 go_enter Tryz.func17,Tryz.ntmps17
 go_wp2
 go_ret
 exact ⟨rfl,rfl⟩
theorem zj2 {w:World} {b o:Nat} {rs:Vs} (hc: ∀j,j<rs.length*2→w.cell? ⟨b,o+j,none⟩=(zan rs)[j]?) (k:Nat) (p:Int×Int) (hp:rs[k]?=some p):
  w.cell? ⟨b,o+k*2,none⟩=some (.int .i64 p.1)∧w.cell? ⟨b,o+k*2+1,none⟩=some (.int .i64 p.2):=by
 have hk:=(List.getElem?_eq_some_iff.1 hp).1;obtain ⟨e0,e1⟩:=zqu rs k p hp;exact ⟨(hc _ (by omega)).trans e0,(hc (k*2+1) (by omega)).trans e1⟩
theorem zbz.dep {w w':World} {b:Nat} {vs:List Vt} {D:List Nat} (h:zbz w b vs D) (hk: ∀k,k=b∨k∈D→w'.heap[k]?=w.heap[k]?) (hs:w.heap.size≤w'.heap.size):zbz w' b vs D:=by
 obtain ⟨arr,h1,h2,h3⟩:=h;refine ⟨arr,by rw [hk b (.inl rfl)];exact h1,h2,fun i t hi=> ?_⟩;obtain ⟨v,a1,a2,a3,a4,a5⟩:=h3 i t hi;exact ⟨v,a1,a2,a3,Reads.keep a4 (fun k hkb _=>hk k (.inr (a5 k hkb))) hs,a5⟩
theorem SlotAt.dep {w w':World} {s bp bc cp cq f:Nat} {st:Sl} {D:List Nat} (h:SlotAt w s bp bc cp cq f st D) (hk: ∀k,k∈[s,bp,bc]∨k∈D→w'.heap[k]?=w.heap[k]?) (hs:w.heap.size≤w'.heap.size):SlotAt w' s bp bc cp cq f st D:=by
 obtain ⟨v,a1,a2,a3⟩:=h.own;exact {h with
  own:=⟨v,by rw [hk s (by simp)];exact a1,Reads.keep a2 (fun k hkb _=>hk k (.inr (a3 k hkb))) hs,a3⟩
  ps:=h.ps.dep (fun k hkb=>hk k (hkb.imp (fun e=>by simp [e]) id)) hs
  cs:=h.cs.dep (fun k hkb=>hk k (hkb.imp (fun e=>by simp [e]) id)) hs
  Dw:=fun k hkD=>Nat.lt_of_lt_of_le (h.Dw k hkD) hs}
def slotR (L:Loc) (st:Sl):Res where
 M:=L.M
 Q:=fun w D=>SlotAt w L.s L.bp L.bc L.cp L.cq L.f st D
 dep:=fun h hk hs=>h.dep hk hs
 lt:=fun {w D} h k hk=>hk.elim (fun hk=>On.lt (A:=[]) ⟨D,h,by simp,by simp⟩ k hk) (fun hk=>h.Dw k hk)
 sep:=fun h k hk hn=>by
  simp [Loc.M] at hk;rcases hk with rfl | rfl | rfl
  ·exact h.Ds hn
  ·exact h.Dp hn
  ·exact h.Dc hn
def BatIn (w:World) (v:Value) (rs:List Rq) (D:List Nat):Prop:=za0 w v 6 rs.length (zaq rs) D
theorem Bat.lies {w:World} {v:Value} {rs:List Rq} (h:Bat w v rs):BatIn w v rs (blkIf rs.length v):=Reads.lies h
theorem BatIn.bat {w:World} {v:Value} {rs:List Rq} {D:List Nat} (h:BatIn w v rs D):Bat w v rs:=h.1
def batR (v:Value) (rs:List Rq):Res:=imm (fun w D=>BatIn w v rs D) (fun h hk hs=>za0.dep h hk hs)
theorem zgw {v:Value} {rs:List Rq} {w:World} {A:List Nat} (h:(batR v rs).At w A):Bat w v rs:=let ⟨_,h,_⟩:=h;h.1.1
section
variable {B:Nat} {w0 W W':World} {rs:List Res} {L:Loc} {st:Sl}
theorem zp5 (h:Own B w0 W (slotR L st::rs)):On W L st (Ms (slotR L st::rs)):=h.head
theorem zji (h:Own B w0 W (slotR L st::rs)):st.batch.length≤100000∧(∀t∈st.ps,t.batch.length≤100000)∧(∀t∈st.cs,t.batch.length≤100000)∧st.ps.length=3*L.f+1∧st.cs.length=3*L.f+1:=by
 obtain ⟨D,h1,_,_⟩:=zp5 h;exact ⟨h1.small.1,h1.small.2.1,h1.small.2.2,h1.pl,h1.cl⟩
theorem own_bat (h:Own B w0 W rs) {v:Value} {l:List Rq} (hb:Bat W v l) (hk: ∀k∈blkIf l.length v,k<B∨w0.heap.size≤k∧k∉Ms rs):Own B w0 W (batR v l::rs):=
 h.new (Upd.refl [] _) ⟨blkIf l.length v,⟨hb.lies,Reads.lies_lt hb⟩,fun k hkD=>(hk k hkD).elim (fun hl=>h.elder hl) (·.2),fun k hkA=>h.lt k hkA⟩ (by simp [batR,imm])
theorem own_new (f:Nat) (h1:1≤f) (h2:f≤4) (h:Own B w0 W rs):
  Calls Tryz.prog 151 #[.int .i64 f] W fun e w'=> ∃L:Loc,e= .returned (.tuple #[L.ptr,.int .i64 0])∧L.f=f∧Upd [] W w'∧Own B w0 w' (slotR L (zcb f)::rs):=by
 refine (on_new f h1 h2 W).mono ?_;rintro e w' ⟨L,he,hf,hu,hM,hon⟩;exact ⟨L,he,hf,hu,h.new (r:=slotR L (zcb f)) hu (hon (Ms rs) (fun k hk=>Nat.lt_of_lt_of_le (h.lt k hk) hu.size)) hM⟩
theorem own_pre (h:Own B w0 W (slotR L st::rs)) (v:Value) (l:List Rq) (hb:Bat W v l) (hn:l.length≤100000):
  Calls Tryz.prog 217 #[L.ptr,v] W fun e w'=>e= .returned (.bool (!st.has))∧Upd L.M W w'∧Own B w0 w' (slotR L (if st.has then st else {st with has:=true,batch:=l})::rs):=by
 refine (on_pre (zp5 h) v l hb hn).mono ?_;rintro e w' ⟨he,hu,hon⟩;exact ⟨he,hu,h.step (r':=slotR L _) hu hon (fun k hk=> .inl hk)⟩
theorem own_vote (h:Own B w0 W (slotR L st::rs)) (kind node sl:Int) (v:Value) (l:List Rq) (hb:Bat W v l) (hn:l.length≤100000):
  Calls Tryz.prog 264 #[L.ptr,.int .i64 kind,.int .i64 node,.int .i64 sl,v] W fun e w'=>e= .returned (.bool (zdj st kind node))∧Upd L.M W w'∧Own B w0 w' (slotR L (voteS st kind node sl l)::rs):=by
 refine (on_vote (zp5 h) kind node sl v l hb hn).mono ?_;rintro e w' ⟨he,hu,hon⟩;exact ⟨he,hu,h.step (r':=slotR L _) hu hon (fun k hk=> .inl hk)⟩
theorem zfc (h:Own B w0 W (slotR L st::rs)):
  Calls Tryz.prog 215 #[L.ptr] W fun e w'=> ∃u,e= .returned (.tuple #[u,.bool st.has])∧Upd [] W w'∧Bat w' u (zbj st)∧ ∀k∈blkOf u,W.heap.size≤k:=by
 refine (zwj (zp5 h)).mono ?_;rintro e w' ⟨u,he,hu,_,hb,hn⟩;exact ⟨u,he,hu,hb,hn⟩
theorem zmz (h:Own B w0 W (slotR L st::rs)):
  Calls Tryz.prog 280 #[L.ptr] W fun e w'=> ∃u,e= .returned (.tuple #[u,.bool (zbi L.f st).isSome])∧Upd [] W w'∧Vts w' u ((zbi L.f st).getD [])∧ ∀k∈blkOf u,W.heap.size≤k:=by
 refine (zp3 (zp5 h)).mono ?_;rintro e w' ⟨u,he,hu,_,hb,hn⟩;exact ⟨u,he,hu,hb,hn⟩
theorem zky (h:Own B w0 W (slotR L st::rs)):
  Calls Tryz.prog 282 #[L.ptr] W fun e w'=> ∃v u,e= .returned (.tuple #[v,u,.bool (zaw L.f st).isSome])∧Upd [] W w'∧Bat w' v (zd7 (zaw L.f st))∧Vts w' u (zen (zaw L.f st))∧(∀k∈blkOf v,W.heap.size≤k)∧ ∀k∈blkOf u,W.heap.size≤k:=by
 refine (zmx (zp5 h)).mono ?_;rintro e w' ⟨v,u,he,hu,_,q1,q2,q3,q4⟩;exact ⟨v,u,he,hu,q1,q2,q3,q4⟩
end
end Go.Proofs.YtannckelmojkoaaGreat
namespace Go.Proofs.YtannckelmojkoaaGreat
open Go.ChangeShapes Go.WideShapes Go.ChangeAt Go.RowKit
theorem Tryz.own:ownKnob Tryz.prog.godebug=none:=by kernel_rfl
theorem Tryz.laidOut:laidOutB Tryz.prog=true:=by kernel_rfl
theorem zgc {H:Type} {enc:TypeId×Value→H} {P:Program} (hl:laidOutB P=true) {W W':World} (hb:Below W.heap.size W W'):
  ∀(ts:List TypeId) (vs:List Value) (ds:List (DataW H)) (ps:List MemPlace),(∀t∈ts,P.readableRec t=true∧t<P.types.size)→(∀x∈ps,x.block<W.heap.size)→
   DataW.TrodAll enc P W 0 (fun _=>true) true ts vs ds ps→DataW.TrodAll enc P W' 0 (fun b=>decide (b<W.heap.size)) true ts vs ds ps
 | [],[],[],_,_,_,h=>h
 | t::ts,v::vs,d::ds,ps,hr,hp,⟨p,q,h1,h2,he⟩=>by
  subst he;exact ⟨p,q,Below.trod hl (hr t (by simp)).1 (hr t (by simp)).2 h1 hb (fun x hx=>hp x (by simp [hx])),zgc hl hb ts vs ds q (fun t ht=>hr t (by simp [ht])) (fun x hx=>hp x (by simp [hx])) h2,rfl⟩
 | [],[],_::_,_,_,_,h=>h.elim
 | [],_::_,_,_,_,_,h=>by cases ‹List (DataW H)› <;>exact h.elim
 | _::_,[],_,_,_,_,h=>by cases ‹List (DataW H)› <;>exact h.elim
 | _::_,_::_,[],_,_,_,h=>h.elim
theorem law_post {H:Type} {enc:TypeId×Value→H} {P:Program} {f:Func} {s:ChangeSpec} (hl:laidOutB P=true) (hv:s.vars=[]) (tb:TypeId) (hres:f.resultTypes=#[tb]) (hu:P.underlying tb=some .bool)
  (hr: ∀t∈f.params.toList,P.readableRec t=true∧t<P.types.size) {W W':World} {args:Array Value} {ds gs:List (DataW H)} {before:List MemPlace} (hW:DataW.Whole enc P f.params.toList s.vars false W args.toList ds gs before)
  (hb:Below W.heap.size W W') (hfn:s.fn H (ds++gs)= {results:=[.lit (.bool true)],args:=ds}):s.post enc P f false true false false W args (.bool true) W':=by
 have hW0:=hW;obtain ⟨p,q,hA,hV,he,hz,hn⟩:=hW;rw [hv] at hV;obtain ⟨hgs,hq⟩:=trodVars_none hV;subst hgs;subst hq;subst he;rw [List.append_nil] at hz hW0;refine ⟨ds,[],p,[],p,[],hW0,?_,?_,?_,hb.frame _,fun h=>by cases h⟩
 ·rw [hfn,hres]
  exact trodAll_cons_mk (shut_bool hu _) trodAll_mk0
 ·rw [hfn]
  exact zgc hl hb _ _ _ _ hr (fun x hx=>hW0.lt x hx) hA
 ·rw [hv,hfn]
  rfl
end Go.Proofs.YtannckelmojkoaaGreat
