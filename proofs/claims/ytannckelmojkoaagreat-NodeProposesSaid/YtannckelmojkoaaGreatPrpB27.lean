/- Parts of the proof, one behind the other. -/
import Derived.Test.YtannckelmojkoaaGreatPrpB26
import Derived.Deep.MidRow
set_option maxHeartbeats 32000000
set_option maxRecDepth 100000
set_option linter.unusedVariables false
set_option linter.unusedSimpArgs false
namespace Go.Proofs.YtannckelmojkoaaGreat
open Go.RowKit Go.Heap
section
variable {B:Nat} {w0 w W W':World} {ss rs:List Res} {x:Np} {s s':Ns} {l l':Nt}
def TakeM (B:Nat) (w0:World) (x:Np) (s:Ns) (l:Nt) (fn:FuncId) (m:Mm) (fin:Int×NSt):Prop:=
 ∀W ss,NdIs B w0 W x s l (mmR m ss)→Calls Tryz.prog fn #[ptrV x.p,.agg (mmA m)] W fun e w'=>e= .returned (.int .i64 fin.1)∧NdIs B w0 w' x fin.2.1 fin.2.2 (mmR m ss)
theorem zvi {m:Mm} {sl:Int} {fin:Int×NSt} (hk:m.kind=1∨m.kind=2) (HC:TakeM B w0 x s l 176 m fin):TakeC B w0 x s l 98 m sl fin:=by
 intro W ss h;obtain ⟨kind,fm,view,inst,seq,res,a1,rs,c1,a2,vs,c2,a3,cts,c3,a4,pts,c4,rfl⟩:=ziq h;simp only at hk;rcases hk with rfl | rfl
 ·have H8:=zq (HC _ _ (h.alloc (mmO ⟨1,fm,view,inst,seq,res,.slice a1 rs.length c1,rs,.slice a2 vs.length c2,vs,.slice a3 cts.length c3,cts,.slice a4 pts.length c4,pts⟩)))
  clear h HC;go_enter Tryz.func98,Tryz.ntmps98
  go_wp2_with fail
  with_reducible refine H8.out.mono ?_
  rintro e w2 ⟨rfl,h2⟩;have HF:=zq h2;clear h2 H8
  go_wp2_with fail
  go_ret
  exact ⟨rfl,HF.out⟩
 ·have H8:=zq (HC _ _ (h.alloc (mmO ⟨2,fm,view,inst,seq,res,.slice a1 rs.length c1,rs,.slice a2 vs.length c2,vs,.slice a3 cts.length c3,cts,.slice a4 pts.length c4,pts⟩)))
  clear h HC;go_enter Tryz.func98,Tryz.ntmps98
  go_wp2_with fail
  with_reducible refine H8.out.mono ?_
  rintro e w2 ⟨rfl,h2⟩;have HF:=zq h2;clear h2 H8
  go_wp2_with fail
  go_ret
  exact ⟨rfl,HF.out⟩
end
def bo (is:Bool) (c:Ct):Option Cp:=if is then some c.cp else none
abbrev zCt:Ct:=⟨0,0,0,.slice none 0 0,.slice none 0 0,[],[]⟩
structure BestOk (w:World) (is:Bool) (c:Ct):Prop where
 b:Bat w c.vb c.rs
 bn:c.rs.length≤100000
 v:Vts w c.vv c.vs
 vn:c.vs.length≤100000
 z:is=false→c=zCt
theorem BestOk.upd {w w':World} {is:Bool} {c:Ct} (h:BestOk w is c) (hu:Upd [] w w'):BestOk w' is c:=⟨h.b.upd (M:=[]) hu (by simp),h.bn,h.v.upd (M:=[]) hu (by simp),h.vn,h.z⟩
section
variable {B:Nat} {w0 W:World} {rs:List Res}
end
def SmN (s:Ns):Prop:= ∀j,InSm (insAt s j)
theorem noIn_sm:InSm noIn:=⟨by simp [noIn]⟩
theorem SmN.of (s:Ns) (h:NsOk s):SmN s:=fun j=>by
 by_cases hj:j<s.ins.length
 ·rw [zbc s j hj];exact (h.insk j hj).2.2.2
 ·unfold insAt
  rw [List.getD_eq_getElem?_getD,List.getElem?_eq_none (by omega)];exact noIn_sm
theorem zu0 (s:Ns) (k j:Nat) (st:In):insAt (zbp s k st) j=if k=j∧j<s.ins.length then st else insAt s j:=by
 unfold insAt zbp;simp only [List.getD_eq_getElem?_getD,List.getElem?_set];by_cases h:k=j
 ·subst h
  by_cases h2:k<s.ins.length
  ·simp [h2]
  ·simp [h2]
 ·simp [h]
theorem SmN.set {s:Ns} {k:Nat} {st:In} (h:SmN s) (hs:InSm st):SmN (zbp s k st):=fun j=>by
 rw [zu0];split
 ·exact hs
 ·exact h j
theorem SmN.ins {s t:Ns} (h:SmN s) (e:t.ins=s.ins):SmN t:=fun j=>by
 have:=h j;unfold insAt at this⊢;rw [e];exact this
theorem zn0 (p:NSt) (m:Ms):(sendS p m).1.ins=p.1.ins:=by
 obtain ⟨o,e,-⟩:=zdp p m;rw [e]
theorem zn1 {kind:Int} {k:Nat} {seq:Int} {rs:List Rq} {p:NSt} (h:SmN p.1) (hr:rs.length≤4):SmN (zch kind k seq rs p).1:=by
 unfold zch;have h1:SmN (sendS p (balM' kind p.1.view k seq rs)).1:=h.ins (zn0 _ _);exact h1.set ((znd hr).sm (h1 k))
theorem sm_look1 {k:Nat} {seq:Int} {p:NSt} (h:SmN p.1):SmN (look1 k seq p).1:=by
 unfold look1;split
 ·rename_i c e
  refine zn1 ?_ (zse (h k) e);exact (h.set (k:=k) ((zfv (h k)).sm (h k))).ins rfl
 ·exact h
theorem runC_sm {s:Ns} (h:InSm (insAt s 0)):(runC s).rs.length≤4:=by
 unfold runC;cases hc:zbb (insAt s 0) (s.run+1) with
 | none=>simp [noCp]
 | some c=>exact zlm h hc
theorem zsw (p:NSt):(zhb p).1.ins=p.1.ins:=by
 obtain ⟨s,l⟩:=p;obtain ⟨o,l',t',e,-⟩:=zhc s l;rw [e]
theorem zj2: ∀(n:Nat) (p:NSt),InSm (insAt p.1 0)→Grow (4*n) p (runGo n p)∧(runGo n p).1.ins=p.1.ins
 | 0,p,_=>⟨Grow.refl p,rfl⟩
 | n+1,p,h=>by
  unfold runGo;split
  ·have h1:=zos p (runC_sm h)
   have h2:=zsw p;obtain ⟨h3,h4⟩:=zj2 n (zhb p) (by unfold insAt at h⊢;rw [h2];exact h);exact ⟨(h1.trans h3).mono (by omega),h4.trans h2⟩
  ·exact ⟨(Grow.refl p).mono (by omega),rfl⟩
theorem zux (k:Nat) (rs:List Rq) (p:NSt) (h:SmN p.1):Grow 64 p (doneS k rs p)∧(doneS k rs p).1.ins=p.1.ins:=by
 unfold doneS;simp only;rw [zqv];have hs:SmN {p.1 with mt:=zuq p.1 k rs}:=h.ins rfl;obtain ⟨g1,g2⟩:=zj2 16 ({p.1 with mt:=zuq p.1 k rs},p.2) (hs 0);split
 ·exact ⟨⟨by simp,by simp,by constructor<;>rfl⟩,rfl⟩
 ·split
  ·exact ⟨⟨g1.out,g1.nt,(KeepN.trans (by constructor<;>rfl) g1.k).trans (by constructor<;>rfl)⟩,g2⟩
  ·exact ⟨⟨g1.out,g1.nt,KeepN.trans (by constructor<;>rfl) g1.k⟩,g2⟩
theorem zuy (k:Nat) (seq:Int) (p:NSt) (hf:p.1.c.f≤4) (h:SmN p.1):Grow 77 p (lookS k seq p)∧SmN (lookS k seq p).1:=by
 rw [zra];have h1:=zj1 k seq p hf;have h2:=sm_look1 (k:=k) (seq:=seq) h;generalize look1 k seq p=q at*;unfold look2;split
 ·rename_i c e
  have h3:SmN (zbp q.1 k (zbk (insAt q.1 k) seq)):=h2.set ((zgs (h2 k)).sm (h2 k));obtain ⟨g1,g2⟩:=zux k c.rs (zbp q.1 k (zbk (insAt q.1 k) seq),q.2) h3;exact ⟨(h1.trans ⟨g1.out,g1.nt,KeepN.trans (by constructor<;>rfl) g1.k⟩),h3.ins g2⟩
 ·exact ⟨h1.mono (by omega),h2⟩
theorem zor (k:Nat) (seq:Int) (p:NSt) (hf:p.1.c.f≤4) (h:SmN p.1):Grow 90 p (zcz k seq p)∧SmN (zcz k seq p).1:=by
 unfold zcz;have h1:=zfi 4 k seq (zbl (insAt p.1 k) seq).1 p hf;have h2:=zn1 (kind:=4) (k:=k) (seq:=seq) h (zm3 (h k) seq);obtain ⟨h3,h4⟩:=zuy k seq (zch 4 k seq (zbl (insAt p.1 k) seq).1 p) (by rw [h1.k.c];exact hf) h2;exact ⟨(h1.trans h3),h4⟩
theorem zsk {α:Type} (g:α→Nat→α) (a:α) (j:Nat):(List.range (j+1)).foldl g a=g ((List.range j).foldl g a) j:=by rw [List.range_succ,List.foldl_append];rfl
section
variable {B:Nat} {w0 w W W':World} {ss rs:List Res} {x:Np} {s s':Ns} {l l':Nt} {k i:Nat}
end
def PtOk (s:Ns):Prop:= ∀q∈s.pts,∀c∈q.2.cs,c.rs.length≤4
theorem PtOk.of {s t:Ns} (h:PtOk s) (e:t.pts=s.pts):PtOk t:=fun q hq=>h q (e ▸ hq)
section
variable {B:Nat} {w0 w W W':World} {ss rs:List Res} {x:Np} {s s':Ns} {l l':Nt} {k i:Nat}
end
theorem zko {P:Program} (w:World) (t e:TypeId) (n:Nat) (cs:Array Value) (k:IntKind) (i:Int) (d:TypeDesc) (h:P.underlying t=some (.array n e)) (hd:P.underlying e=some d) (hr:d.isRow=false) (hi:(P.info? e).map (·.size)=some 1) (h0:0≤i) (h1:i<n) (v:Value) (hv:cs[i.toNat]?=some v):
  (Instr.index t (.agg cs) (.int k i)).run P w= .ok v w:=by
 cases hq:P.info? e with
 | none=>simp [hq] at hi
 | some inf=>
  have hs:inf.size=1:=by simpa [hq] using hi
  have e1:(isAgg e).run P w= .ok false w:=by
   cases d<;>first | (cases hr;done) | simp [isAgg,Go.underlying,Go.program,Sem.run_bind,Sem.run,hd,Pure.pure]
  have e2:(Go.sizeOf e).run P w= .ok 1 w:=by simp [Go.sizeOf,Go.typeInfo,Go.program,Sem.run_bind,Sem.run,hq,hs,Pure.pure]
  simp [Instr.index,run_underlying h,asIntOf,h0,h1,part,e1,e2,Sem.run_bind,hv]
theorem Tryz.infoI1:(Tryz.prog.info? 3).map (fun i=>(i.zero,i.size,i.bytes))=some (some (.int .i64 0),1,8):=by kernel_rfl
section
variable {w:World} {b o:Nat} {bl:List Bool}
theorem zsz (h: ∀j,j<13→w.cell? ⟨b,o+j,none⟩=some (.bool (bl.getD j false))) (hl:bl.length=13):
  Calls Tryz.prog 286 #[.pointer (some ⟨b,o,none⟩)] w fun e w'=> ∃a c,e= .returned (.slice a (bl.countP id) c)∧Upd [] w w':=by
 obtain ⟨i0,hi,hz0,hz1,hz2⟩:=info_parts Tryz.infoI1;obtain ⟨cs,hcs⟩: ∃cs:List Value,cs=bl.map Value.bool:=⟨_,rfl⟩;have HRA:Hid (w.rangeAt b o cs):=zq (fun j v hj=>by
  rw [hcs,List.getElem?_map] at hj;have hj2:j<bl.length:=by
   cases hq:bl[j]? with
   | none=>rw [hq] at hj;simp at hj
   | some x=>exact (List.getElem?_eq_some_iff.1 hq).1
  rw [h j (by omega)];rw [←hj];simp [List.getD_eq_getElem?_getD,hj2])
 have HIC:Hid ((Tryz.prog.info? 310).map (·.size)=some cs.length):=zq (by rw [hcs,List.length_map,hl];kernel_rfl);have HIX:Hid (∀(k:Nat) (_:k<13) (wx:World),(Instr.index 310 (.agg cs.toArray) (.int .i64 k)).run Tryz.prog wx= .ok (.bool (bl.getD k false)) wx):=zq (fun k hk wx=>by
  refine zko wx _ 4 13 _ _ _ .bool (by kernel_rfl) (by kernel_rfl) rfl (by kernel_rfl) (by omega) (by omega) _ ?_;rw [hcs];have hk2:k<bl.length:=by omega
  simp [List.getD_eq_getElem?_getD,hk2])
 have HCT:Hid (∀k,k<13→(bl.take (k+1)).countP id=(bl.take k).countP id+if bl.getD k false=true then 1 else 0):=zq (fun k hk=>by
  have hk2:k<bl.length:=by omega
  rw [List.take_add_one,List.getElem?_eq_getElem hk2,List.countP_append];simp [List.getD_eq_getElem?_getD,hk2,List.countP_cons])
 have HLE:Hid (∀k,(bl.take k).countP id≤k):=zq (fun k=>Nat.le_trans List.countP_le_length (by rw [List.length_take];omega));have HF:Hid ((bl.take 13).countP id=bl.countP id):=zq (by rw [List.take_of_length_le (by omega)]);generalize bl.countP id=fin at*;clear h hcs;have H0:=zq ((Own.start (Below.refl w.heap.size w) (Nat.le_refl _)).row0 (E:=3) (sz:=1));go_enter Tryz.func286,Tryz.ntmps286
 go_upto_region 2 with fail
 go_wp2_with (refine wpList_load_mid rfl 310 (.tmp 8) rfl b o rfl cs _ HRA.out Tryz.underlying310 rfl HIC.out ?_)
 clear HRA HIC
 go_loopw [3,10] (fun v i wr=> ∃(k:Nat) (a:Option Addr) (c:Nat) (xs:List Value),k≤13∧i= .int .i64 k∧v= .slice a ((bl.take k).countP id) c∧Hid (Own w.heap.size w wr [ownR 3 1 (.slice a ((bl.take k).countP id) c) ((bl.take k).countP id) xs])) (fun _ i _=>13-(intOf i).toNat)
 case atStart=>exact ⟨0,none,0,[],by omega,rfl,rfl,H0⟩
 case round=>
  clear H0;obtain ⟨k,a,c,xs,hk,rfl,rfl,H1⟩:=hrel;by_cases hlt:k<13
  ·have hkI:(k:Int)<13:=by omega
   have hix:=HIX.out k hlt;have hct:=HCT.out k hlt;have hle:=HLE.out k;generalize (bl.take k).countP id=n at*;have HC:=zq hct;clear hct;generalize bl.getD k false=x at*;cases x with
   | true=>
    have H3:=zq (H1.out.box (.cells #[.int .i64 k] 3 (0,0)));have HN:=zq (heap_alloc_new wr (.cells #[.int .i64 k] 3 (0,0)))
    go_wp2_with (at_builtin;refine za9 rfl (.tmp 15) (.tmp 17) 69 rfl 3 i0 (.int .i64 0) 1 8 Tryz.underlying69 hi hz0 hz1 hz2 rfl (by decide) H3.out 1 (.slice a n c) n xs rfl rfl wr.heap.size #[.int .i64 k] 3 (0,0) rfl HN.out rfl (by simp [Value.oneCell']) (by unfold maxLen;omega) (by omega) ?_)
    intro g2 cap2 w4 h2;have h3:Own w.heap.size w w4 [ownR 3 1 (.slice (some ⟨g2,0,none⟩) (n+1) cap2) (n+1) (xs++[.int .i64 k])]:=h2.dropAt 0 (by simp);have HF:=zq h3;clear h2 h3 H3 HN hix
    go_wp2_with fail
    go_roundw
    case rel=>exact ⟨k+1,some ⟨g2,0,none⟩,cap2,_,by omega,by go_num,by rw [HC.out];simp,zq (by rw [HC.out];exact HF.out)⟩
    case measure=>simp [intOf];omega
   | false=>
    clear hle
    go_wp2_with fail
    go_roundw
    case rel=>exact ⟨k+1,a,c,xs,by omega,by go_num,by rw [HC.out];simp,zq (by rw [HC.out];exact H1.out)⟩
    case measure=>simp [intOf];omega
  ·have hkI:decide ((k:Int)<13)=false:=by simp;omega
   obtain rfl:k=13:=by omega
   rw [HF.out] at H1⊢;have HU:Hid (Upd [] w wr):=zq (Upd.of_below H1.out.below);clear H1
   go_wp2_with fail
   go_ret
   exact ⟨_,_,rfl,HU.out⟩
theorem zs2 (h: ∀j,j<13→w.cell? ⟨b,o+j,none⟩=some (.bool (bl.getD j false))) (hl:bl.length=13):
  Calls Tryz.prog 262 #[.pointer (some ⟨b,o,none⟩)] w fun e w'=>e= .returned (.int .i64 (bl.countP id))∧Upd [] w w':=by
 have HA:=zq (zsz h hl);clear h;go_enter Tryz.func262,Tryz.ntmps262
 go_wp2_with fail
 refine HA.out.mono ?_;rintro e w2 ⟨a,c,rfl,hu⟩;have HU:=zq hu;clear hu HA
 go_wp2_with fail
 go_ret
 exact ⟨rfl,HU.out⟩
theorem zs3 (h: ∀j,j<13→w.cell? ⟨b,o+j,none⟩=some (.bool (bl.getD j false))) (hz: ∀j,w.frozen? ⟨b,j,none⟩=false) (n:Nat) (hn:n<13):
  Calls Tryz.prog 261 #[.pointer (some ⟨b,o,none⟩),.int .i64 n] w fun e w'=>e= .returned (.bool (!bl.getD n false))∧w'=if bl.getD n false then w else w.setCell ⟨b,o+n,none⟩ (.bool true):=by
 have hc:=h n hn;have g0:decide ((n:Int)<0)=false:=by simp
 have g1:decide ((12:Int)<(n:Int))=false:=by simp;omega
 have g2:(n:Int)<13:=by omega
 have g3:(0:Int)≤(n:Int):=by omega
 have z:=hz (o+n);clear h hz;generalize bl.getD n false=c at*;cases c with
 | true=>
  go_enter Tryz.func261,Tryz.ntmps261
  go_wp2_with fail
  go_ret
  exact ⟨rfl,rfl⟩
 | false=>
  go_enter Tryz.func261,Tryz.ntmps261
  go_wp2_with fail
  go_ret
  exact ⟨rfl,rfl⟩
end
end Go.Proofs.YtannckelmojkoaaGreat
namespace Go.Heap
open Go Go.RowKit
section
variable {B:Nat} {w0 w W W':World} {rs:List Res} {E sz n:Nat} {v:Value} {xs:List Value} {A:List Nat}
theorem zr0 {g cap:Nat} (h:(ownR E sz (.slice (some ⟨g,0,none⟩) n cap) n xs).At W A):(∀j,j<n*sz→W.cell? ⟨g,j,none⟩=xs[j]?)∧(∀j,W.frozen? ⟨g,j,none⟩=false)∧n≤cap∧xs.length=n*sz:=by
 obtain ⟨hx,h2⟩:=zaj h;rcases h2 with ⟨h3,-⟩ | ⟨g',cap',cur,h3,-,hg,hc,-,hs,ht⟩
 ·cases h3
 ·cases h3
  refine ⟨fun j hj=> ?_,fun j=>zab hg j,hc,hx⟩;rw [zac hg,←ht,List.getElem?_take,if_pos hj];simp
theorem Own.putsR {g cap:Nat} (h:Own B w0 W (ownR E sz (.slice (some ⟨g,0,none⟩) n cap) n xs::rs)) (o:Nat) (cs:List Value) (ho:o+cs.length≤n*sz):
  Own B w0 (W.setCells g o cs) (ownR E sz (.slice (some ⟨g,0,none⟩) n cap) n (xs.take o++cs++xs.drop (o+cs.length))::rs):=by
 obtain ⟨hx,h2⟩:=zaj h.head;rcases h2 with ⟨h3,-⟩ | ⟨g',cap',cur,h3,-,hg,hc,hm,hs,ht⟩
 ·cases h3
 ·cases h3
  have hu:Upd [g] W (W.setCells g o cs):=Go.Proofs.YtannckelmojkoaaGreat.upd_setCs _ _ _ _ (Upd.refl _ _);obtain ⟨cur',e1,e2,e3⟩:=Go.Proofs.YtannckelmojkoaaGreat.setCells_blk cs o W cur hg;have hle:n*sz≤cap*sz:=Nat.mul_le_mul_right _ hc;have hcl:cur.toList.length=cap*sz:=by simpa using hs
  refine h.step (r':=ownR E sz (.slice (some ⟨g,0,none⟩) n cap) n (xs.take o++cs++xs.drop (o+cs.length))) (by simpa [ownR,blkOf] using hu) ⟨[],⟨⟨by simp;omega,.inr ⟨g,cap,cur',rfl,Nat.zero_le _,e1,hc,hm,by rw [e2];exact hs,?_⟩⟩,rfl⟩,by simp,fun k hk=>Nat.lt_of_lt_of_le (h.lt k hk) hu.size⟩ (fun k hk=> .inl hk);refine List.ext_getElem? (fun j=> ?_);rw [List.getElem?_take];by_cases hj:j<n*sz
  ·rw [if_pos hj,Array.getElem?_toList,e3 j]
   have hxj:xs[j]?=cur[j]?:=by rw [←ht,List.getElem?_take,if_pos hj];simp
   by_cases h1:o≤j∧j<o+cs.length
   ·rw [if_pos ⟨h1.1,h1.2,by omega⟩,List.append_assoc,List.getElem?_append_right (by simp;omega),List.getElem?_append_left (by simp;omega)]
    congr 1;simp;omega
   ·rw [if_neg (fun h=>h1 ⟨h.1,h.2.1⟩),←hxj]
    by_cases h2:j<o
    ·rw [List.append_assoc,List.getElem?_append_left (by simp;omega),List.getElem?_take,if_pos h2]
    ·rw [List.append_assoc,List.getElem?_append_right (by simp;omega),List.getElem?_append_right (by simp;omega),List.getElem?_drop]
     congr 1;simp;omega
  ·rw [if_neg hj,List.getElem?_eq_none (by simp;omega)]
theorem zj7 {g cap:Nat} (h:(ownR E sz (.slice (some ⟨g,0,none⟩) n cap) n xs).At W A) (o m:Nat) (ho:o+m≤n*sz):W.there g o m:=fun j hj=>by
 obtain ⟨h1,h2,-,h4⟩:=zr0 h;refine ⟨?_,h2 _⟩;rw [h1 _ (by omega),List.getElem?_eq_getElem (by omega)];rfl
theorem setCells_one (w:World) (b o:Nat) (u:Value):w.setCells b o [u]=w.setCell ⟨b,o,none⟩ u:=rfl
theorem zwc {P:Program} (w:World) (dT sT ty elem:TypeId) (d a:Option Addr) (dLen dCap sLen sCap:Nat) (hu:P.underlying dT=some (.slice elem)) {sz:Nat} (hs:(P.info? elem).map (·.size)=some sz) (hn:Nat.min sLen dLen=0):
  (Builtin.copy_ #[dT,sT] ty #[.slice d dLen dCap,.slice a sLen sCap]).run P w= .ok (goInt 0) w:=by
 cases hq:P.info? elem with
 | none=>simp [hq] at hs
 | some i=>
  have hl: ∀(x:Addr),(loadCells x 0).run P w= .ok #[] w:=fun x=>by simpa using run_loadCells_list (P:=P) w x [] (by simp)
  cases d<;>cases a<;>simp [Builtin.copy_,run_underlying hu,Builtin.lenOf,Builtin.firstCells,sizeOf,typeInfo,hq,hn,storeCells,hl]
theorem zwd {P:Program} (w:World) (dT sT ty elem:TypeId) (g o sg so:Nat) (dLen dCap sLen sCap:Nat) (hu:P.underlying dT=some (.slice elem)) {sz:Nat} (hs:(P.info? elem).map (·.size)=some sz) (cs:List Value) (hn:cs.length=Nat.min sLen dLen*sz) (hra:w.rangeAt sg so cs) (ht:w.there g o cs.length) (h1: ∀v∈cs,v.oneCell'=true):
  (Builtin.copy_ #[dT,sT] ty #[.slice (some ⟨g,o,none⟩) dLen dCap,.slice (some ⟨sg,so,none⟩) sLen sCap]).run P w= .ok (goInt (Nat.min sLen dLen)) (w.setCells g o cs):=by
 have hl:(loadCells ⟨sg,so,none⟩ (Nat.min sLen dLen*sz)).run P w= .ok cs.toArray w:=by
  rw [←hn];exact run_loadCells_list (P:=P) w ⟨sg,so,none⟩ cs (fun j v hv=>by rw [Addr.add_mid];exact hra j v hv)
 have hst:(storeCells ⟨g,o,none⟩ cs 0).run P w= .ok () (w.setCells g o cs):=by
  have:=run_storeCells_cells (P:=P) g o cs 0 w (fun j hj=>by simpa using (ht j hj).1) (fun j hj=>by simpa using (ht j hj).2) h1
  simpa using this
 cases hq:P.info? elem with
 | none=>simp [hq] at hs
 | some i=>
  have hi:i.size=sz:=by simpa [hq] using hs
  simp [Builtin.copy_,run_underlying hu,Builtin.lenOf,Builtin.firstCells,sizeOf,typeInfo,hq,hi,hl,hst]
theorem zhj {P:Program} {ops:Array Oper} {rest:List Oper} {o:Oper} {a:Act} {Q:Exit→Act→World→Prop} (hgd:o.guard=none) (d s:Operand) (dT sT:TypeId)
  (ho:o.op= .call {callee:= .builtin .copy,args:=#[d,s],argTypes:=#[dT,sT]}) (elem:TypeId) (hu:P.underlying dT=some (.slice elem)) {sz:Nat} (hs:(P.info? elem).map (·.size)=some sz)
  (dp sp:Option Addr) (dLen dCap sLen sCap:Nat) (hd:a.eval d= .slice dp dLen dCap) (hs2:a.eval s= .slice sp sLen sCap) (hn:Nat.min sLen dLen=0)
  (h:wpList P ops Q rest (a.put o.dst (goInt 0)) w):wpList P ops Q (o::rest) a w:=by
 have hrun:=zwc (P:=P) w dT sT o.type elem dp sp dLen dCap sLen sCap hu hs hn;refine wpList_plain hgd fun K hK=> ?_;unfold Oper.wp;simp [execOp,ho,resolve,invoke,builtin,hd,hs2,hrun,Result.andThen];exact hK _ _ h
theorem zmu {P:Program} {ops:Array Oper} {rest:List Oper} {o:Oper} {a:Act} {Q:Exit→Act→World→Prop} (hgd:o.guard=none) (d s:Operand) (dT sT:TypeId)
  (ho:o.op= .call {callee:= .builtin .copy,args:=#[d,s],argTypes:=#[dT,sT]}) (elem:TypeId) (hu:P.underlying dT=some (.slice elem)) {sz:Nat} (hs:(P.info? elem).map (·.size)=some sz)
  (g og sg so dLen dCap sLen sCap:Nat) (hd:a.eval d= .slice (some ⟨g,og,none⟩) dLen dCap) (hs2:a.eval s= .slice (some ⟨sg,so,none⟩) sLen sCap) (cs:List Value) (hn:cs.length=Nat.min sLen dLen*sz) (hra:w.rangeAt sg so cs) (ht:w.there g og cs.length) (h1: ∀v∈cs,v.oneCell'=true)
  (h:wpList P ops Q rest (a.put o.dst (goInt (Nat.min sLen dLen))) (w.setCells g og cs)):wpList P ops Q (o::rest) a w:=by
 have hrun:=zwd (P:=P) w dT sT o.type elem g og sg so dLen dCap sLen sCap hu hs cs hn hra ht h1;refine wpList_plain hgd fun K hK=> ?_;unfold Oper.wp;simp [execOp,ho,resolve,invoke,builtin,hd,hs2,hrun,Result.andThen];exact hK _ _ h
theorem flat_len' {α:Type} {g:α→List Value} {n:Nat}: ∀(l:List α),(∀a∈l,(g a).length=n)→(l.flatMap g).length=l.length*n
 | [],_=>by simp
 | a::l,h=>by
  rw [List.flatMap_cons,List.length_append,flat_len' l (fun b hb=>h b (by simp [hb])),h a (by simp),List.length_cons,Nat.succ_mul,Nat.add_comm]
theorem zij {α:Type} {g:α→List Value} {n:Nat} (l:List α) (h: ∀a∈l,(g a).length=n) (k:Nat) (hk:k≤l.length):(l.flatMap g).take (k*n)=(l.take k).flatMap g:=by
 have e:l.flatMap g=(l.take k).flatMap g++(l.drop k).flatMap g:=by rw [←List.flatMap_append,List.take_append_drop]
 have hl:((l.take k).flatMap g).length=k*n:=by rw [flat_len' _ (fun a ha=>h a (List.mem_of_mem_take ha)),List.length_take,Nat.min_eq_left hk]
 rw [e,←hl,List.take_left'];rfl
theorem zm8 {α:Type} {g:α→List Value} {n:Nat} (l:List α) (h: ∀a∈l,(g a).length=n) (k:Nat) (hk:k≤l.length):(l.flatMap g).drop (k*n)=(l.drop k).flatMap g:=by
 have e:l.flatMap g=(l.take k).flatMap g++(l.drop k).flatMap g:=by rw [←List.flatMap_append,List.take_append_drop]
 have hl:((l.take k).flatMap g).length=k*n:=by rw [flat_len' _ (fun a ha=>h a (List.mem_of_mem_take ha)),List.length_take,Nat.min_eq_left hk]
 rw [e,←hl,List.drop_left'];rfl
theorem ze2 {α:Type} (l:List α) (k:Nat) (a:α) (hk:k≤l.length):l.insertIdx k a=l.take k++a::l.drop k:=by
 induction l generalizing k with
 | nil=>cases k with | zero=>rfl | succ k=>simp at hk
 | cons b l ih=>
  cases k with
  | zero=>rfl
  | succ k=>rw [List.insertIdx_succ_cons,ih k (by simpa using hk)];rfl
theorem zop {α:Type} {g:α→List Value} {n:Nat} (l:List α) (h: ∀a∈l,(g a).length=n) (k:Nat) (hk:k≤l.length) (a:α) (ha:(g a).length=n) (z:List Value) (hz:z.length=n) (X Y:List Value)
  (hX:X=(l.flatMap g++z).take ((k+1)*n)++(l.flatMap g).drop (k*n)++(l.flatMap g++z).drop ((k+1)*n+((l.flatMap g).drop (k*n)).length))
  (hY:Y=X.take (k*n)++g a++X.drop (k*n+n)):Y=(l.insertIdx k a).flatMap g:=by
 have hl:=flat_len' l h;have hkn:k*n≤l.length*n:=Nat.mul_le_mul_right _ hk;have hlen:(l.flatMap g++z).length=l.length*n+n:=by rw [List.length_append,hl,hz]
 have hd:((l.flatMap g).drop (k*n)).length=l.length*n-k*n:=by rw [List.length_drop,hl]
 have hs:(k+1)*n=k*n+n:=Nat.succ_mul _ _;have hX2:X=(l.flatMap g++z).take (k*n+n)++(l.flatMap g).drop (k*n):=by
  have e3:(l.flatMap g++z).drop (k*n+n+((l.flatMap g).drop (k*n)).length)=[]:=List.drop_eq_nil_of_le (by rw [hlen,hd];omega);rw [hX,hs,e3,List.append_nil]
 have ht:((l.flatMap g++z).take (k*n+n)).length=k*n+n:=by rw [List.length_take,hlen];omega
 have hx1:X.take (k*n)=(l.take k).flatMap g:=by
  rw [hX2,List.take_append_of_le_length (by omega),List.take_take,Nat.min_eq_left (by omega),List.take_append_of_le_length (by omega),zij l h k hk]
 have hx2:X.drop (k*n+n)=(l.drop k).flatMap g:=by
  have e4:((l.flatMap g++z).take (k*n+n)).drop (k*n+n)=[]:=List.drop_eq_nil_of_le (by omega);rw [hX2,List.drop_append,ht,Nat.sub_self,List.drop_zero,e4,List.nil_append,zm8 l h k hk]
 rw [hY,hx1,hx2,ze2 l k a hk,List.flatMap_append,List.flatMap_cons,List.append_assoc]
theorem zlq {α:Type} {g:α→List Value} {n:Nat} (l:List α) (h: ∀a∈l,(g a).length=n) (k j:Nat) (hk:k<l.length) (hj:j<n) (u:Value) (a:α) (ha:(g l[k]).set j u=g a):
  (l.flatMap g).take (k*n+j)++[u]++(l.flatMap g).drop (k*n+j+1)=(l.set k a).flatMap g:=by
 have hl:=flat_len' l h;have hk1:(k+1)*n≤l.length*n:=Nat.mul_le_mul_right _ hk;rw [Nat.succ_mul] at hk1;have hga:(g a).length=n:=by rw [←ha,List.length_set,h _ (List.getElem_mem hk)]
 have hh2: ∀b∈l.set k a,(g b).length=n:=fun b hb=>by
  rcases List.mem_or_eq_of_mem_set hb with hb | rfl
  ·exact h b hb
  ·exact hga
 rw [show (l.flatMap g).take (k*n+j)++[u]++(l.flatMap g).drop (k*n+j+1)=(l.flatMap g).set (k*n+j) u from by
  rw [List.set_eq_take_append_cons_drop,if_pos (by omega),List.append_assoc];rfl]
 refine List.ext_getElem? (fun i=> ?_);rw [List.getElem?_set];by_cases hi:i<l.length*n
 ·have hn0:0<n:=by omega
  obtain ⟨p,q,rfl,hq⟩: ∃p q,i=p*n+q∧q<n:=⟨i/n,i%n,by rw [Nat.mul_comm,Nat.div_add_mod],Nat.mod_lt _ hn0⟩;have hp:p<l.length:=by
   rcases Nat.lt_or_ge p l.length with h1 | h1
   ·exact h1
   ·have:=Nat.mul_le_mul_right n h1;omega
  rw [Go.Proofs.YtannckelmojkoaaGreat.flat_in' g n (l.set k a) hh2 p q (by simpa using hp) hq,Go.Proofs.YtannckelmojkoaaGreat.flat_in' g n l h p q hp hq,List.getElem_set];by_cases hpk:k=p
  ·subst hpk
   rw [if_pos rfl,←ha,List.getElem?_set];by_cases hjq:j=q
   ·subst hjq;rw [if_pos rfl,if_pos (by omega),if_pos rfl,if_pos (by rw [h _ (List.getElem_mem hk)];omega)]
   ·rw [if_neg (by omega),if_neg hjq]
  ·rw [if_neg hpk]
   rw [if_neg];intro e;rcases Nat.lt_or_ge k p with h1 | h1
   ·have:=Nat.mul_le_mul_right n h1;rw [Nat.succ_mul] at this;omega
   ·have h2:p<k:=by omega
    have:=Nat.mul_le_mul_right n h2;rw [Nat.succ_mul] at this;omega
 ·rw [if_neg (by omega),List.getElem?_eq_none (by omega),List.getElem?_eq_none (by rw [flat_len' _ hh2,List.length_set];omega)]
end
end Go.Heap
namespace Go.Proofs.YtannckelmojkoaaGreat
open Go.RowKit Go.Heap
theorem weak_any (f:Int) (w:World) (h1:1≤f) (h2:f≤4):Calls Tryz.prog 263 #[.int .i64 f] w fun e w'=>e= .returned (.int .i64 (f+1))∧w=w':=by
 go_enter Tryz.func263,Tryz.ntmps263
 go_wp2_with fail
 refine (zhy f _ h1 h2).mono ?_;rintro e w' ⟨rfl,rfl⟩
 go_wp2_with fail
 go_ret
 exact ⟨rfl,rfl⟩
theorem zkz (l:List Td) (r:Rq):tabK l r≤l.length:=by
 unfold tabK;exact (List.takeWhile_sublist _).length_le
theorem zds (r:Rq):(newTd r).by_.length=13:=by simp [newTd]
theorem zwr {l:List Td} (r:Rq) (h: ∀t∈l,t.by_.length=13): ∀t∈tabIn l r,t.by_.length=13:=by
 intro t ht;unfold tabIn at ht;split at ht
 ·exact h t ht
 ·rcases (List.mem_insertIdx (zkz l r)).1 ht with rfl | ht
  ·exact zds r
  ·exact h t ht
theorem tabIn_at {l:List Td} {r:Rq}: ∃h:tabK l r<(tabIn l r).length,(tabIn l r)[tabK l r].r=r:=by
 unfold tabIn;cases hb:tabIs l r with
 | true=>
  obtain ⟨h1,h2⟩:=zmp hb;exact ⟨h1,h2⟩
 | false=>
  have hk:=zkz l r;exact ⟨by simp [List.length_insertIdx,hk];omega,by simp [newTd]⟩
theorem tabIn_n {l:List Td} {r:Rq}:(tabIn l r).length≤l.length+1:=by
 unfold tabIn;split
 ·omega
 ·rw [List.length_insertIdx];split<;>omega
theorem td_setBy {t:Td} (h:t.by_.length=13) (j:Nat) (hj:j<13) (x:Bool):(tdC t).set (6+j) (.bool x)=tdC {t with by_:=t.by_.set j x}:=by
 unfold tdC;rw [List.set_append_right _ _ (by simp [zaf]),List.set_append_left _ _ (by simp [zaf,h];omega)];simp [zaf,List.map_set]
theorem zpk {t:Td} (h:t.by_.length=13):(tdC t).set 19 (.bool true)=tdC {t with ready:=true}:=by
 unfold tdC;rw [List.set_append_right _ _ (by simp [zaf]),List.set_append_right _ _ (by simp [zaf,h])];simp [zaf,h]
theorem zpl {t:Td} (h:t.by_.length=13) (c:Int):(tdC t).set 20 (.int .i64 c)=tdC {t with since:=c}:=by
 unfold tdC;rw [List.set_append_right _ _ (by simp [zaf]),List.set_append_right _ _ (by simp [zaf,h])];simp [zaf,h]
theorem zhh {t:Td} (h:t.by_.length=13):(tdC t).length=21:=(td_cs h).n
section
variable {B:Nat} {w0 W:World} {ss:List Res} {tb f:Nat} {cl:Int} {v:Value} {l:List Td}
theorem tdR_by {g cap:Nat} (h:Own B w0 W (tdR (.slice (some ⟨g,0,none⟩) l.length cap) l::ss)) (hb: ∀t∈l,t.by_.length=13) (k:Nat) (hk:k<l.length) (j:Nat) (hj:j<13) (x:Bool):
  Own B w0 (W.setCell ⟨g,k*21+6+j,none⟩ (.bool x)) (tdR (.slice (some ⟨g,0,none⟩) (l.set k {l[k] with by_:=l[k].by_.set j x}).length cap) (l.set k {l[k] with by_:=l[k].by_.set j x})::ss):=by
 have h21: ∀t∈l,(tdC t).length=21:=fun t ht=>zhh (hb t ht);have hk1:(k+1)*21≤l.length*21:=Nat.mul_le_mul_right _ hk;have h1:=h.putsR (k*21+(6+j)) [.bool x] (by simp;omega);rw [setCells_one] at h1;have e:=zlq l h21 k (6+j) hk (by omega) (.bool x) {l[k] with by_:=l[k].by_.set j x} (td_setBy (hb _ (List.getElem_mem hk)) j hj x);rw [show ([(.bool x:Value)]:List Value).length=1 from rfl,e] at h1;rw [Nat.add_assoc]
 simpa only [tdR,List.length_set] using h1
theorem zwx {g cap:Nat} {c:Int} (h:Own B w0 W (tdR (.slice (some ⟨g,0,none⟩) l.length cap) l::ss)) (hb: ∀t∈l,t.by_.length=13) (k:Nat) (hk:k<l.length):
  Own B w0 ((W.setCell ⟨g,k*21+19,none⟩ (.bool true)).setCell ⟨g,k*21+20,none⟩ (.int .i64 c)) (tdR (.slice (some ⟨g,0,none⟩) (l.set k {l[k] with ready:=true,since:=c}).length cap) (l.set k {l[k] with ready:=true,since:=c})::ss):=by
 have h21: ∀t∈l,(tdC t).length=21:=fun t ht=>zhh (hb t ht);have hk1:(k+1)*21≤l.length*21:=Nat.mul_le_mul_right _ hk;have h1:=h.putsR (k*21+19) [.bool true] (by simp;omega);have e:=zlq l h21 k 19 hk (by omega) (.bool true) {l[k] with ready:=true} (zpk (hb _ (List.getElem_mem hk)));rw [setCells_one,show ([(.bool true:Value)]:List Value).length=1 from rfl,e] at h1;have hb2: ∀t∈l.set k {l[k] with ready:=true},t.by_.length=13:=fun t ht=>by
  rcases List.mem_or_eq_of_mem_set ht with ht | rfl
  ·exact hb t ht
  ·exact (hb l[k] (List.getElem_mem hk):l[k].by_.length=13)
 have hk2:k<(l.set k {l[k] with ready:=true}).length:=by simpa using hk
 have h2:=h1.putsR (k*21+20) [.int .i64 c] (by simp;omega);have hg:(l.set k {l[k] with ready:=true})[k]= {l[k] with ready:=true}:=by simp
 have e2:=zlq (l.set k {l[k] with ready:=true}) (fun t ht=>zhh (hb2 t ht)) k 20 hk2 (by omega) (.int .i64 c) {l[k] with ready:=true,since:=c} (by rw [hg];exact zpl (t:= {l[k] with ready:=true}) (hb l[k] (List.getElem_mem hk):l[k].by_.length=13) c);rw [setCells_one,show ([(.int .i64 c:Value)]:List Value).length=1 from rfl,e2] at h2;rw [List.set_set] at h2
 simpa only [tdR,List.length_set] using h2
end
end Go.Proofs.YtannckelmojkoaaGreat
