/- Parts of the proof, one behind the other. -/
import Derived.Test.YtannckelmojkoaaGreatVwsB21
set_option maxHeartbeats 32000000
set_option maxRecDepth 100000
set_option linter.unusedVariables false
set_option linter.unusedSimpArgs false
namespace Go.Proofs.YtannckelmojkoaaGreat
open Go.RowKit Go.Heap
abbrev ntP (l:Nt):List Value:=l.map fun x=> .int .i64 x.1
abbrev ntT (l:Nt):List Value:=l.map fun x=> .string (txt x.2)
abbrev rnO (vp vt:Value):Obj:= .cells #[vp,vt] 72 (0,0)
abbrev rnB (rn:Nat) (vp vt:Value) (l:Nt) (ss:List Res):List Res:=blk rn (rnO vp vt)::ownR 3 1 vp l.length (ntP l)::ownR 9 1 vt l.length (ntT l)::ss
structure RnAt (w:World) (rn:Nat) (vp vt:Value) (l:Nt):Prop where
 o:w.heap[rn]?=some (rnO vp vt)
 p:Reads w vp 1 l.length (ntP l)
 t:Reads w vt 1 l.length (ntT l)
theorem RnAt.upd {w w':World} {rn:Nat} {vp vt:Value} {l:Nt} (h:RnAt w rn vp vt l) (hu:Upd [] w w'):RnAt w' rn vp vt l:=⟨(hu.block rn (block_lt h.o) (by simp)).trans h.o,h.p.upd hu (by simp),h.t.upd hu (by simp)⟩
theorem zg2 {α:Type} [BEq α] [LawfulBEq α] {x:α}: ∀(l:List α) (k:Nat) (hk:k<l.length),l[k]=x→(∀j (hj:j<l.length),j<k→l[j]≠x)→l.idxOf x=k
 | [],k,hk,_,_=>by simp at hk
 | y::l,0,_,e,_=>by simp only [List.getElem_cons_zero] at e;subst e;exact List.idxOf_cons_self
 | y::l,k+1,hk,e,h=>by
  have h0:=h 0 (by simp) (by omega);simp only [List.getElem_cons_zero] at h0;rw [List.idxOf_cons,show (y==x)=false from beq_eq_false_iff_ne.2 h0];simp only [cond_false];rw [zg2 l k (by simpa using hk) (by simpa using e) (fun j hj hjk=>by have:=h (j+1) (by simpa using hj) (by omega);simpa using this)]
theorem zpx (bs:Array UInt8) (n:Nat): ∀(i:Nat) (r:List UInt8),bs.size-i=n→ByteArray.toList.loop ⟨bs⟩ i r=r.reverse++bs.toList.drop i:=by
 induction n with
 | zero=>
  intro i r h;rw [ByteArray.toList.loop,if_neg (show¬i<(ByteArray.mk bs).size from by show¬i<bs.size;omega),List.drop_eq_nil_of_le (by simp;omega),List.append_nil]
 | succ n ih=>
  intro i r h;have hi:i<bs.size:=by omega
  rw [ByteArray.toList.loop,if_pos (show i<(ByteArray.mk bs).size from hi),ih (i+1) _ (by omega),List.drop_eq_getElem_cons (i:=i) (by simpa using hi)];have e:(ByteArray.mk bs).get! i=bs[i]:=by show bs[i]! =_;exact getElem!_pos bs i hi
  simp [e]
theorem zgy (a:ByteArray):a.toList=a.data.toList:=by
 obtain ⟨bs⟩:=a;unfold ByteArray.toList;rw [zpx bs _ 0 [] rfl];simp
theorem str_ne {a b:ByteArray} (h: ¬a=b):(a.toList==b.toList)=false:=by
 refine beq_eq_false_iff_ne.2 (fun e=>h ?_);rw [zgy,zgy] at e;obtain ⟨a⟩:=a;obtain ⟨b⟩:=b;simp only at e;rw [Array.toList_inj.1 e]
section
variable {B:Nat} {w0 w W W':World} {ss rs:List Res} {rn:Nat} {vp vt v bv:Value} {l:Nt}
theorem rn_at (h:Own B w0 W (rnB rn vp vt l ss)):RnAt W rn vp vt l:=⟨h.blk_out,owns_reads (zam (h.get 1 rfl)),owns_reads (zam (h.get 2 rfl))⟩
theorem zv2 {party:Int} {bs:Bys} (h:RnAt W rn vp vt l) (hl:NtOk l) (hx:SOk (party,bs)) (hb:Byt W bv bs) (hn:l.length≤1000000000):
  Calls Tryz.prog 201 #[.pointer (some ⟨rn,0,none⟩),.int .i64 party,bv] W fun e w'=>e= .returned (.tuple #[.int .i64 (findN l party bs),.bool (decide ((party,bs)∈l))])∧W=w':=by
 have hcv:=zjs hb;obtain ⟨ho,hp,ht⟩:=h;have x0:W.cell? ⟨rn,0,none⟩=some vp:=zaa ho 0 rfl;have x1:W.cell? ⟨rn,1,none⟩=some vt:=zaa ho 1 rfl;have HP:=zq hp;have HT:=zq ht;have HL:=zq hl;have HX:=zq hx;obtain ⟨ao,cap,rfl,hcap,-⟩:=hp;obtain ⟨bo,bcap,rfl,hbcap,-⟩:=ht;obtain ⟨co,ccap,rfl,-,-⟩:=zcl hb;clear ho hb hl hx;go_enter Tryz.func201,Tryz.ntmps201
 go_wp2_with fail
 go_loop [9] (fun i=> ∃k:Nat,i= .int .i64 k∧k≤l.length∧Hid (∀j (hj:j<l.length),j<k→l[j]≠(party,bs))) (fun i=>l.length-(intOf i).toNat)
 case atStart=>exact ⟨0,rfl,by omega,zq (fun j hj h=>by omega)⟩
 case round=>
  obtain ⟨k,rfl,hk,HZ⟩:=hrel;by_cases hlt:k<l.length
  ·have hkI:(k:Int)<(l.length:Int):=by omega
   have hk0:(0:Int)≤(k:Int):=by omega
   have hcI:(l.length:Int)≤(cap:Int):=by omega
   have hcI2:(l.length:Int)≤(bcap:Int):=by omega
   have hnI:(l.length:Int)≤1000000000:=by omega
   obtain ⟨ao',cap',e0,-,-,-,-,h5⟩:=HP.out;simp only [Value.slice.injEq,true_and] at e0;obtain ⟨rfl,-⟩:=e0;obtain ⟨b,o,rfl,-,hc⟩:=h5 (by omega);obtain ⟨bo',bcap',e1,-,-,-,-,h6⟩:=HT.out;simp only [Value.slice.injEq,true_and] at e1;obtain ⟨rfl,-⟩:=e1;obtain ⟨b2,o2,rfl,-,hc2⟩:=h6 (by omega);have r0:W.cell? ⟨b,o+k,none⟩=some (.int .i64 l[k].1):=by rw [hc k (by omega)];simp [hlt]
   have r1:W.cell? ⟨b2,o2+k,none⟩=some (.string (txt l[k].2)):=by rw [hc2 k (by omega)];simp [hlt]
   have HB:Hid (txt l[k].2=txt bs→l[k].2=bs):=zq (fun e=>zx8 (HL.out.2 _ (List.getElem_mem hlt)).b HX.out.b e);have HF:Hid (l[k].1=party→l[k].2=bs→findN l party bs=(k:Int)+1∧decide ((party,bs)∈l)=true):=zq (fun e1 e2=>by
    have e:l[k]=(party,bs):=Prod.ext e1 e2;have hm:(party,bs)∈l:=e ▸ List.getElem_mem hlt;refine ⟨?_,by simpa using hm⟩;unfold findN sealN;rw [if_pos hm,zg2 l k hlt e HZ.out])
   have HZ2:Hid (¬(l[k].1=party∧l[k].2=bs)→ ∀j (hj:j<l.length),j<k+1→l[j]≠(party,bs)):=zq (fun hne j hj h e=>by
    by_cases e2:j=k
    ·subst e2;exact hne ⟨by rw [e],by rw [e]⟩
    ·exact HZ.out j hj (by omega) e)
   clear hc h5 hc2 h6;generalize l[k].1=lp at*;generalize l[k].2=lb at*;by_cases hpe:lp=party
   ·by_cases hte:txt lb=txt bs
    ·obtain ⟨e1,e2⟩:=HF.out hpe (HB.out hte)
     have E1:=zq e1;have E2:=zq e2;clear e1 e2;rw [hpe] at r0;rw [hte] at r1;clear HB HF HZ2 HZ hpe hte;generalize txt bs=tb at*;have g1:(tb.toList==tb.toList)=true:=by simp
     go_wp2_with fail
     go_ret2
     rw [E1.out,E2.out];exact ⟨rfl,rfl⟩
    ·have HN:=zq (HZ2.out (fun h=>hte (by rw [h.2])))
     rw [hpe] at r0;clear HB HF HZ2 HZ hpe;generalize txt bs=tb at*;generalize txt lb=tl at*;have g1:=str_ne hte
     go_wp2_with fail
     go_round
     case rel=>exact ⟨k+1,by go_num,by omega,HN⟩
     case measure=>simp [intOf];omega
   ·have HN:=zq (HZ2.out (fun h=>hpe h.1))
    have g1:(lp==party)=false:=beq_eq_false_iff_ne.2 hpe;clear HB HF HZ2 HZ;generalize txt bs=tb at*;generalize txt lb=tl at*
    go_wp2_with fail
    go_round
    case rel=>exact ⟨k+1,by go_num,by omega,HN⟩
    case measure=>simp [intOf];omega
  ·have hkI:decide ((k:Int)<(l.length:Int))=false:=by simp;omega
   have hm:(party,bs)∉l:=fun hm=>by
    obtain ⟨j,hj,e⟩:=List.getElem_of_mem hm;exact HZ.out j hj (by omega) e
   have e1:findN l party bs=0:=by unfold findN;rw [if_neg hm]
   have e2:decide ((party,bs)∈l)=false:=by simp [hm]
   have E1:=zq e1;have E2:=zq e2;clear HZ hm e1 e2
   go_wp2_with fail
   go_ret2
   rw [E1.out,E2.out];exact ⟨rfl,rfl⟩
end
theorem Tryz.infoI64n:(Tryz.prog.info? 3).map (fun i=>(i.zero,i.size,i.bytes))=some (some (.int .i64 0),1,8):=by kernel_rfl
theorem Tryz.infoStn:(Tryz.prog.info? 9).map (fun i=>(i.zero,i.size,i.bytes))=some (some (.string ByteArray.empty),1,16):=by kernel_rfl
section
variable {B:Nat} {w0 w W W':World} {ss rs:List Res} {rn:Nat} {vp vt v bv:Value} {l:Nt}
theorem zv4 {party:Int} {bs:Bys} (h:Own B w0 W (rnB rn vp vt l (bysR bv bs::ss))) (hl:NtOk l) (hx:SOk (party,bs)) (hn:l.length≤1000000000):
  Calls Tryz.prog 130 #[.pointer (some ⟨rn,0,none⟩),.int .i64 party,bv] W fun e w'=>e= .returned (.int .i64 (sealN l party bs))∧ ∃vp' vt',Own B w0 w' (rnB rn vp' vt' (sealL l party bs) (bysR bv bs::ss)):=by
 obtain ⟨i0,hi,hz0,hz1,hz2⟩:=info_parts Tryz.infoI64n;obtain ⟨j0,hj,hy0,hy1,hy2⟩:=info_parts Tryz.infoStn;have H:=zq h;have HF:=zq (zv2 (rn_at h) hl hx ⟨zao (k:=3) h rfl,hx.b⟩ hn);have HXB:=zq hx.b;obtain ⟨co,ccap,rfl,-,-⟩:=zao (k:=3) h rfl;obtain ⟨ao,cap,rfl,-,-⟩:=(rn_at h).p;obtain ⟨bo,bcap,rfl,-,-⟩:=(rn_at h).t;clear h hx hl;by_cases hm:(party,bs)∈l
 ·have e1:findN l party bs=sealN l party bs:=by unfold findN;rw [if_pos hm]
  have e2:sealL l party bs=l:=by unfold sealL;rw [if_pos hm]
  have e3:decide ((party,bs)∈l)=true:=by simp [hm]
  rw [e1,e3] at HF;have E2:=zq e2;clear e1 e2 e3;go_enter Tryz.func130,Tryz.ntmps130
  go_wp2_with fail
  refine HF.out.mono ?_;rintro e w1 ⟨rfl,rfl⟩;clear HF
  go_wp2_with fail
  go_ret
  rw [E2.out];exact ⟨rfl,_,_,H.out⟩
 ·have e1:findN l party bs=0:=by unfold findN;rw [if_neg hm]
  have e2:sealL l party bs=l++[(party,bs)]:=by unfold sealL;rw [if_neg hm]
  have e3:decide ((party,bs)∈l)=false:=by simp [hm]
  have e4:sealN l party bs=(l.length:Int)+1:=by
   unfold sealN;rw [List.idxOf_eq_length (by simpa using hm)]
  rw [e1,e3] at HF;have E2:=zq e2;have E4:=zq e4;have HA:=zq (H.out.box (.cells #[.int .i64 party] 3 (0,0)));have HN:=zq (heap_alloc_new W (.cells #[.int .i64 party] 3 (0,0)));have x0:W.cell? ⟨rn,0,none⟩=some (.slice ao l.length cap):=zaa (H.out.blkAt 0 rfl) 0 rfl;clear e1 e2 e3 e4 hm H;go_enter Tryz.func130,Tryz.ntmps130
  go_wp2_with fail
  refine HF.out.mono ?_;rintro e w1 ⟨rfl,rfl⟩;clear HF
  go_wp2_with (at_builtin;refine za7 rfl (.tmp 22) (.tmp 24) 69 rfl 3 i0 (.int .i64 0) 1 8 Tryz.underlying69 hi hz0 hz1 hz2 rfl (by decide) HA.out 2 (.slice ao l.length cap) l.length (ntP l) rfl rfl W.heap.size #[.int .i64 party] 3 (0,0) rfl HN.out rfl (by simp [Value.oneCell']) (by unfold maxLen;omega) (by omega) ?_)
  intro g1 cap1 w2 h2;have h3:Own B w0 w2 (blk rn (rnO (.slice ao l.length cap) (.slice bo l.length bcap))::ownR 3 1 (.slice (some ⟨g1,0,none⟩) (l.length+1) cap1) (l.length+1) (ntP l++[.int .i64 party])::ownR 9 1 (.slice bo l.length bcap) l.length (ntT l)::bysR (.slice co bs.length ccap) bs::ss):=h2.drop;have z3:=zab (h3.blkAt 0 rfl) 0;have y3:w2.cell? ⟨rn,0,none⟩=some (.slice ao l.length cap):=zaa (h3.blkAt 0 rfl) 0 rfl;have H4:=zq (Own.storeTo h3 0 (.slice (some ⟨g1,0,none⟩) (l.length+1) cap1) rfl);clear h2 h3 HA HN x0
  go_wp2_with fail
  generalize w2.setCell ⟨rn,0,none⟩ (.slice (some ⟨g1,0,none⟩) (l.length+1) cap1)=w4 at*;have h5:Own B w0 w4.drew (blk rn (rnO (.slice (some ⟨g1,0,none⟩) (l.length+1) cap1) (.slice bo l.length bcap))::ownR 3 1 (.slice (some ⟨g1,0,none⟩) (l.length+1) cap1) (l.length+1) (ntP l++[.int .i64 party])::ownR 9 1 (.slice bo l.length bcap) l.length (ntT l)::bysR (.slice co bs.length ccap) bs::ss):=H4.out.drew;clear H4 z3 y3;have d1:w4.drew.cell? ⟨rn,1,none⟩=some (.slice bo l.length bcap):=zaa (h5.blkAt 0 rfl) 1 rfl;have hcv:=zjs (bs:=bs) (v:= .slice co bs.length ccap) (w:=w4.drew) ⟨zao (k:=3) h5 rfl,HXB.out⟩;have HB:=zq (h5.box (.cells #[.string (txt bs)] 9 (0,0)));have HN:=zq (heap_alloc_new w4.drew (.cells #[.string (txt bs)] 9 (0,0)));clear h5;refine Held.wp_held [(rn,1,[.slice bo l.length bcap])] [(4,0)] [11] [(7,true),(2,true)] (by kernel_rfl) (by kernel_rfl) ⟨⟨d1,trivial⟩,trivial⟩ ?_;simp only [Held.cutAt,Held.walk,List.take_succ_cons,List.take_zero,List.drop_succ_cons,List.drop_zero]
  go_wp2_with fail
  refine ⟨⟨⟨d1,trivial⟩,trivial⟩,?_⟩
  go_wp2_with (at_builtin;refine za7 rfl (.tmp 32) (.tmp 35) 70 rfl 9 j0 (.string ByteArray.empty) 1 16 Tryz.underlying70 hj hy0 hy1 hy2 rfl (by decide) HB.out 3 (.slice bo l.length bcap) l.length (ntT l) rfl rfl w4.drew.heap.size #[.string (txt bs)] 9 (0,0) rfl HN.out rfl (by simp [Value.oneCell']) (by unfold maxLen;omega) (by omega) ?_)
  intro g2 cap2 w5 h6;have h7:Own B w0 w5 (blk rn (rnO (.slice (some ⟨g1,0,none⟩) (l.length+1) cap1) (.slice bo l.length bcap))::ownR 3 1 (.slice (some ⟨g1,0,none⟩) (l.length+1) cap1) (l.length+1) (ntP l++[.int .i64 party])::ownR 9 1 (.slice (some ⟨g2,0,none⟩) (l.length+1) cap2) (l.length+1) (ntT l++[.string (txt bs)])::bysR (.slice co bs.length ccap) bs::ss):=h6.drop;have z7:=zab (h7.blkAt 0 rfl) 1;have y7:w5.cell? ⟨rn,1,none⟩=some (.slice bo l.length bcap):=zaa (h7.blkAt 0 rfl) 1 rfl;have H8:=zq (Own.storeTo h7 1 (.slice (some ⟨g2,0,none⟩) (l.length+1) cap2) rfl);clear h6 h7 HB HN hcv d1
  go_wp2_with fail
  refine ⟨⟨⟨y7,trivial⟩,trivial⟩,?_⟩
  go_wp2_with fail
  refine ⟨trivial,by rfl,⟨⟨rfl,.inl ⟨by kernel_rfl,rfl⟩⟩,trivial⟩,?_⟩;generalize w5.setCell ⟨rn,1,none⟩ (.slice (some ⟨g2,0,none⟩) (l.length+1) cap2)=w6 at*;have q0:w6.cell? ⟨rn,0,none⟩=some (.slice (some ⟨g1,0,none⟩) (l.length+1) cap1):=zaa (H8.out.blkAt 0 rfl) 0 rfl;clear y7 z7
  go_wp2_with fail
  go_ret
  rw [E2.out,E4.out];refine ⟨by simp,.slice (some ⟨g1,0,none⟩) (l.length+1) cap1,.slice (some ⟨g2,0,none⟩) (l.length+1) cap2,?_⟩;have:=H8.out
  simpa [rnB,rnO,ntP,ntT,setIn] using this
end
abbrev twA (nt rn:Nat):Array Value:=#[.pointer (some ⟨nt,0,none⟩),.pointer (some ⟨rn,0,none⟩)]
abbrev twO (nt rn:Nat):Obj:= .cells (twA nt rn) 28 (0,0)
structure Rn where
 v:Value
 m:Nt
def withP (P:Prop) (r:Res):Res where
 M:=r.M
 Q:=fun w D=>r.Q w D∧P
 dep:=fun ⟨h,p⟩ hk hs=>⟨r.dep h hk hs,p⟩
 lt:=fun h=>r.lt h.1
 sep:=fun h=>r.sep h.1
theorem _root_.Go.Heap.Own.mkP {B:Nat} {w0 W:World} {r:Res} {ss:List Res} {P:Prop} (h:Own B w0 W (r::ss)) (p:P):Own B w0 W (withP P r::ss):=by
 obtain ⟨D,q1,q2,q3⟩:=h.head;exact h.alter (r':=withP P r) ⟨D,⟨q1,p⟩,q2,q3⟩ (fun k hk=>hk)
theorem _root_.Go.Heap.Own.unP {B:Nat} {w0 W:World} {r:Res} {ss:List Res} {P:Prop} (h:Own B w0 W (withP P r::ss)):P∧Own B w0 W (r::ss):=by
 obtain ⟨D,⟨q1,p⟩,q2,q3⟩:=h.head;exact ⟨p,h.alter (r':=r) ⟨D,q1,q2,q3⟩ (fun k hk=>hk)⟩
def RnOk (m l:Nt):Prop:=NtOk m∧ ∀x∈m,x∈l
theorem zrt: ∀(m l:Nt),m.Nodup→(∀x∈m,x∈l)→m.length≤l.length
 | [],_,_,_=>by simp
 | a::m,l,h1,h2=>by
  have ha:=h2 a List.mem_cons_self;have h3:=List.nodup_cons.1 h1;have:=zrt m (l.erase a) h3.2 (fun x hx=>(List.mem_erase_of_ne (by rintro rfl;exact h3.1 hx)).2 (h2 x (List.mem_cons_of_mem _ hx)));have h4:=List.length_erase_of_mem ha;have h5:0<l.length:=List.length_pos_of_mem ha;simp only [List.length_cons];omega
theorem RnOk.len {m l:Nt} (h:RnOk m l):m.length≤l.length:=zrt m l h.1.1 h.2
theorem RnOk.seal {m l:Nt} (h:RnOk m l) {p:Int} {b:Bys} (hx:SOk (p,b)):RnOk (sealL m p b) (sealL l p b):=by
 refine ⟨ze5 h.1 hx,fun x hm=> ?_⟩;unfold sealL at hm⊢;have h1:x∈m∨x=(p,b):=by
  split at hm
  ·exact .inl hm
  ·simpa using hm
 rcases h1 with h1 | rfl
 ·split
  ·exact h.2 x h1
  ·exact List.mem_append_left _ (h.2 x h1)
 ·split
  ·assumption
  ·simp
abbrev rnR (rn:Nat) (vp:Value) (vt:Rn) (l:Nt) (ss:List Res):List Res:=blk rn (rnO vp vt.v)::ownR 3 1 vp vt.m.length (ntP vt.m)::withP (RnOk vt.m l) (ownR 9 1 vt.v vt.m.length (ntT vt.m))::ss
abbrev twR (nt nm rn:Nat) (vp:Value) (vt:Rn) (l:Nt) (ss:List Res):List Res:=blk nt (noB nm)::ntR nm l::rnR rn vp vt l ss
def rqS (l:Nt) (r:Rq):Rq:=if reqW {r with sl:=0} then {r with sl:=sealN l (100+r.client) (rqX r)} else r
def rqSL (l:Nt) (r:Rq):Nt:=if reqW {r with sl:=0} then sealL l (100+r.client) (rqX r) else l
def msS (l:Nt) (m:Ms):Int:=match bodyP m with
 | none=>0
 | some b=>sealN l m.fm b
def msSL (l:Nt) (m:Ms):Nt:=match bodyP m with
 | none=>l
 | some b=>sealL l m.fm b
theorem rqX_ok {r:Rq} (h:reqW {r with sl:=0}=true):SOk (100+r.client,rqX r):=by
 have hx:rqX r=rqB0 r:=by unfold rqX;rw [if_pos h]
 have hc:0≤r.client∧r.client<1099511627776:=by
  have:numOk r.client=true:=by unfold reqW at h;simp only [Bool.and_eq_true] at h;exact h.1
  unfold numOk at this;simp at this;omega
 rw [hx];refine ⟨by simp only;omega,by simp only;omega,zjq h,?_⟩;have h4:=(zlj {r with sl:=0} w00).2 h;have h5:=zf3 w00 {r with sl:=0};have h6:(wReq w00 {r with sl:=0}).out=[]++rqB0 r:=h4;rw [h6] at h5;simp at h5⊢;omega
section
variable {B:Nat} {w0 w W W':World} {ss rs:List Res} {nt nm rn:Nat} {vp v bv:Value} {vt:Rn} {l:Nt}
theorem tw_un (h:Own B w0 W (twR nt nm rn vp vt l ss)):RnOk vt.m l∧Own B w0 W (blk nt (noB nm)::ntR nm l::rnB rn vp vt.v vt.m ss):=by
 obtain ⟨p,h1⟩:=Own.unP (h.front 4 rfl rfl);exact ⟨p,h1.back 4 (by simp) rfl⟩
theorem tw_mk {m:Nt} (p:RnOk m l) (h:Own B w0 W (blk nt (noB nm)::ntR nm l::rnB rn vp v m ss)):Own B w0 W (twR nt nm rn vp ⟨v,m⟩ l ss):=
 (Own.mkP (h.front 4 rfl rfl) p).back 4 (by simp) rfl
theorem rn_more {l':Nt} (h:Own B w0 W (rnR rn vp vt l ss)) (hl: ∀x∈l,x∈l'):Own B w0 W (rnR rn vp vt l' ss):=by
 obtain ⟨p,h1⟩:=Own.unP (h.front 2 rfl rfl);exact (Own.mkP h1 (P:=RnOk vt.m l') ⟨p.1,fun x hx=>hl x (p.2 x hx)⟩).back 2 (by simp) rfl
theorem zhy {party:Int} {bs:Bys} (h:Own B w0 W (twR nt nm rn vp vt l (bysR bv bs::ss))) (hl:NtOk l) (hx:SOk (party,bs)) (hn:l.length≤1000000000):
  Calls Tryz.prog 72 #[.agg (twA nt rn),.int .i64 party,bv] W fun e w'=>e= .returned (.int .i64 (sealN l party bs))∧ ∃vp' vt',Own B w0 w' (twR nt nm rn vp' vt' (sealL l party bs) (bysR bv bs::ss)):=by
 obtain ⟨hp,h0⟩:=tw_un h;have hpl:=hp.len;have HP:=zq hp;obtain ⟨vt,m⟩:=vt;simp only at hpl HP h0 hp;have h1:Own B w0 (W.alloc (twO nt rn)) (rnB rn vp vt m (bysR bv bs::blk W.heap.size (twO nt rn)::blk nt (noB nm)::ntR nm l::ss)):=(h0.box (twO nt rn)).perm ((List.perm_append_comm (l₁:=[_,_,_]) (l₂:=[_,_,_,_])).append_right ss);have HS:=zq (zv4 h1 hp.1 hx (by omega));have x1:(W.alloc (twO nt rn)).cell? ⟨W.heap.size,1,none⟩=some (.pointer (some ⟨rn,0,none⟩)):=zaa (h1.blkAt 4 rfl) 1 rfl;have HL:=zq hl;have HX:=zq hx;obtain ⟨co,ccap,rfl,-,-⟩:=zao (k:=3) h1 rfl;clear h h0 h1 hl hx hp hpl;go_enter Tryz.func72,Tryz.ntmps72
 go_wp2_with fail
 refine HS.out.mono ?_;rintro e w1 ⟨rfl,vp',vt',h2⟩;have h3:Own B w0 w1 (blk W.heap.size (twO nt rn)::blk nt (noB nm)::ntR nm l::rnB rn vp' vt' (sealL m party bs) (bysR (.slice co bs.length ccap) bs::ss)):=h2.perm ((List.perm_append_comm (l₁:=[_,_,_,_]) (l₂:=[_,_,_])).append_right ss);have x0:w1.cell? ⟨W.heap.size,0,none⟩=some (.pointer (some ⟨nt,0,none⟩)):=zaa (h3.blkAt 0 rfl) 0 rfl;have hby:Byt w1 (.slice co bs.length ccap) bs:=⟨zao (k:=6) h3 rfl,HX.out.b⟩;have HC:=zq (zmx h3.drop HL.out HX.out hby hn);clear h2 h3 hby HS x1
 go_wp2_with fail
 refine HC.out.mono ?_;rintro e w2 ⟨rfl,h4⟩;have H4:=zq h4;clear h4 HC
 go_wp2_with fail
 go_ret
 exact ⟨rfl,vp',⟨vt',sealL m party bs⟩,tw_mk (HP.out.seal HX.out) H4.out⟩
theorem zjy {m:Mm} (h:Own B w0 W (mmR m (twR nt nm rn vp vt l ss))) (hm:MmOk m) (hl:NtOk l) (hn:l.length≤1000000000) (h1: -9223372036854775808≤m.fm) (h2:m.fm≤9223372036854775807):
  Calls Tryz.prog 69 #[.agg (twA nt rn),.agg (mmA m)] W fun e w'=>e= .returned (.int .i64 (msS l m.ms))∧ ∃vp' vt',Own B w0 w' (mmR m (twR nt nm rn vp' vt' (msSL l m.ms) ss)):=by
 have h7:Own B w0 ((W.alloc (twO nt rn)).alloc (mmO m)) (mmR m (blk (W.heap.size+1) (mmO m)::blk W.heap.size (twO nt rn)::twR nt nm rn vp vt l ss)):=by
  have h8:=(h.box (twO nt rn)).box (mmO m);rw [zav] at h8;exact h8.perm ((List.perm_append_comm (l₁:=[_,_]) (l₂:=[_,_,_,_,_,_])).append_right (twR nt nm rn vp vt l ss))
 have HB:=zq (zoe h7 hm);have HT:=zq (h7.blkAt 7 rfl);have hb0:=h7.blkAt 6 rfl;obtain ⟨kind,fm,view,inst,seq,res,vb,rs,vv,vs,vc,cts,vp2,pts⟩:=m;obtain ⟨a1,c1,rfl⟩: ∃a c,vb= .slice a rs.length c:=let ⟨a,c,e,_⟩:=zad (k:=5) h rfl;⟨a,c,e⟩;obtain ⟨a2,c2,rfl⟩: ∃a c,vv= .slice a vs.length c:=let ⟨a,c,e,_⟩:=zad (k:=4) h rfl;⟨a,c,e⟩;obtain ⟨a3,c3,rfl⟩: ∃a c,vc= .slice a cts.length c:=let ⟨a,c,e,_⟩:=zad (k:=2) h rfl;⟨a,c,e⟩;obtain ⟨a4,c4,rfl⟩: ∃a c,vp2= .slice a pts.length c:=let ⟨a,c,e,_⟩:=zad (k:=0) h rfl;⟨a,c,e⟩;have HS:Hid (∀b,bodyP (Mm.ms ⟨kind,fm,view,inst,seq,res,.slice a1 rs.length c1,rs,.slice a2 vs.length c2,vs,.slice a3 cts.length c3,cts,.slice a4 pts.length c4,pts⟩)=some b→SOk (fm,b)):=zq (fun b hb=>zd9 hb h1 h2);have HP:Hid (msS l (Mm.ms ⟨kind,fm,view,inst,seq,res,.slice a1 rs.length c1,rs,.slice a2 vs.length c2,vs,.slice a3 cts.length c3,cts,.slice a4 pts.length c4,pts⟩)=match bodyP (Mm.ms ⟨kind,fm,view,inst,seq,res,.slice a1 rs.length c1,rs,.slice a2 vs.length c2,vs,.slice a3 cts.length c3,cts,.slice a4 pts.length c4,pts⟩) with | none=>0 | some b=>sealN l fm b):=zq rfl
 have HP2:Hid (msSL l (Mm.ms ⟨kind,fm,view,inst,seq,res,.slice a1 rs.length c1,rs,.slice a2 vs.length c2,vs,.slice a3 cts.length c3,cts,.slice a4 pts.length c4,pts⟩)=match bodyP (Mm.ms ⟨kind,fm,view,inst,seq,res,.slice a1 rs.length c1,rs,.slice a2 vs.length c2,vs,.slice a3 cts.length c3,cts,.slice a4 pts.length c4,pts⟩) with | none=>l | some b=>sealL l fm b):=zq rfl
 generalize msS l (Mm.ms ⟨kind,fm,view,inst,seq,res,.slice a1 rs.length c1,rs,.slice a2 vs.length c2,vs,.slice a3 cts.length c3,cts,.slice a4 pts.length c4,pts⟩)=sn at*;generalize msSL l (Mm.ms ⟨kind,fm,view,inst,seq,res,.slice a1 rs.length c1,rs,.slice a2 vs.length c2,vs,.slice a3 cts.length c3,cts,.slice a4 pts.length c4,pts⟩)=sl at*;generalize bodyP (Mm.ms ⟨kind,fm,view,inst,seq,res,.slice a1 rs.length c1,rs,.slice a2 vs.length c2,vs,.slice a3 cts.length c3,cts,.slice a4 pts.length c4,pts⟩)=ob at*;have x1:=zaa hb0 1 rfl;have HL:=zq hl;clear h h7 hm hl h1 h2;go_enter Tryz.func69,Tryz.ntmps69
 go_wp2_with fail
 refine HB.out.mono ?_;rintro e w1 ⟨v1,rfl,h2⟩;have y1:=zaa (h2.blkAt 7 rfl) 1 rfl;have t0:=zaa (h2.blkAt 8 rfl) 0 rfl;have t1:=zaa (h2.blkAt 8 rfl) 1 rfl;have H2:=zq h2;obtain ⟨co,ccap,rfl,-,-⟩:=zao (k:=0) h2 rfl;clear h2 HB x1 hb0 HT;cases ob with
 | none=>
  have HP:=HP.out;have HP2:=HP2.out;simp only at HP HP2;subst HP;subst HP2;have HF:=zq ((H2.out.drop.dropAt 6 (by simp)).dropAt 6 (by simp));clear H2 y1 t0 t1;simp only [Option.isSome_none]
  go_wp2_with fail
  go_ret
  exact ⟨rfl,vp,vt,HF.out⟩
 | some b=>
  have HP:=HP.out;have HP2:=HP2.out;simp only at HP HP2;subst HP;subst HP2;have h3:Own B w0 w1 (twR nt nm rn vp vt l (bysR (.slice co b.length ccap) b::mmR ⟨kind,fm,view,inst,seq,res,.slice a1 rs.length c1,rs,.slice a2 vs.length c2,vs,.slice a3 cts.length c3,cts,.slice a4 pts.length c4,pts⟩ ss)):=((H2.out.dropAt 7 (by simp)).dropAt 7 (by simp)).perm ((List.perm_append_comm (l₁:=[_,_,_,_,_,_,_]) (l₂:=[_,_,_,_,_])).append_right ss);have HSE:=zq (zhy h3 HL.out (HS.out b rfl) hn);clear h3 H2 HS;simp only [Option.isSome_some]
  go_wp2_with fail
  refine HSE.out.mono ?_;rintro e w2 ⟨rfl,vp',vt',h4⟩;have h5:Own B w0 w2 (bysR (.slice co b.length ccap) b::mmR ⟨kind,fm,view,inst,seq,res,.slice a1 rs.length c1,rs,.slice a2 vs.length c2,vs,.slice a3 cts.length c3,cts,.slice a4 pts.length c4,pts⟩ (twR nt nm rn vp' vt' (sealL l fm b) ss)):=h4.perm ((List.perm_append_comm (l₁:=[_,_,_,_,_]) (l₂:=[_,_,_,_,_,_,_])).append_right ss);have H5:=zq h5.drop;clear h4 h5 HSE y1 t0 t1
  go_wp2_with fail
  go_ret
  exact ⟨rfl,vp',vt',H5.out⟩
end
section
variable {B:Nat} {w0 w W W':World} {ss rs:List Res} {nt nm rn:Nat} {vp v bv:Value} {vt:Rn} {l:Nt}
theorem zxr {b:Nat} {T:TypeId} {c0 c1 c2 c3 c4 c5 v0 v1 v2 v3 v4 v5:Value} (h:Own B w0 W (blk b (.cells #[c0,c1,c2,c3,c4,c5] T (0,0))::rs)):Own B w0 ((((((W.setCell ⟨b,0,none⟩ v0).setCell ⟨b,1,none⟩ v1).setCell ⟨b,2,none⟩ v2).setCell ⟨b,3,none⟩ v3).setCell ⟨b,4,none⟩ v4).setCell ⟨b,5,none⟩ v5) (blk b (.cells #[v0,v1,v2,v3,v4,v5] T (0,0))::rs):=(Own.storeTo (Own.storeTo (Own.storeTo (Own.storeTo (Own.storeTo (Own.storeTo h 0 v0 rfl) 1 v1 rfl) 2 v2 rfl) 3 v3 rfl) 4 v4 rfl) 5 v5 rfl)
theorem zwm (r:Rq) (h:Own B w0 W (twR nt nm rn vp vt l ss)) (hl:NtOk l) (hn:l.length≤1000000000):
  Calls Tryz.prog 42 #[.agg (twA nt rn),rqAgg r] W fun e w'=>e= .returned (rqAgg (rqS l r))∧ ∃vp' vt',Own B w0 w' (twR nt nm rn vp' vt' (rqSL l r) ss):=by
 have h7:=((h.box (twO nt rn)).box (rqO r)).box (.cells #[.int .i64 0,.int .i64 0,.int .i64 0,.int .i64 0,.int .i64 0,.int .i64 0] 38 (0,0));simp only [zav] at h7;have HB:=zq (zmq r h7);have b1:=h7.blkAt 1 rfl;have x0:=zaa b1 0 rfl;have x1:=zaa b1 1 rfl;have x2:=zaa b1 2 rfl;have x3:=zaa b1 3 rfl;have x4:=zaa b1 4 rfl;have x5:=zaa b1 5 rfl;have HX:Hid (reqW {r with sl:=0}=true→SOk (100+r.client,rqX r)):=zq (fun e=>rqX_ok e);have HE:Hid (rqS l r=if reqW {r with sl:=0} then {r with sl:=sealN l (100+r.client) (rqX r)} else r):=zq rfl;have HE2:Hid (rqSL l r=if reqW {r with sl:=0} then sealL l (100+r.client) (rqX r) else l):=zq rfl;have HL:=zq hl;generalize rqS l r=rr at*;generalize rqSL l r=rl at*;generalize reqW {r with sl:=0}=ok at*;generalize rqX r=b at*;obtain ⟨client,time,kind,key,val,sl⟩:=r;unfold rqAgg;clear h h7 b1 hl;go_enter Tryz.func42,Tryz.ntmps42
 go_wp2_with fail
 refine HB.out.mono ?_;rintro e w1 ⟨v1,rfl,h2⟩;have H2:=zq h2;have t0:=zaa (h2.blkAt 3 rfl) 0 rfl;have t1:=zaa (h2.blkAt 3 rfl) 1 rfl;have y0:=zaa (h2.blkAt 2 rfl) 0 rfl;have y1:=zaa (h2.blkAt 2 rfl) 1 rfl;have y2:=zaa (h2.blkAt 2 rfl) 2 rfl;have y3:=zaa (h2.blkAt 2 rfl) 3 rfl;have y4:=zaa (h2.blkAt 2 rfl) 4 rfl;have y5:=zaa (h2.blkAt 2 rfl) 5 rfl;clear h2 HB x0 x1 x2 x3 x4 x5;cases ok with
 | false=>
  have HE:=HE.out;have HE2:=HE2.out;simp only [Bool.false_eq_true,if_false] at HE HE2;subst HE;subst HE2;have H3:=zq H2.out.drop;clear H2 HX;have z0:=zaa (H3.out.blkAt 0 rfl) 0 rfl;have f0:=zab (H3.out.blkAt 0 rfl) 0;have z1:=zaa (H3.out.blkAt 0 rfl) 1 rfl;have f1:=zab (H3.out.blkAt 0 rfl) 1;have z2:=zaa (H3.out.blkAt 0 rfl) 2 rfl;have f2:=zab (H3.out.blkAt 0 rfl) 2;have z3:=zaa (H3.out.blkAt 0 rfl) 3 rfl;have f3:=zab (H3.out.blkAt 0 rfl) 3;have z4:=zaa (H3.out.blkAt 0 rfl) 4 rfl;have f4:=zab (H3.out.blkAt 0 rfl) 4;have z5:=zaa (H3.out.blkAt 0 rfl) 5 rfl;have f5:=zab (H3.out.blkAt 0 rfl) 5
  go_wp2_with fail
  have H9:=zq (zxr (v0:= .int .i64 client) (v1:= .int .i64 time) (v2:= .int .i64 kind) (v3:= .int .i64 key) (v4:= .int .i64 val) (v5:= .int .i64 sl) H3.out);generalize World.setCell (World.setCell (World.setCell (World.setCell (World.setCell (World.setCell w1 _ _) _ _) _ _) _ _) _ _) _ _=w9 at*;have u0:=zaa (H9.out.blkAt 0 rfl) 0 rfl;have u1:=zaa (H9.out.blkAt 0 rfl) 1 rfl;have u2:=zaa (H9.out.blkAt 0 rfl) 2 rfl;have u3:=zaa (H9.out.blkAt 0 rfl) 3 rfl;have u4:=zaa (H9.out.blkAt 0 rfl) 4 rfl;have u5:=zaa (H9.out.blkAt 0 rfl) 5 rfl;clear z0 z1 z2 z3 z4 z5 f0 f1 f2 f3 f4 f5;exact bodyPost_ret (v:= .agg #[.int .i64 client,.int .i64 time,.int .i64 kind,.int .i64 key,.int .i64 val,.int .i64 sl]) (by simp [results,Tryz.results42,go_sem,u0,u1,u2,u3,u4,u5]) rfl ⟨rfl,vp,vt,H9.out.drop.drop.drop⟩
 | true=>
  have HE:=HE.out;have HE2:=HE2.out;rw [if_pos rfl] at HE HE2;subst HE;subst HE2;obtain ⟨co,ccap,rfl,-,-⟩:=zao (k:=0) H2.out rfl;have hsk:=HX.out rfl;have hp1: -9223372036854775808≤100+client:=hsk.p1;have hp2:100+client≤9223372036854775807:=hsk.p2;have HSE:=zq (zhy (H2.out.perm ((List.perm_append_comm (l₁:=[_,_,_,_]) (l₂:=[_,_,_,_,_])).append_right ss)) HL.out hsk hn);clear H2 HX hsk
  go_wp2_with fail
  refine HSE.out.mono ?_;rintro e w2 ⟨rfl,vp',vt',h4⟩;have h5:=h4.perm ((List.perm_append_comm (l₁:=[_,_,_,_,_]) (l₂:=[_,_,_,_])).append_right ss);have h6:=h5.drop.swap;have q5:=zaa (h6.blkAt 0 rfl) 5 rfl;have g5:=zab (h6.blkAt 0 rfl) 5;have H7:=zq (Own.storeTo h6 5 (.int .i64 (sealN l (100+client) b)) (o':=rqO ⟨client,time,kind,key,val,sealN l (100+client) b⟩) rfl);clear h4 h5 h6 HSE y0 y1 y2 y3 y4 y5;simp only;have p0:=zaa (H7.out.blkAt 0 rfl) 0 rfl;have p1:=zaa (H7.out.blkAt 0 rfl) 1 rfl;have p2:=zaa (H7.out.blkAt 0 rfl) 2 rfl;have p3:=zaa (H7.out.blkAt 0 rfl) 3 rfl;have p4:=zaa (H7.out.blkAt 0 rfl) 4 rfl;have p5:=zaa (H7.out.blkAt 0 rfl) 5 rfl;have H8:=zq H7.out.swap;clear H7;have z0:=zaa (H8.out.blkAt 0 rfl) 0 rfl;have f0:=zab (H8.out.blkAt 0 rfl) 0;have z1:=zaa (H8.out.blkAt 0 rfl) 1 rfl;have f1:=zab (H8.out.blkAt 0 rfl) 1;have z2:=zaa (H8.out.blkAt 0 rfl) 2 rfl;have f2:=zab (H8.out.blkAt 0 rfl) 2;have z3:=zaa (H8.out.blkAt 0 rfl) 3 rfl;have f3:=zab (H8.out.blkAt 0 rfl) 3;have z4:=zaa (H8.out.blkAt 0 rfl) 4 rfl;have f4:=zab (H8.out.blkAt 0 rfl) 4;have z5:=zaa (H8.out.blkAt 0 rfl) 5 rfl;have f5:=zab (H8.out.blkAt 0 rfl) 5
  go_wp2_with fail
  have H9:=zq (zxr (v0:= .int .i64 client) (v1:= .int .i64 time) (v2:= .int .i64 kind) (v3:= .int .i64 key) (v4:= .int .i64 val) (v5:= .int .i64 (sealN l (100+client) b)) H8.out);generalize World.setCell (World.setCell (World.setCell (World.setCell (World.setCell (World.setCell (World.setCell w2 _ _) _ _) _ _) _ _) _ _) _ _) _ _=w9 at*;have u0:=zaa (H9.out.blkAt 0 rfl) 0 rfl;have u1:=zaa (H9.out.blkAt 0 rfl) 1 rfl;have u2:=zaa (H9.out.blkAt 0 rfl) 2 rfl;have u3:=zaa (H9.out.blkAt 0 rfl) 3 rfl;have u4:=zaa (H9.out.blkAt 0 rfl) 4 rfl;have u5:=zaa (H9.out.blkAt 0 rfl) 5 rfl;clear z0 z1 z2 z3 z4 z5 f0 f1 f2 f3 f4 f5;exact bodyPost_ret (v:= .agg #[.int .i64 client,.int .i64 time,.int .i64 kind,.int .i64 key,.int .i64 val,.int .i64 (sealN l (100+client) b)]) (by simp [results,Tryz.results42,go_sem,u0,u1,u2,u3,u4,u5]) rfl ⟨rfl,vp',vt',H9.out.drop.drop.drop⟩
end
def chkN (l:Nt) (p:Int) (b:Bys) (sl:Int):Bool:=decide ((p,b)∈l)&&(findN l p b==sl)
section
variable {B:Nat} {w0 w W W':World} {ss rs:List Res} {rn:Nat} {vp vt v bv:Value} {l:Nt}
end
def givE (l:Nt) (fm:Int) (b:Bys):Bys:=bysO (envP (sealN l fm b) b)
section
variable {B:Nat} {w0 w W W':World} {ss rs:List Res} {nt nm rn x:Nat} {vp v bv:Value} {vt:Rn} {l:Nt}
theorem zy3 {m:Mm} {b:Bys} {K:World→Prop} (h:Own B w0 W (mmR m (twR nt nm rn vp vt l ss))) (hm:MmOk m) (hl:NtOk l) (hn:l.length≤1000000000) (h1: -9223372036854775808≤m.fm) (h2:m.fm≤9223372036854775807) (hb:bodyP m.ms=some b)
  (hT: ∀w1 ev vp' vt',Own B w0 w1 (bysR ev (givE l m.fm b)::twR nt nm rn vp' vt' (sealL l m.fm b) (mmR m ss))→Calls Tryz.prog 34 #[.pointer (some ⟨x,0,none⟩),.int .i64 m.fm,ev] w1 fun e w'=>e= .returned (.tuple #[])∧K w'):
  Calls Tryz.prog 23 #[.pointer (some ⟨x,0,none⟩),.agg (twA nt rn),.agg (mmA m)] W fun e w'=>e= .returned (.tuple #[])∧K w':=by
 have h7:Own B w0 ((W.alloc (twO nt rn)).alloc (mmO m)) (mmR m (blk (W.heap.size+1) (mmO m)::blk W.heap.size (twO nt rn)::twR nt nm rn vp vt l ss)):=by
  have h8:=(h.box (twO nt rn)).box (mmO m);rw [zav] at h8;exact h8.perm ((List.perm_append_comm (l₁:=[_,_]) (l₂:=[_,_,_,_,_,_])).append_right (twR nt nm rn vp vt l ss))
 have HB:=zq (zoe h7 hm);rw [hb] at HB;have hsk:SOk (m.fm,b):=zd9 hb h1 h2;have hbl:b.length≤65536:=(ze9 hb).2;have HK:=zq hT;have HL:=zq hl;have hb0:=h7.blkAt 6 rfl;obtain ⟨kind,fm,view,inst,seq,res,vb,rs,vv,vs,vc,cts,vp2,pts⟩:=m;obtain ⟨a1,c1,rfl⟩: ∃a c,vb= .slice a rs.length c:=let ⟨a,c,e,_⟩:=zad (k:=5) h rfl;⟨a,c,e⟩;obtain ⟨a2,c2,rfl⟩: ∃a c,vv= .slice a vs.length c:=let ⟨a,c,e,_⟩:=zad (k:=4) h rfl;⟨a,c,e⟩;obtain ⟨a3,c3,rfl⟩: ∃a c,vc= .slice a cts.length c:=let ⟨a,c,e,_⟩:=zad (k:=2) h rfl;⟨a,c,e⟩;obtain ⟨a4,c4,rfl⟩: ∃a c,vp2= .slice a pts.length c:=let ⟨a,c,e,_⟩:=zad (k:=0) h rfl;⟨a,c,e⟩;simp only at h1 h2 hsk HK;have x1:=zaa hb0 1 rfl;have HX:=zq hsk;have HE:Hid (givE l fm b=bysO (envP (sealN l fm b) b)):=zq rfl;clear h h7 hm hl hT hsk hb0 hb;go_enter Tryz.func23,Tryz.ntmps23
 go_wp2_with fail
 refine HB.out.mono ?_;rintro e w1 ⟨v1,rfl,h2⟩;have y1:=zaa (h2.blkAt 7 rfl) 1 rfl;have t0:=zaa (h2.blkAt 8 rfl) 0 rfl;have t1:=zaa (h2.blkAt 8 rfl) 1 rfl;obtain ⟨co,ccap,rfl,-,-⟩:=zao (k:=0) h2 rfl;have h3:Own B w0 w1 (twR nt nm rn vp vt l (bysR (.slice co b.length ccap) b::(mmR ⟨kind,fm,view,inst,seq,res,.slice a1 rs.length c1,rs,.slice a2 vs.length c2,vs,.slice a3 cts.length c3,cts,.slice a4 pts.length c4,pts⟩ (blk (W.heap.size+1) _::ss)))):=(h2.dropAt 8 (by simp)).perm ((List.perm_append_comm (l₁:=[_,_,_,_,_,_,_,_]) (l₂:=[_,_,_,_,_])).append_right ss);have HSE:=zq (zhy h3 HL.out HX.out hn);clear h2 h3 HB x1;simp only [Option.isSome_some]
 go_wp2_with fail
 refine HSE.out.mono ?_;rintro e w2 ⟨rfl,vp',vt',h4⟩;have z1:=zaa (h4.blkAt 12 rfl) 1 rfl;have h5:Own B w0 w2 (bysR (.slice co b.length ccap) b::twR nt nm rn vp' vt' (sealL l fm b) (mmR ⟨kind,fm,view,inst,seq,res,.slice a1 rs.length c1,rs,.slice a2 vs.length c2,vs,.slice a3 cts.length c3,cts,.slice a4 pts.length c4,pts⟩ (blk (W.heap.size+1) _::ss))):=h4.perm ((List.perm_append_comm (l₁:=[_,_,_,_,_]) (l₂:=[_])).append_right _);have HEN:=zq (renv_any (sealN l fm b) h5 hbl);rw [←HE.out] at HEN;clear h4 h5 HSE y1 t0 t1
 go_wp2_with fail
 refine HEN.out.mono ?_;rintro e w3 ⟨v3,rfl,h6⟩;have HTK:=zq (HK.out w3 v3 vp' vt' ((h6.dropAt 1 (by simp)).dropAt 12 (by simp)));have q1:=zaa (h6.blkAt 13 rfl) 1 rfl;clear h6 HEN z1
 go_wp2_with fail
 refine HTK.out.mono ?_;rintro e w4 ⟨rfl,hk⟩;have HF:=zq hk;clear hk HTK q1
 go_wp2_with fail
 exact bodyPost_end (results_none rfl _ _ _) rfl ⟨rfl,HF.out⟩
end
theorem zer (l:Nt) (p:Int) (b:Bys):(p,b)∈sealL l p b:=by
 unfold sealL;by_cases h:(p,b)∈l
 ·rw [if_pos h];exact h
 ·rw [if_neg h];simp
theorem zin (l:Nt) (p:Int) (b:Bys):sealN (sealL l p b) p b=sealN l p b:=by
 unfold sealL;by_cases h:(p,b)∈l
 ·rw [if_pos h]
 ·rw [if_neg h]
  unfold sealN;rw [List.idxOf_append,if_neg h,List.idxOf_cons_self,List.idxOf_eq_length h];simp
theorem zfc (l:Nt) (p:Int) (b:Bys):findN (sealL l p b) p b=sealN l p b:=by
 unfold findN;rw [if_pos (zer l p b),zin]
theorem zsx {l:Nt} {x:Int×Bys} (p:Int) (b:Bys) (h:x∈l):x∈sealL l p b:=by
 unfold sealL;split
 ·exact h
 ·exact List.mem_append.2 (.inl h)
theorem zuf {l:Nt} {q:Int} {c:Bys} (p:Int) (b:Bys) (h:(q,c)∈l):findN (sealL l p b) q c=findN l q c:=by
 unfold findN;rw [if_pos (zsx p b h),if_pos h];unfold sealN sealL;split
 ·rfl
 ·rw [List.idxOf_append,if_pos h]
theorem zjv {l:Nt} (hn:l.length≤1000000000) (p:Int) (b:Bys):numOk (sealN l p b)=true:=by
 have:=zjw l p b;unfold numOk;simp;omega
theorem zq4 {l:Nt} (hn:l.length≤1000000000) (p:Int) {b:Bys} (hb:b.length≤65530):givE l p b=numB (sealN l p b)++b:=by
 have h1:=zjv hn p b;have h2:=zdf (sealN l p b);unfold numX at h2;rw [if_pos h1] at h2;unfold givE envP;rw [h1,if_pos (by simp;omega)];rfl
theorem znz {l:Nt} {m:Ms} {b:Bys} {f:Nat} {cl:Int} (hb:bodyP m=some b) (hl:b.length≤65530) (hn:l.length≤1000000000):openP (sealL l m.fm b) f cl (givE l m.fm b)=if formP f cl m then some (m,sealN l m.fm b) else none:=by
 have h1:=zjv hn m.fm b;rw [zq4 hn m.fm hl];have h2:takeN (numB (sealN l m.fm b)++b) 0=some ((sealN l m.fm b).toNat,0+(numB (sealN l m.fm b)).length):=ze6 (fun i hi=>by rw [Nat.zero_add,List.getElem?_append_left hi]) h1;have h3:(numB (sealN l m.fm b)++b).drop (0+(numB (sealN l m.fm b)).length)=b:=by simp
 have h4:=zcy h1;unfold openP;rw [h2];simp only;rw [h3,zqa hb];simp only;rw [h4,zfc];simp [zer]
def chgQ (i v:Int):Ms:=⟨6,i,v,0,0,0,[],[],[],[]⟩
def chgB (i v:Int):Bys:=msB (chgQ i v)
theorem zaz (n:Int):(numB n).length≤6:=by
 have:=(zg1 5 n.toNat).2;unfold numB;omega
theorem chg_len (i v:Int):(chgB i v).length≤65530:=by
 have a:=zaz i;have b:=zaz v;unfold chgB chgQ msB;simp only [List.length_append];have c:(numB 6).length=1:=by decide
 have d:(numB 0).length=1:=by decide
 have e:(sgnB 0).length=1:=by decide
 simp [listB,c,d,e];omega
def qv (f:Nat) (s:Int) (b:List Rq) (n:Nat):List Vt:=List.replicate n ⟨true,s,b⟩++List.replicate (3*f+1-n) noVt
def qvs (f:Nat) (s:Int) (b:List Rq):Vs:=(picks b (qv f s b (2*f+1)) 0).take (2*f+1)
def mSl (f k n m:Nat):Sl:=⟨true,[rq 0 k],qv f 1 [rq 0 k] n,qv f 2 [rq 0 k] m⟩
def mPl (f k n m:Nat):Pl:= {zbg f with sl:=mSl f k n m}
def pCp (f:Nat) (v:Int) (k:Nat):Cp:=⟨v,0,k,[rq 0 k],qvs f 1 [rq 0 k]⟩
def dCp (f:Nat) (v:Int) (k:Nat):Cp:=⟨v,0,k,[rq 0 k],qvs f 2 [rq 0 k]⟩
def tPl (f:Nat) (v:Int) (k:Nat):Pl:= {mPl f k (2*f+1) (2*f+1) with told:=true,has:=true,ct:=pCp f v k}
def fPl (f:Nat) (v:Int) (k:Nat):Pl:= {tPl f v k with done:=true,dw:=dCp f v k}
def gs (f:Nat) (v:Int) (d:Nat) (p:Pl):In:=⟨f,0,1,v,true,(List.range 16).map fun j=>if j<d then fPl f v (j+1) else if j=d then p else zbg f⟩
abbrev gz (f:Nat) (v:Int) (d:Nat):In:=gs f v d (zbg f)
def Rises (vs:Vs) (n:Int):Prop:=vs.Pairwise (fun a b=>a.1<b.1)∧ ∀p∈vs,0≤p.1∧p.1<n
def cs (f:Nat) (num v:Int) (on:Bool) (p:Pl):In:=⟨f,num,4,v,on,(List.range 16).map fun j=>if j=1 then p else zbg f⟩
section
variable {f:Nat} {num v:Int} {on:Bool} {p:Pl}
end
end Go.Proofs.YtannckelmojkoaaGreat
namespace Go.Heap
open Go Go.RowKit
section
variable {r r' s:Res} {w w' W W' w0:World} {A A' N:List Nat} {rs ss:List Res} {B:Nat}
def Fr (W:World) (rs:List Res):List Nat:=(List.range W.heap.size).filter fun k=>decide (k∉Ms rs)
theorem zzt (W:World) (rs:List Res) (k:Nat):k∈Fr W rs↔k<W.heap.size∧k∉Ms rs:=by simp [Fr]
theorem Own.mkI {r:Res} (h:Own B w0 W rs) (hM:r.M=[]) (hq:(∀k∈Fr W rs,k<W.heap.size)→r.Q W (Fr W rs)):Own B w0 W (r::rs):=
 h.new (Upd.refl [] _) ⟨Fr W rs,hq (fun k hk=>((zzt _ _ _).1 hk).1),fun k hk=>((zzt _ _ _).1 hk).2,fun k hk=>h.lt k hk⟩ (by simp [hM])
theorem Own.mkRed {v:Value} {sz n:Nat} {xs:List Value} (h:Own B w0 W rs) (hq:zat W v sz n xs (Fr W rs)):Own B w0 W (redR v sz n xs::rs):=h.mkI rfl (fun hlt=>⟨hq,hlt⟩)
theorem Own.fr {r:Res} (h:Own B w0 W rs) (hr:r∈rs): ∃D,r.Q W D∧((∀k∈D,k<W.heap.size)→ ∀k∈D,k∈Fr W rs):=by
 obtain ⟨⟨D,h1,h3,-⟩,-⟩:=h.all _ hr;exact ⟨D,h1,fun h2 k hk=>(zzt _ _ _).2 ⟨h2 k hk,h3 k hk⟩⟩
theorem Own.redFr {v:Value} {sz n:Nat} {xs:List Value} (h:Own B w0 W rs) (k:Nat) (e:rs[k]?=some (redR v sz n xs)):zat W v sz n xs (Fr W rs):=by
 obtain ⟨D,⟨h1,h2⟩,h3⟩:=h.fr (List.mem_of_getElem? e);exact h1.mono (h3 h2)
theorem Own.toRed {E sz n:Nat} {v:Value} {xs:List Value} (h:Own B w0 W (ownR E sz v n xs::rs)):Own B w0 W (redR v sz n xs::rs):=by
 refine h.drop.red (Go.Proofs.YtannckelmojkoaaGreat.owns_reads (zam h.head)) (fun k hk hn=> ?_);have hk':=zc8 hk;obtain ⟨s,hs,hks⟩:=(zj9 _ _).1 hn;exact (List.pairwise_cons.1 h.apart).1 s hs k hk' hks
theorem Own.copy {r:Res} (h:Own B w0 W rs) (hr:r∈rs) (hM:r.M=[]):Own B w0 W (r::rs):=
 h.new (Upd.refl [] _) (h.all r hr).1 (by simp [hM])
theorem Own.sub (h:Own B w0 W (rs++ss)):Own B w0 W ss:=by
 induction rs with
 | nil=>exact h
 | cons r rs ih=>exact ih h.drop
end
end Go.Heap
namespace Go.Proofs.YtannckelmojkoaaGreat
open Go.RowKit Go.Heap
structure MmIn (w:World) (m:Mm) (D:List Nat):Prop where
 b:zat w m.vb 6 m.rs.length (m.rs.flatMap zbh) D
 v:zat w m.vv 2 m.vs.length (m.vs.flatMap za2) D
 c:zat w m.vc 5 m.cts.length (m.cts.flatMap zag) D
 cs: ∀c∈m.cts,CtIn w c D
 p:zat w m.vp 4 m.pts.length (m.pts.flatMap zaj) D
 ps: ∀p∈m.pts,PtIn w p D
 ok:MmOk m
theorem MmIn.dep {w w':World} {m:Mm} {D:List Nat} (h:MmIn w m D) (hk: ∀k∈D,w'.heap[k]?=w.heap[k]?) (hs:w.heap.size≤w'.heap.size):MmIn w' m D:=
 ⟨zat.dep h.b hk hs,zat.dep h.v hk hs,zat.dep h.c hk hs,fun c hc=>(h.cs c hc).dep hk hs,zat.dep h.p hk hs,fun p hp=>(h.ps p hp).dep hk hs,h.ok⟩
theorem MmIn.mono {w:World} {m:Mm} {D D':List Nat} (h:MmIn w m D) (hs: ∀k∈D,k∈D'):MmIn w m D':=
 ⟨h.b.mono hs,h.v.mono hs,h.c.mono hs,fun c hc=>(h.cs c hc).mono hs,h.p.mono hs,fun p hp=>(h.ps p hp).mono hs,h.ok⟩
def mmsR (l:List Mm):Res:=imm (fun w D=> ∀m∈l,MmIn w m D) (fun h hk hs m hm=>(h m hm).dep hk hs)
structure BysIn (w:World) (v:Value) (b:Bys) (D:List Nat):Prop where
 r:zat w v 1 b.length (bysC b) D
 lt: ∀c∈b,c<256
 n:b.length≤65536
theorem BysIn.dep {w w':World} {v:Value} {b:Bys} {D:List Nat} (h:BysIn w v b D) (hk: ∀k∈D,w'.heap[k]?=w.heap[k]?) (hs:w.heap.size≤w'.heap.size):BysIn w' v b D:=⟨zat.dep h.r hk hs,h.lt,h.n⟩
theorem BysIn.mono {w:World} {v:Value} {b:Bys} {D D':List Nat} (h:BysIn w v b D) (hs: ∀k∈D,k∈D'):BysIn w v b D':=⟨h.r.mono hs,h.lt,h.n⟩
structure Sd where
 dst:Int
 v:Value
 b:Bys
def Sd.p (s:Sd):Int×Bys:=(s.dst,s.b)
def sdC (s:Sd):List Value:=[.int .i64 s.dst,s.v]
def sdsR (l:List Sd):Res:=imm (fun w D=> ∀s∈l,BysIn w s.v s.b D) (fun h hk hs s hm=>(h s hm).dep hk hs)
section
variable {B:Nat} {w0 w W W':World} {ss rs:List Res}
theorem zkd (h:Own B w0 W rs) (k:Nat) {l:List Ct} (e:rs[k]?=some (ctsR l)): ∀c∈l,CtIn W c (Fr W rs):=by
 obtain ⟨D,⟨h1,h2⟩,h3⟩:=h.fr (List.mem_of_getElem? e);exact fun c hc=>(h1 c hc).mono (h3 h2)
theorem zpp (h:Own B w0 W rs) (k:Nat) {l:List Pt} (e:rs[k]?=some (ptsR l)): ∀c∈l,PtIn W c (Fr W rs):=by
 obtain ⟨D,⟨h1,h2⟩,h3⟩:=h.fr (List.mem_of_getElem? e);exact fun c hc=>(h1 c hc).mono (h3 h2)
theorem sds_fr (h:Own B w0 W rs) (k:Nat) {l:List Sd} (e:rs[k]?=some (sdsR l)): ∀c∈l,BysIn W c.v c.b (Fr W rs):=by
 obtain ⟨D,⟨h1,h2⟩,h3⟩:=h.fr (List.mem_of_getElem? e);exact fun c hc=>(h1 c hc).mono (h3 h2)
theorem _root_.Go.Heap.Own.mkCts {l:List Ct} (h:Own B w0 W rs) (hq: ∀c∈l,CtIn W c (Fr W rs)):Own B w0 W (ctsR l::rs):=h.mkI rfl (fun hlt=>⟨hq,hlt⟩)
theorem _root_.Go.Heap.Own.mkPts {l:List Pt} (h:Own B w0 W rs) (hq: ∀c∈l,PtIn W c (Fr W rs)):Own B w0 W (ptsR l::rs):=h.mkI rfl (fun hlt=>⟨hq,hlt⟩)
theorem _root_.Go.Heap.Own.mkMms {l:List Mm} (h:Own B w0 W rs) (hq: ∀c∈l,MmIn W c (Fr W rs)):Own B w0 W (mmsR l::rs):=h.mkI rfl (fun hlt=>⟨hq,hlt⟩)
theorem _root_.Go.Heap.Own.mkSds {l:List Sd} (h:Own B w0 W rs) (hq: ∀c∈l,BysIn W c.v c.b (Fr W rs)):Own B w0 W (sdsR l::rs):=h.mkI rfl (fun hlt=>⟨hq,hlt⟩)
theorem zzv {m:Mm} (h:Own B w0 W (mmR m ss)):Own B w0 W ss:=h.drop.drop.drop.drop.drop.drop
theorem zyy {r:Res} {l:List Res} (h:r.M=[]):Fr W (r::l)=Fr W l:=by unfold Fr;rw [zjb h]
end
end Go.Proofs.YtannckelmojkoaaGreat
