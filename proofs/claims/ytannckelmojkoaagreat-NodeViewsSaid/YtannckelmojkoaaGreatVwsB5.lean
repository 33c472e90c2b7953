/- Parts of the proof, one behind the other. -/
import Derived.Test.YtannckelmojkoaaGreatVwsB4
import Derived.Deep.MidRow
set_option maxHeartbeats 32000000
set_option maxRecDepth 100000
set_option linter.unusedVariables false
set_option linter.unusedSimpArgs false
namespace Go.Proofs.YtannckelmojkoaaGreat
open Go.RowKit Go.Heap
section
variable {B:Nat} {w0 W W':World} {ss:List Res} {x:Ins}
theorem zgo {seq:Int} {k:Nat} (h:InsOk x) (hk:idx seq=some k): ∃hk':k<x.l.length,plAt x.st seq=some x.l[k].pl:=by
 have hk':k<x.l.length:=by rw [h.n];exact (zo8 hk).1
 exact ⟨hk',by simp [plAt,hk,Ins.st,hk']⟩
theorem zgn {seq:Int} {st:In} (hk:idx seq=none):plAt st seq=none:=by simp [plAt,hk]
abbrev Ins.sl (x:Ins) (k:Nat) (p:Pm):Ins:= {x with l:=x.l.set k p}
theorem zpv (x:Ins) (k:Nat) (hk:k<x.l.length) (p:Pm) (g:Pl→Pl) (hp:p.pl=g x.l[k].pl):(x.sl k p).st=x.st.upd k g:=by
 simp only [Ins.st,In.upd,In.mk.injEq,true_and];apply List.ext_getElem?;intro j;rw [List.map_set,List.getElem?_modify,List.getElem?_set];by_cases e:k=j
 ·subst e
  simp [hk,hp]
 ·simp [e]
def zwv (W:World) (r:List Rq×Bool) (e:Ending) (w':World):Prop:= ∃u,e= .returned (.tuple #[u,.bool r.2])∧Upd [] W w'∧Bat w' u r.1∧ ∀k∈blkOf u,W.heap.size≤k
theorem zq9 (h:Own B w0 W (instR x::ss)) {i:Nat} (hi:x.i=i) (seq:Int):Calls Tryz.prog 220 #[.pointer (some ⟨i,0,none⟩),.int .i64 seq] W (zwv W (zbj x.st seq)):=by
 subst hi;have ho:=zcg h;obtain ⟨-,-,-,-,-,c5,l1,l2⟩:=zcd ho;cases hk:idx seq with
 | none=>
  have hs:=zi7 hk;have HE:=zq (show zbj x.st seq=([],false) by simp [zbj,zgn hk]);have HA:=zq (at_no x.i x.b x.cap seq W hs c5);clear ho h hk hs c5;go_enter Tryz.func220,Tryz.ntmps220
  go_wp2_with fail
  refine HA.out.mono ?_;rintro e w' ⟨rfl,rfl⟩
  go_wp2_with fail
  go_ret2
  rw [HE.out];exact ⟨.slice none 0 0,rfl,Upd.refl _ _,Reads.nil _ _,by simp [blkOf]⟩
 | some k=>
  obtain ⟨hl,hp⟩:=zgo (oi_ok ho) hk;have HE:=zq (show zbj x.st seq=(zfb x.l[k].sl,x.l[k].sl.has) by simp [zbj,hp,Pm.pl]);obtain ⟨i1,i2⟩:=zo8 hk;have HA:=zq (ztv x.i x.b x.cap seq W (by omega) (by omega) c5);have hks:seq.toNat-1=k:=by omega
  rw [hks] at HA;have cp:=zkm ho k hl;have HC:=zq (zhd (zex ho k hl));clear ho h hk c5 hp i2 hks;go_enter Tryz.func220,Tryz.ntmps220
  go_wp2_with fail
  refine HA.out.mono ?_;rintro e w' ⟨rfl,rfl⟩
  go_wp2_with fail
  refine HC.out.mono ?_;rintro e w' ⟨u,rfl,hu,hb,hn⟩;have HU:=zq hu;have HB:=zq hb;have HN:=zq hn;clear hu hb hn
  go_wp2_with fail
  go_ret2
  rw [HE.out];exact ⟨u,rfl,HU.out,HB.out,HN.out⟩
def InsP (B:Nat) (w0 _W:World) (i:Nat) (st:In) (ss:List Res) (r:Value) (e:Ending) (w':World):Prop:=e= .returned r∧ ∃x':Ins,x'.i=i∧x'.st=st∧Own B w0 w' (instR x'::ss)
theorem zno (h:Own B w0 W (instR x::ss)) {st:In} (hst:st=x.st) {r:Value}:InsP B w0 W x.i st ss r (.returned r) W:=⟨rfl,x,rfl,hst.symm,h⟩
theorem vote_off {seq:Int} {st:In} (hk:idx seq=none) (kind node sl:Int) (l:List Rq):voteB st kind seq node=false∧voteI st kind seq node sl l=st:=by
 simp [voteB,voteI,zgn hk,hk]
theorem zy6 (h:Own B w0 W (instR x::ss)) {i:Nat} (hi:x.i=i) (kind seq node sl:Int) (v:Value) (l:List Rq) (hb:Bat W v l) (hn:l.length≤100000):
  Calls Tryz.prog 236 #[.pointer (some ⟨i,0,none⟩),.int .i64 kind,.int .i64 seq,.int .i64 node,.int .i64 sl,v] W (InsP B w0 W i (voteI x.st kind seq node sl l) ss (.bool (voteB x.st kind seq node))):=by
 subst hi;have ho:=zcg h;obtain ⟨-,-,-,-,c4,c5,l1,l2⟩:=zcd ho;cases hk:idx seq with
 | none=>
  have hs:=zi7 hk;have HE:=zq (vote_off (st:=x.st) hk kind node sl l);have HA:=zq (at_no x.i x.b x.cap seq W hs c5);have H:=zq h;clear ho h hk hs c4 c5 hb;go_enter Tryz.func236,Tryz.ntmps236
  go_wp2_with fail
  refine HA.out.mono ?_;rintro e w' ⟨rfl,rfl⟩
  go_wp2_with fail
  go_ret
  rw [HE.out.1];exact zno H.out HE.out.2
 | some k=>
  obtain ⟨hl,hp⟩:=zgo (oi_ok ho) hk;obtain ⟨i1,i2⟩:=zo8 hk;have HA:=zq (ztv x.i x.b x.cap seq W (by omega) (by omega) c5);have hks:seq.toNat-1=k:=by omega
  rw [hks] at HA;have cp:=zkm ho k hl;by_cases hon:x.on=true
  ·rw [hon] at c4
   have HB:=zq (show voteB x.st kind seq node=zdl x.l[k].sl kind node by simp only [voteB,hp,Pm.pl];simp [Ins.st,hon]);have HI:=zq (show voteI x.st kind seq node sl l=x.st.upd k fun p=> {p with sl:=voteS p.sl kind node sl l} by simp only [voteI,hk];simp [Ins.st,hon]);have HC:=zq (zz5 (zex ho k hl) kind node sl v l hb hn);clear ho h hk c5 hp i2 hks hon hb;go_enter Tryz.func236,Tryz.ntmps236
   go_wp2_with fail
   refine HA.out.mono ?_;rintro e w' ⟨rfl,rfl⟩
   go_wp2_with fail
   refine HC.out.mono ?_;rintro e w' ⟨rfl,-,h2⟩;have H2:=zq h2;clear h2
   go_wp2_with fail
   go_ret
   rw [HB.out,HI.out];exact ⟨rfl,x.sl k {x.l[k] with sl:=voteS x.l[k].sl kind node sl l},rfl,zpv x k hl _ _ rfl,zcp (zjd k hl _ H2.out rfl ⟨rfl,rfl⟩ rfl)⟩
  ·have hon':x.on=false:=by simpa using hon
   rw [hon'] at c4;have HB:=zq (show voteB x.st kind seq node=false by simp only [voteB,hp];simp [Ins.st,hon']);have HI:=zq (show voteI x.st kind seq node sl l=x.st by simp only [voteI,hk];simp [Ins.st,hon']);have H:=zq h;clear ho h hk c5 hp i2 hks hon hb hon';go_enter Tryz.func236,Tryz.ntmps236
   go_wp2_with fail
   refine HA.out.mono ?_;rintro e w' ⟨rfl,rfl⟩
   go_wp2_with fail
   go_ret
   rw [HB.out];exact zno H.out HI.out
end
section
variable {B:Nat} {w0 W W':World} {ss rs:List Res} {x:Ins}
theorem zb7 {P:Program} {f:FuncId} {args:Array Value} {w:World} {n:Nat} {v:Value} (h:Calls P f args (w.drewN n) fun e w'=>e= .returned v∧w.drewN n=w'):Calls P f args (w.drewN n) fun e w''=>e= .returned v∧ ∃m,w''=w.drewN m:=
 h.mono fun _ _ ⟨he,hm⟩=>⟨he,n,hm.symm⟩
end
section
variable {B:Nat} {w0 W W':World} {ss rs:List Res} {x:Ins}
theorem zy5 (h:Own B w0 W (instR x::ss)) {i:Nat} (hi:x.i=i):Calls Tryz.prog 154 #[.pointer (some ⟨i,0,none⟩)] W fun e w'=>e= .returned (.int .i64 (nextI x.st))∧Upd [] W w':=by
 subst hi;have ho:=zcg h;obtain ⟨-,-,-,-,-,c5,l1,l2⟩:=zcd ho;have HN:=zq (oi_ok ho).n;have HL:=zq (fun k h1 h2 h3=>zg5 (x.l.map Pm.pl) k h1 h2 h3);have H:=zq ho;clear ho h;go_enter Tryz.func154,Tryz.ntmps154
 go_wp2_with fail
 go_loopw [3] (fun n wr=> ∃k:Nat,k≤16∧n= .int .i64 k∧Hid (∀j (hj:j<x.l.length),k≤j→x.l[j].sl.has=false)∧Hid (Upd [] W wr)) (fun n _=>(intOf n).toNat)
 case atStart=>exact ⟨16,by omega,rfl,zq (by intro j hj hk;rw [HN.out] at hj;omega),zq (Upd.refl _ _)⟩
 case round=>
  clear c5;obtain ⟨k,hk,rfl,HA,HU⟩:=hrel;have hor:=H.out.upd0 HU.out;obtain ⟨-,-,-,-,-,c5,-,-⟩:=zcd hor;by_cases h0:k=0
  ·subst h0
   clear hor
   go_wp2_with fail
   go_ret
   refine ⟨zgb ?_,HU.out⟩;rw [nextI,show zfd x.st.l=0 from HL.out 0 (by simp) (fun j hj hk=>by simpa [Pm.pl] using HA.out j (by simpa using hj) hk) (fun j _ e=>by omega)];rfl
  ·have hk0:(0:Int)<(k:Int):=by omega
   have hk1:(k:Int)-1=((k-1:Nat):Int):=by omega
   have hl:k-1<x.l.length:=by rw [HN.out];omega
   have hsub:IntKind.i64.wrap ((k:Int)-1)=((k-1:Nat):Int):=by rw [hk1];exact IntWalk.i64_in _ (by omega)
   have cp:=zkm hor (k-1) hl;have HC:=zq (zhd (zex hor (k-1) hl));clear hor hk1 h0
   go_wp2_with fail
   refine HC.out.mono ?_;rintro e w' ⟨u,rfl,hu,-,-⟩;have HU2:=zq (HU.out.trans hu);clear hu cp;cases hh:x.l[k-1].sl.has
   ·have HH:=zq hh
    clear hh
    go_wp2_with fail
    go_roundw
    case rel=>
     refine ⟨k-1,by omega,by go_num,zq (fun j hj hkj=> ?_),HU2⟩;by_cases e:j=k-1
     ·subst e;exact HH.out
     ·exact HA.out j hj (by omega)
    case measure=>simp [intOf];omega
   ·have HH:=zq hh
    clear hh
    go_wp2_with fail
    go_ret
    refine ⟨zgb ?_,HU2.out⟩;rw [nextI,show zfd x.st.l=k from HL.out k (by simp [HN.out];omega) (fun j hj hk=>by simpa [Pm.pl] using HA.out j (by simpa using hj) hk) (fun j hj e=>by subst e;simpa [Pm.pl] using HH.out)];simp
end
def rq (c t:Int):Rq:=⟨c,t,0,0,0,0⟩
abbrev rqObj (c t:Int):Obj:= .cells #[.int .i64 c,.int .i64 t,.int .i64 0,.int .i64 0,.int .i64 0,.int .i64 0] 38
theorem bat_one {w:World} {g:Nat} {c t:Int} (h:w.heap[g]?=some (rqObj c t)):Bat w (.slice (some ⟨g,0,none⟩) 1 1) [rq c t]:=by
 refine ⟨some ⟨g,0,none⟩,1,rfl,Nat.le_refl _,by simp [maxLen],rfl,(fun e=>by cases e),fun _=>⟨g,0,rfl,block_lt h,fun j hj=> ?_⟩⟩;rw [Nat.zero_add,zac h]
 match j,hj with
 | 0,_=>rfl
 | 1,_=>rfl
 | 2,_=>rfl
 | 3,_=>rfl
 | 4,_=>rfl
 | 5,_=>rfl
theorem zd2 {w:World} {v:Value} {l:Vs} (h:Vts w v l): ∃ao cap,v= .slice ao l.length cap:=let ⟨ao,cap,hv,_⟩:=h;⟨ao,cap,hv⟩
abbrev sl1 (g:Nat):Value:= .slice (some ⟨g,0,none⟩) 1 1
structure St (B:Nat) (w0 W:World) (L:Loc) (st:Sl) (bs:List (Value×List Rq)):Prop where
 below:Below B w0 W
 size:B≤W.heap.size
 M: ∀k∈L.M,B≤k
 on:On W L st []
 bat: ∀p∈bs,Bat W p.1 p.2∧ ∀b∈blkOf p.1,b∉L.M∧b<W.heap.size
section
variable {B:Nat} {w0 W W':World} {L:Loc} {st:Sl} {bs:List (Value×List Rq)}
theorem St.upd0 (h:St B w0 W L st bs) (hu:Upd [] W W'):St B w0 W' L st bs where
 below:=h.below.trans (hu.below.mono h.size)
 size:=Nat.le_trans h.size hu.size
 M:=h.M
 on:=h.on.upd0 hu
 bat:=fun p hp=>⟨(h.bat p hp).1.upd hu (by simp),fun b hb=>⟨((h.bat p hp).2 b hb).1,Nat.lt_of_lt_of_le ((h.bat p hp).2 b hb).2 hu.size⟩⟩
theorem St.alloc (h:St B w0 W L st bs) (o:Obj):St B w0 (W.alloc o) L st bs:=h.upd0 ((Upd.refl _ _).alloc o)
theorem St.drew (h:St B w0 W L st bs):St B w0 W.drew L st bs:=h.upd0 (Upd.refl _ _).drew
theorem St.batch (h:St B w0 W L st bs) (c t:Int):St B w0 (W.alloc (rqObj c t)) L st ((sl1 W.heap.size,[rq c t])::bs) where
 below:=(h.alloc _).below
 size:=(h.alloc (rqObj c t)).size
 M:=h.M
 on:=(h.alloc _).on
 bat:=by
  intro p hp;rcases List.mem_cons.1 hp with rfl | hp
  ·refine ⟨bat_one (heap_alloc_new W _),fun b hb=> ?_⟩
   simp [blkOf] at hb;subst hb;exact ⟨fun hn=>by have:=h.on.lt _ hn;omega,by simp⟩
  ·exact (h.alloc _).bat p hp
theorem St.nil (h:St B w0 W L st bs):St B w0 W L st ((.slice none 0 0,[])::bs):=
 ⟨h.below,h.size,h.M,h.on,fun p hp=>by
  rcases List.mem_cons.1 hp with rfl | hp
  ·exact ⟨Reads.nil _ _,by simp [blkOf]⟩
  ·exact h.bat p hp⟩
end
end Go.Proofs.YtannckelmojkoaaGreat
namespace Go.Mix
open Go
def calm (o:Oper):Bool:=
 match o.op with
 | .move _ | .assign _ | .extract _ _ | .pick _ _ _ | .field _ _ _ | .indexAddr _ _ _ | .index _ _ _ | .slice _ _ _ _ _ | .makeInterface _ _=>true
 | _=>false
def zgd (ops:Array Oper):Bool:=
 (List.range ops.size).all fun i=>(List.range ops.size).all fun j=>decide (j<i) || match ops[i]?,ops[j]? with
  | some oi,some oj=>calm oi || match oj.dst with
   | some d=> !(oi.looksAt ops).contains d
   | none=>true
  | _,_=>true
section
variable {P:Program} {ops:Array Oper} {Q:Exit→Act→World→Prop}
theorem znb {a:Act} {o:Oper} (h:calm o=true):zgh P a o=true:=by
 obtain ⟨dst,op,type,pos,after,guard⟩:=o;unfold calm at h;unfold zgh
 dsimp only at h⊢
 split at h<;>first | rfl | cases h
theorem zhw (h:zgd ops=true) {i j:Nat} {oi oj:Oper} (hc:calm oi=false) (hi:ops[i]?=some oi) (hj:ops[j]?=some oj) (hij:i≤j): ∀t∈oi.looksAt ops,oj.dst≠some t:=by
 intro t ht e;simp only [zgd,List.all_eq_true,List.mem_range] at h;have:=h i (Array.getElem?_eq_some_iff.1 hi).1 j (Array.getElem?_eq_some_iff.1 hj).1;rw [hi,hj] at this;simp only [e,hc,Bool.false_or,Bool.or_eq_true,decide_eq_true_eq,Bool.not_eq_true',List.contains_eq_mem,decide_eq_false_iff_not] at this;rcases this with h | h
 ·omega
 ·exact h ht
theorem zwk (hst:zgd ops=true): ∀(l:List Oper) (k:Nat) (a:Act) (w:World),ops.toList.drop k=l→wpList P ops (Fin P ops Q) l a w→mix P ops (fun _=>True) Q (autoC ops) (List.range' k l.length) a w:=by
 intro l
 induction l with
 | nil=>intro k a w _ h;exact h.2
 | cons o l ih=>
  intro k a w hl h;have hk:ops[k]?=some o:=by
   have:(ops.toList.drop k)[0]?=some o:=by rw [hl];rfl
   rw [List.getElem?_drop,Array.getElem?_toList] at this
   simpa using this
  have hl':ops.toList.drop (k+1)=l:=by
   rw [←List.drop_drop,hl];rfl
  have hlater: ∀o'∈o::l,∃j,k≤j∧ops[j]?=some o':=by
   intro o' ho';rw [←hl] at ho';obtain ⟨j,hj⟩:=List.getElem?_of_mem ho';rw [List.getElem?_drop,Array.getElem?_toList] at hj;exact ⟨k+j,by omega,hj⟩
  have hout:=zre _ _ _ h;have h:=zdt h;rw [List.length_cons,List.range'_succ];refine ⟨o,hk,?_⟩;have hc:autoC ops k=clsOf o:=by simp [autoC,hk]
  rw [hc];split at h
  ·rename_i hw
   by_cases hcl:clsOf o≤1
   ·unfold zbw
    rw [if_pos hcl];have hrun: ∃v,(∀w',(if clsOf o=0 then True else w'=w)→(execOp a.eval o).run P w'= .ok (.value v) w')∧wpList P ops (Fin P ops Q) l (a.put o.dst v) w:=by
     unfold Oper.wp at h;cases hr:(execOp a.eval o).run P w with
     | halt x w'=>rw [hr] at h;cases x<;>simp only [Oper.upon] at h;exact h.elim
     | ok n w'=>
      by_cases hc0:clsOf o=0
      ·have hpure:zgh P a o=true:=by
        by_cases hcm:calm o=true
        ·exact znb hcm
        obtain ⟨a',w'',hv,_,hsame⟩:=hout;have hlook: ∀t∈o.looksAt ops,a'.tmps[t]?=a.tmps[t]?:=fun t ht=>hsame t fun o' ho'=>by
         obtain ⟨j,hj,hoj⟩:=hlater o' ho';exact zhw hst (by simpa using hcm) hk hoj hj t ht
        refine zjn (znj hlook) ?_;simp only [zve,List.all_eq_true,List.mem_range] at hv;have h1:=hv k (Array.getElem?_eq_some_iff.1 hk).1;rw [hk] at h1;simp only [hc0,bne_self_eq_false,Bool.false_or,Bool.or_eq_true,Bool.not_eq_true',zgu hlook,hw] at h1;rcases h1 with h1 | h1
        ·cases h1
        ·exact h1
       obtain ⟨rfl,v,rfl,hall⟩:=zml hpure _ _ _ hr;rw [hr] at h;exact ⟨v,fun w2 _=>hall w2,h⟩
      ·have hload: ∃t x,o.op= .load t x:=by
        have h1:clsOf o=1:=by omega
        unfold clsOf at h1;split at h1<;>first | (rename_i heq;exact ⟨_,_,heq⟩) | omega
       obtain ⟨t,x,hop⟩:=hload;obtain ⟨rfl,v,rfl⟩:=zg7 hop hr;rw [hr] at h;refine ⟨v,fun w2 h2=> ?_,h⟩;rw [if_neg hc0] at h2;subst h2;exact hr
    obtain ⟨v,h1,h2⟩:=hrun;exact ⟨v,.inl ⟨hw,h1⟩,ih (k+1) _ _ hl' h2⟩
   ·unfold zbw
    rw [if_neg hcl];unfold Loud;rw [if_pos hw];exact Oper.wp_post (Q:=NoQ) (fun a' w' h'=>⟨trivial,ih (k+1) _ _ hl' h'⟩) h
  ·rename_i hw
   have hw':Region.wanted o (yielded ops a.tmps)=false:=by simpa using hw
   by_cases hcl:clsOf o≤1
   ·unfold zbw
    rw [if_pos hcl];exact ⟨undef,.inr ⟨hw',rfl⟩,ih (k+1) _ _ hl' h⟩
   ·unfold zbw
    rw [if_neg hcl];unfold Loud;rw [if_neg (by simp [hw'])];exact ⟨trivial,ih (k+1) _ _ hl' h⟩
theorem zh7 {id:Nat} {a:Act} {w:World} (hm:P.follows .mixedOrders=true) (hok:(zcf ops (autoC ops)&&zgd ops)=true)
  (h:wpList P ops (Fin P ops Q) ops.toList a w.drew):(Code.region id ops true).wp P Q a w:=by
 simp only [Bool.and_eq_true] at hok;refine zdq (fun _=>True) (autoC ops) hm hok.1 trivial ?_;have:=zwk hok.2 ops.toList 0 a w.drew rfl h;rw [Array.length_toList,←List.range_eq_range'] at this;exact this
theorem wp_text2 {id:Nat} {l:List Oper} {a:Act} {w:World} (hm:P.follows .mixedOrders=true) (hok:(zcf l.toArray (autoC l.toArray)&&zgd l.toArray)=true)
  (h:wpList P l.toArray (Fin P l.toArray Q) l a w.drew):(Code.region id l.toArray true).wp P Q a w:=zh7 hm hok h
end
end Go.Mix
namespace Go.Proofs.YtannckelmojkoaaGreat
open Go.RowKit Go.Heap
abbrev ctO (view inst seq:Int) (vb vv:Value):Obj:= .cells #[.int .i64 view,.int .i64 inst,.int .i64 seq,vb,vv] 42 (0,0)
theorem zbd {w:World} {b:Nat} {view inst seq:Int} {vb vv:Value} (h:w.heap[b]?=some (ctO view inst seq vb vv)):w.cell? ⟨b,0,none⟩=some (.int .i64 view)∧w.cell? ⟨b,1,none⟩=some (.int .i64 inst)∧w.cell? ⟨b,2,none⟩=some (.int .i64 seq)∧
  w.cell? ⟨b,3,none⟩=some vb∧w.cell? ⟨b,4,none⟩=some vv∧b<w.heap.size∧ ∀o,w.frozen? ⟨b,o,none⟩=false:=
 ⟨by rw [zac h];rfl,by rw [zac h];rfl,by rw [zac h];rfl,by rw [zac h];rfl,by rw [zac h];rfl,block_lt h,zab h⟩
def FreshP (w:World) (c:Ct) (e:Ending) (w':World):Prop:=
 ∃c':Ct,e= .returned (ctAgg c')∧c'.cp=c.cp∧Upd [] w w'∧Bat w' c'.vb c'.rs∧Vts w' c'.vv c'.vs∧(∀k∈blkOf c'.vb,w.heap.size≤k)∧ ∀k∈blkOf c'.vv,w.heap.size≤k
theorem zit (l:Vs): ∀u∈zaf l,u.oneCell'=true:=by
 intro u hu;simp only [zaf,List.mem_flatMap] at hu;obtain ⟨r,_,h⟩:=hu;simp only [List.mem_cons,List.not_mem_nil,or_false] at h;rcases h with rfl | rfl<;>rfl
theorem zes {w:World} {B E sz n:Nat} {v:Value} {xs:List Value} (h:w.ownsRow B E sz v n xs): ∃ao cap,v= .slice ao n cap:=by
 rcases h.2 with ⟨rfl,rfl⟩ | ⟨g,cap,cur,rfl,_⟩
 ·exact ⟨none,0,rfl⟩
 ·exact ⟨_,cap,rfl⟩
theorem owns_reads {w:World} {B E sz n:Nat} {v:Value} {xs:List Value} (h:w.ownsRow B E sz v n xs):Reads w v sz n xs:=by
 rcases h.2 with ⟨rfl,rfl⟩ | ⟨g,cap,cur,rfl,_⟩
 ·have:xs=[]:=List.eq_nil_of_length_eq_zero (by simpa using h.1)
  subst this;exact Reads.nil _ _
 ·exact Reads.of_own h
theorem zl0 (c:Ct) (w:World) (hb:Bat w c.vb c.rs) (hbn:c.rs.length≤100000) (hv:Vts w c.vv c.vs) (hvn:c.vs.length≤100000):
  Calls Tryz.prog 189 #[ctAgg c] w (FreshP w c):=by
 obtain ⟨i0,hi,hz0,hz1,hz2⟩:=info_parts Tryz.infoReq;obtain ⟨j0,hj,hy0,hy1,hy2⟩:=info_parts Tryz.infoVote;obtain ⟨view,inst,seq,vb,vv,rs,vs⟩:=c;simp only at hb hbn hv hvn;obtain ⟨ao,cap,rfl⟩:=zca hb;obtain ⟨co,cav,rfl⟩:=zd2 hv;have h1:=(((((Own.start (Below.refl w.heap.size w) (Nat.le_refl _)).red hb (by simp [Ms])).red hv (by simp [Ms,redR,imm])).box (ctO view inst seq (.slice ao rs.length cap) (.slice co vs.length cav))).box (ctO 0 0 0 (.slice none 0 0) (.slice none 0 0)));simp only [zav] at h1;have H1:=zq h1;clear hb hv h1;go_enter Tryz.func189,Tryz.ntmps189
 go_upto_region 1 with fail
 generalize (w.alloc (ctO view inst seq (.slice ao rs.length cap) (.slice co vs.length cav))).alloc (ctO 0 0 0 (.slice none 0 0) (.slice none 0 0))=w1 at*;obtain ⟨f0,f1,f2,f3,f4,fl,fz⟩:=zbd H1.out.drop.blk_out;clear fz
 go_wp2_with (at_builtin;refine zcs rfl (.tmp 4) 39 rfl 38 i0 (.agg #[.int .i64 0,.int .i64 0,.int .i64 0,.int .i64 0,.int .i64 0,.int .i64 0]) 6 48 Tryz.underlying39 hi hz0 hz1 hz2 rfl (by decide) _ _ _ rfl (zf0 H1.out.drop.drop.drop.head) (zdh rs) (by omega) ?_)
 intro v2 w2 hown2 hu2;obtain ⟨ao2,cap2,rfl⟩:=zes hown2;have H2:=zq ((H1.out.row1 hu2 hown2).swap.rot);clear f0 f1 f2 f3 f4 fl hown2 hu2 H1;obtain ⟨f0,f1,f2,f3,f4,fl,fz⟩:=zbd H2.out.blk_out;have fz3:=fz 3;clear fz
 go_upto_region 2 with fail
 have H3:=zq (H2.out.store 3 (.slice ao2 rs.length cap2));generalize w2.setCell ⟨w.heap.size,3,none⟩ (.slice ao2 rs.length cap2)=w3 at*;clear f0 f1 f2 f3 f4 fl fz3 H2;obtain ⟨f0,f1,f2,f3,f4,fl,fz⟩:=zbd H3.out.blk_out;clear fz
 go_wp2_with (at_builtin;refine zcs rfl (.tmp 8) 40 rfl 177 j0 (.agg #[.int .i64 0,.int .i64 0]) 2 16 Tryz.underlying40 hj hy0 hy1 hy2 rfl (by decide) _ _ _ rfl (zf0 H3.out.drop.drop.drop.head) (zit vs) (by omega) ?_)
 intro v4 w4 hown4 hu4;obtain ⟨ao4,cap4,rfl⟩:=zes hown4;have H4:=zq ((H3.out.row1 hu4 hown4).swap);clear f0 f1 f2 f3 f4 fl hown4 hu4 H3;obtain ⟨f0,f1,f2,f3,f4,fl,fz⟩:=zbd H4.out.blk_out;have fz4:=fz 4;clear fz
 go_upto_region 3 with fail
 have H5:=zq (H4.out.store 4 (.slice ao4 vs.length cap4));generalize w4.setCell ⟨w.heap.size,4,none⟩ (.slice ao4 vs.length cap4)=w5 at*;clear f0 f1 f2 f3 f4 fl fz4 H4;obtain ⟨f0,f1,f2,f3,f4,fl,fz⟩:=zbd H5.out.blk_out;obtain ⟨g0,g1,g2,g3,g4,gl,gz⟩:=zbd H5.out.drop.drop.blk_out;have gz0:=gz 0;have gz1:=gz 1;have gz2:=gz 2;have gz3:=gz 3;have gz4:=gz 4;clear fz gz
 go_wp2_with fail
 have H6:=zq ((((((H5.out.rot.store 0 (.int .i64 view)).store 1 (.int .i64 inst)).store 2 (.int .i64 seq)).store 3 (.slice ao2 rs.length cap2)).store 4 (.slice ao4 vs.length cap4)));generalize ((((w5.setCell ⟨w.heap.size+1,0,none⟩ (.int .i64 view)).setCell ⟨w.heap.size+1,1,none⟩ (.int .i64 inst)).setCell ⟨w.heap.size+1,2,none⟩ (.int .i64 seq)).setCell ⟨w.heap.size+1,3,none⟩ (.slice ao2 rs.length cap2)).setCell ⟨w.heap.size+1,4,none⟩ (.slice ao4 vs.length cap4)=w6 at*;clear f0 f1 f2 f3 f4 fl g0 g1 g2 g3 g4 gl gz0 gz1 gz2 gz3 gz4 H5;obtain ⟨f0,f1,f2,f3,f4,fl,fz⟩:=zbd H6.out.blk_out;have r1:=zam H6.out.drop.drop.head;have r2:=zam H6.out.drop.drop.drop.head;refine bodyPost_ret (v:=ctAgg ⟨view,inst,seq,.slice ao2 rs.length cap2,.slice ao4 vs.length cap4,rs,vs⟩) (by simp [results,Tryz.results189,go_sem,f0,f1,f2,f3,f4]) rfl ⟨⟨view,inst,seq,.slice ao2 rs.length cap2,.slice ao4 vs.length cap4,rs,vs⟩,rfl,rfl,Upd.of_below H6.out.below,owns_reads r2,owns_reads r1,?_,?_⟩
 ·exact (H6.out.drop.drop.drop.all _ List.mem_cons_self).2
 ·exact (H6.out.drop.drop.all _ List.mem_cons_self).2
theorem zqd (i:Nat) (f:Nat) (num ahead view:Int) (on:Bool) (v:Value) (seq:Int) (ao:Option Addr) (n cap:Nat) (co:Option Addr) (m cav:Nat) (w:World) (h:w.heap[i]?=some (insO f num ahead view on v)):
  Calls Tryz.prog 281 #[.pointer (some ⟨i,0,none⟩),.int .i64 seq,.slice ao n cap,.slice co m cav] w fun e w'=>e= .returned (.agg #[.int .i64 view,.int .i64 num,.int .i64 seq,.slice ao n cap,.slice co m cav])∧Upd [] w w':=by
 have hl:=block_lt h;have h1:w.cell? ⟨i,1,none⟩=some (.int .i64 num):=by rw [zac h];rfl
 have h3:w.cell? ⟨i,3,none⟩=some (.int .i64 view):=by rw [zac h];rfl
 clear h;go_enter Tryz.func281,Tryz.ntmps281
 go_wp2_with fail
 refine Mix.wp_text2 (by kernel_rfl) (by kernel_rfl) ?_
 go_wp2_with fail
 refine ⟨by rfl,?_⟩
 go_wp2_with fail
 exact bodyPost_ret (v:= .agg #[.int .i64 view,.int .i64 num,.int .i64 seq,.slice ao n cap,.slice co m cav]) (by simp [results,Tryz.results281,go_sem]) rfl ⟨rfl,((Upd.refl _ _).alloc _).drew⟩
structure En where
 rq:Rq
 res:Int
deriving DecidableEq
def enCells (e:En):List Value:=[.int .i64 e.rq.client,.int .i64 e.rq.time,.int .i64 e.rq.kind,.int .i64 e.rq.key,.int .i64 e.rq.val,.int .i64 e.rq.sl,.int .i64 e.res]
abbrev zyr (l:List En):List Value:=l.flatMap enCells
def scCells (c:Bool×Int):List Value:=[.bool c.1,.int .i64 c.2]
abbrev zx4 (l:List (Bool×Int)):List Value:=l.flatMap scCells
abbrev st0:List (Bool×Int):=List.replicate 64 (false,0)
theorem Tryz.zst:Tryz.zeroCells192.toList=zx4 st0:=by kernel_rfl
structure Lg where
 p:Nat
 s:Nat
 c:Nat
 g:Nat
 cap:Nat
 v:Value
 clients:Int
 es:List En
 st:List (Bool×Int)
 rp:List (Int×Int)
abbrev lgO (clients:Int) (v:Value) (s c:Nat):Obj:= .cells #[.int .i64 clients,v,.pointer (some ⟨s,0,none⟩),.pointer (some ⟨c,0,none⟩)] 184 (0,0)
abbrev chO (g n cap:Nat):Obj:= .cells #[.slice (some ⟨g,0,none⟩) n cap] 289 (0,0)
abbrev enR (v:Value) (es:List En):Res:=ownR 106 7 v es.length (zyr es)
abbrev stR (s:Nat) (st:List (Bool×Int)):Res:=segR s 192 (zx4 st)
abbrev rpR (g:Nat) (l:List (Int×Int)):Res:=segR g 286 (l.flatMap zgc)
abbrev lgL (x:Lg):List Res:=[blk x.p (lgO x.clients x.v x.s x.c),enR x.v x.es,stR x.s x.st,blk x.c (chO x.g x.rp.length x.cap),rpR x.g x.rp]
structure LgOk (x:Lg):Prop where
 st:x.st.length=64
 rp1:1≤x.rp.length
 rp4:x.rp.length≤4
 cap:x.rp.length≤x.cap∧x.cap≤maxLen
 es:x.es.length≤100000
structure Lp where
 clients:Int
 es:List En
 st:List (Bool×Int)
 rp:List (Int×Int)
def Lg.lp (x:Lg):Lp:=⟨x.clients,x.es,x.st,x.rp⟩
def newL (n:Nat):Lp:=⟨n,[],st0,List.replicate n (0,0)⟩
section
variable {B:Nat} {w0 W W':World} {ss:List Res} {x:Lg}
theorem zrc (n:Nat) (h1:1≤n) (h4:n≤4) (h:Own B w0 W ss):
  Calls Tryz.prog 86 #[.int .i64 n] W fun e w'=> ∃x:Lg,e= .returned (.tuple #[.pointer (some ⟨x.p,0,none⟩),.int .i64 0])∧LgOk x∧x.lp=newL n∧Own B w0 w' (lgL x++ss):=by
 have HC:=zq (zty n h1 h4 h);clear h;go_enter Tryz.func86,Tryz.ntmps86
 go_wp2_with fail
 refine HC.out.mono ?_;rintro e w1 ⟨p,g,rfl,ho⟩;have HS:=zq (zwg ho);clear ho HC
 go_wp2_with fail
 refine HS.out.mono ?_;rintro e w2 ⟨s,rfl,ho⟩;have H2:=zq (zdn ho Tryz.zst);clear ho HS
 go_wp2_with fail
 go_ret2
 have h3:=((H2.out.row0 (E:=106) (sz:=7))).boxAt (lgO n (.slice none 0 0) s p) rfl;refine ⟨⟨w2.heap.size,s,p,g,n,.slice none 0 0,n,[],st0,List.replicate n (0,0)⟩,rfl,⟨by simp,by simpa using h1,by simpa using h4,⟨by simp,by show n≤maxLen;unfold maxLen;omega⟩,by simp⟩,rfl,?_⟩;exact h3
end
end Go.Proofs.YtannckelmojkoaaGreat
namespace Go.Proofs.YtannckelmojkoaaGreat
def sumV (l:List Int):Int:=l.foldl (· + ·) 0
def zc7 (vs:List Int) (r:Rq):Int×List Int:=
 if r.key<0∨64≤r.key∨r.val≤ -2147483648∨2147483648≤r.val then (0,vs)
 else if r.kind=1 then (vs.getD r.key.toNat 0,vs.set r.key.toNat r.val)
 else if r.kind=2 then (vs.getD r.key.toNat 0,vs)
 else if r.kind=3 then
  if vs.getD r.key.toNat 0+r.val≤ -2147483648∨2147483648≤vs.getD r.key.toNat 0+r.val then (vs.getD r.key.toNat 0,vs)
  else (vs.getD r.key.toNat 0+r.val,vs.set r.key.toNat (vs.getD r.key.toNat 0+r.val))
 else if r.kind=4 then (vs.getD r.key.toNat 0,vs.set r.key.toNat 0)
 else if r.kind=5 then (sumV vs,vs)
 else (0,vs)
def VsOk (vs:List Int):Prop:=vs.length=64∧ ∀v∈vs,-2147483648<v∧v<2147483648
theorem VsOk.at {vs:List Int} (h:VsOk vs) (k:Nat): -2147483648<vs.getD k 0∧vs.getD k 0<2147483648:=by
 rw [List.getD_eq_getElem?_getD];cases hk:vs[k]? with
 | none=>simp
 | some v=>simpa using h.2 v (List.mem_of_getElem? hk)
theorem VsOk.put {vs:List Int} (h:VsOk vs) (k:Nat) {v:Int} (h1: -2147483648<v) (h2:v<2147483648):VsOk (vs.set k v):=by
 refine ⟨by simpa using h.1,fun u hu=> ?_⟩;rcases List.mem_or_eq_of_mem_set hu with hu | rfl
 ·exact h.2 u hu
 ·exact ⟨h1,h2⟩
theorem sum_in: ∀(l:List Int) (a:Int),(∀v∈l,-2147483648<v∧v<2147483648)→a-2147483648*l.length≤l.foldl (· + ·) a∧l.foldl (· + ·) a≤a+2147483648*l.length
 | [],a,_=>by simp
 | v::l,a,h=>by
  have h1:=h v (by simp);have h2:=sum_in l (a+v) (fun u hu=>h u (by simp [hu]));simp only [List.foldl_cons,List.length_cons];omega
theorem ztu {vs:List Int} (h:VsOk vs) (r:Rq):VsOk (zc7 vs r).2∧ -1000000000000<(zc7 vs r).1∧(zc7 vs r).1<1000000000000:=by
 have ha:=h.at r.key.toNat;have hs:=sum_in vs 0 h.2;rw [h.1] at hs;unfold zc7;split
 ·exact ⟨h,by simp,by simp⟩
 ·rename_i hb
  split
  ·exact ⟨h.put _ (by omega) (by omega),by simp only;omega,by simp only;omega⟩
  ·split
   ·exact ⟨h,by simp only;omega,by simp only;omega⟩
   ·split
    ·split
     ·exact ⟨h,by simp only;omega,by simp only;omega⟩
     ·rename_i hc
      exact ⟨h.put _ (by omega) (by omega),by simp only;omega,by simp only;omega⟩
    ·split
     ·exact ⟨h.put _ (by omega) (by omega),by simp only;omega,by simp only;omega⟩
     ·split
      ·exact ⟨h,by simp only [sumV];omega,by simp only [sumV];omega⟩
      ·exact ⟨h,by simp,by simp⟩
structure Sv where
 vs:List Int
 tm:Nat→Int
def Sv.new:Sv:=⟨List.replicate 64 0,fun _=>0⟩
def upT (t:Nat→Int) (k:Nat) (v:Int):Nat→Int:=fun j=>if j=k then v else t j
def stepR (n:Int) (s:Sv) (r:Rq):Option Int×Sv:=
 if r.client<0∨n≤r.client∨r.time≤s.tm r.client.toNat then (none,s)
 else (some (zc7 s.vs r).1,⟨(zc7 s.vs r).2,upT s.tm r.client.toNat r.time⟩)
def behind (n:Int):Sv→List En→Sv
 | s,[]=>s
 | s,e::es=>behind n (stepR n s e.rq).2 es
def OnceP (l:List En):Prop:=l.Pairwise fun f e=> ¬(f.rq.client=e.rq.client∧e.rq.time≤f.rq.time)
instance (l:List En):Decidable (OnceP l):=by unfold OnceP;exact inferInstance
def turned (l:List En) (i:Nat) (e:En):List En:=l.take i++e::l.drop (i+1)
def others (l:List En) (i:Nat):Nat→List Rq
 | 0=>[]
 | k+1=>if k=i then others l i k else others l i k++((l[k]?).map En.rq).toList
end Go.Proofs.YtannckelmojkoaaGreat
namespace Go.Proofs.YtannckelmojkoaaGreat
open Go.RowKit Go.Heap
section
variable {B:Nat} {w0 w W W':World} {ss:List Res}
theorem news_at {g:Nat} {cs:Array Value} {T:TypeId} (h:w.heap[g]?=some (.cells cs T (0,0))): ∀j u,cs.toList[j]?=some u→w.cell? ((⟨g,0,none⟩:Addr).add j)=some u:=by
 intro j u hj;have:(⟨g,0,none⟩:Addr).add j=⟨g,j,none⟩:=by unfold Addr.add;split<;>simp_all
 rw [this,zac h]
 simpa using hj
theorem zvz {b o:Nat} {cs:List Value} (hu:Upd [] w W) (h:w.rangeAt b o cs):W.rangeAt b o cs:=fun j v hj=>zap hu (h j v hj)
theorem zvy {b:Nat} {cs:Array Value} {T:TypeId} (h:w.heap[b]?=some (.cells cs T (0,0))):w.rangeAt b 0 cs.toList:=fun j v hj=>by
 rw [Nat.zero_add,zac h]
 simpa using hj
end
section
variable {B:Nat} {w0 w W W':World} {ss:List Res}
abbrev zox:Obj:= .cells #[.int .i64 0,.slice none 0 0] 236 (0,0)
theorem zqg (h:Own B w0 W ss):Calls Tryz.prog 81 #[] W fun e w'=> ∃p,e= .returned (.pointer (some ⟨p,0,none⟩))∧Upd [] W w'∧Own B w0 w' (blk p zox::ss):=by
 have H:=zq h;clear h;go_enter Tryz.func81,Tryz.ntmps81
 go_wp2
 go_ret
 exact ⟨_,rfl,(Upd.refl _ _).alloc _,H.out.box _⟩
end
theorem zcq {l:List Pm} {k:Nat} (hk:k<l.length) (x y:Pm) (r:Nat) (v:Value) (hr:r<14) (h:zal y=(zal x).set r v):((l.set k x).flatMap zal).set (k*14+r) v=(l.set k y).flatMap zal:=by
 rw [zfv (cells:=zal) (sz:=14) (fun _=>rfl) (l.set k x) k r x y v (List.getElem?_set_self hk) hr h,List.set_set]
theorem put_done (l:List Pm) (k:Nat) (hk:k<l.length) (c:Ct):
  ((((((l.flatMap zal).set (k*14+8) (.bool true)).set (k*14+9) (.int .i64 c.view)).set (k*14+10) (.int .i64 c.inst)).set (k*14+11) (.int .i64 c.seq)).set (k*14+12) c.vb).set (k*14+13) c.vv=
   (l.set k {l[k] with done:=true,dw:=c}).flatMap zal:=by
 have e:l.flatMap zal=(l.set k l[k]).flatMap zal:=by rw [List.set_getElem_self]
 rw [e];generalize l[k]=p;obtain ⟨lc,sl,told,has,ct,done,⟨a,b,d,e,f,g,h⟩⟩:=p;obtain ⟨a',b',d',e',f',g',h'⟩:=c;rw [zcq hk ⟨lc,sl,told,has,ct,done,⟨a,b,d,e,f,g,h⟩⟩ ⟨lc,sl,told,has,ct,true,⟨a,b,d,e,f,g,h⟩⟩ 8 (.bool true) (by omega) rfl,zcq hk ⟨lc,sl,told,has,ct,true,⟨a,b,d,e,f,g,h⟩⟩ ⟨lc,sl,told,has,ct,true,⟨a',b,d,e,f,g,h⟩⟩ 9 (.int .i64 a') (by omega) rfl,zcq hk ⟨lc,sl,told,has,ct,true,⟨a',b,d,e,f,g,h⟩⟩ ⟨lc,sl,told,has,ct,true,⟨a',b',d,e,f,g,h⟩⟩ 10 (.int .i64 b') (by omega) rfl,zcq hk ⟨lc,sl,told,has,ct,true,⟨a',b',d,e,f,g,h⟩⟩ ⟨lc,sl,told,has,ct,true,⟨a',b',d',e,f,g,h⟩⟩ 11 (.int .i64 d') (by omega) rfl,zcq hk ⟨lc,sl,told,has,ct,true,⟨a',b',d',e,f,g,h⟩⟩ ⟨lc,sl,told,has,ct,true,⟨a',b',d',e',f,g,h⟩⟩ 12 e' (by omega) rfl,zcq hk ⟨lc,sl,told,has,ct,true,⟨a',b',d',e',f,g,h⟩⟩ ⟨lc,sl,told,has,ct,true,⟨a',b',d',e',f',g',h'⟩⟩ 13 f' (by omega) rfl]
theorem put_cert (l:List Pm) (k:Nat) (hk:k<l.length) (c:Ct):
  (((((((l.flatMap zal).set (k*14+1) (.bool true)).set (k*14+2) (.bool true)).set (k*14+3) (.int .i64 c.view)).set (k*14+4) (.int .i64 c.inst)).set (k*14+5) (.int .i64 c.seq)).set (k*14+6) c.vb).set (k*14+7) c.vv=
   (l.set k {l[k] with told:=true,has:=true,ct:=c}).flatMap zal:=by
 have e:l.flatMap zal=(l.set k l[k]).flatMap zal:=by rw [List.set_getElem_self]
 rw [e];generalize l[k]=p;obtain ⟨lc,sl,told,has,⟨a,b,d,e,f,g,h⟩,done,dw⟩:=p;obtain ⟨a',b',d',e',f',g',h'⟩:=c;rw [zcq hk ⟨lc,sl,told,has,⟨a,b,d,e,f,g,h⟩,done,dw⟩ ⟨lc,sl,true,has,⟨a,b,d,e,f,g,h⟩,done,dw⟩ 1 (.bool true) (by omega) rfl,zcq hk ⟨lc,sl,true,has,⟨a,b,d,e,f,g,h⟩,done,dw⟩ ⟨lc,sl,true,true,⟨a,b,d,e,f,g,h⟩,done,dw⟩ 2 (.bool true) (by omega) rfl,zcq hk ⟨lc,sl,true,true,⟨a,b,d,e,f,g,h⟩,done,dw⟩ ⟨lc,sl,true,true,⟨a',b,d,e,f,g,h⟩,done,dw⟩ 3 (.int .i64 a') (by omega) rfl,zcq hk ⟨lc,sl,true,true,⟨a',b,d,e,f,g,h⟩,done,dw⟩ ⟨lc,sl,true,true,⟨a',b',d,e,f,g,h⟩,done,dw⟩ 4 (.int .i64 b') (by omega) rfl,zcq hk ⟨lc,sl,true,true,⟨a',b',d,e,f,g,h⟩,done,dw⟩ ⟨lc,sl,true,true,⟨a',b',d',e,f,g,h⟩,done,dw⟩ 5 (.int .i64 d') (by omega) rfl,zcq hk ⟨lc,sl,true,true,⟨a',b',d',e,f,g,h⟩,done,dw⟩ ⟨lc,sl,true,true,⟨a',b',d',e',f,g,h⟩,done,dw⟩ 6 e' (by omega) rfl,zcq hk ⟨lc,sl,true,true,⟨a',b',d',e',f,g,h⟩,done,dw⟩ ⟨lc,sl,true,true,⟨a',b',d',e',f',g',h'⟩,done,dw⟩ 7 f' (by omega) rfl]
theorem put_done' (l:List Pm) (k:Nat) (hk:k<l.length) (c:Ct):
  ((((((l.flatMap zal).set (k*14+8) (.bool true)).set (k*14+9) (.int .i64 c.view)).set (k*14+9+1) (.int .i64 c.inst)).set (k*14+9+2) (.int .i64 c.seq)).set (k*14+9+3) c.vb).set (k*14+9+4) c.vv=
   (l.set k {l[k] with done:=true,dw:=c}).flatMap zal:=put_done l k hk c
theorem put_cert' (l:List Pm) (k:Nat) (hk:k<l.length) (c:Ct):
  (((((((l.flatMap zal).set (k*14+1) (.bool true)).set (k*14+2) (.bool true)).set (k*14+3) (.int .i64 c.view)).set (k*14+3+1) (.int .i64 c.inst)).set (k*14+3+2) (.int .i64 c.seq)).set (k*14+3+3) c.vb).set (k*14+3+4) c.vv=
   (l.set k {l[k] with told:=true,has:=true,ct:=c}).flatMap zal:=put_cert l k hk c
section
variable {B:Nat} {w0 W W':World} {ss rs:List Res} {x:Ins} {v1 v2:Value} {l:List Rq} {vs:Vs}
theorem zr2 {k:Nat} {p:Pm} {c:Ct} (h:Own B w0 W (redR c.vv 2 c.vs.length (zaf c.vs)::redR c.vb 6 c.rs.length (zak c.rs)::([blk x.i x.o,segR x.b 241 ((x.l.set k p).flatMap zal),zdj x]++(x.l.map pmR++ss))))
  (hk:k<x.l.length) (hl:p.lc=x.l[k].lc) (hs:p.sl=x.l[k].sl) (hn:c.rs.length≤100000) (hm:c.vs.length≤100000) (hc:(p.ct=c∧p.dw=x.l[k].dw)∨(p.ct=x.l[k].ct∧p.dw=c)):OwnI B w0 W (x.sl k p) ss:=by
 have hmap:(x.l.set k p).map pmR=x.l.map pmR:=by
  rw [List.map_set,show pmR p=pmR x.l[k] by simp [pmR,hl,hs]];conv=>lhs;arg 3;rw [←List.getElem_map (f:=pmR) (h:=by simpa using hk)]
  exact List.set_getElem_self _
 have h1:Own B w0 W (zdj x::redR c.vv 2 c.vs.length (zaf c.vs)::redR c.vb 6 c.rs.length (zak c.rs)::blk x.i x.o::segR x.b 241 ((x.l.set k p).flatMap zal)::(x.l.map pmR++ss)):=h.perm (List.perm_middle (l₁:=[_,_,_,_]));have h2:=h1.alter (r':=zdj (x.sl k p)) (by
  obtain ⟨D,⟨⟨q1,q2⟩,q3⟩,q4,q5⟩:=h1.head;obtain ⟨D1,⟨v1,v2⟩,v3,_⟩:=(h1.all (redR c.vv 2 c.vs.length (zaf c.vs)) (List.mem_cons_of_mem _ List.mem_cons_self)).1;obtain ⟨D2,⟨b1,b2⟩,b3,_⟩:=(h1.all (redR c.vb 6 c.rs.length (zak c.rs)) (List.mem_cons_of_mem _ (List.mem_cons_of_mem _ List.mem_cons_self))).1;have hnew:CtIn W c (D++(D1++D2)):=⟨b1.mono (by simp+contextual),hn,v1.mono (by simp+contextual),hm⟩;have hold: ∀p'∈x.l,CtIn W p'.ct (D++(D1++D2))∧CtIn W p'.dw (D++(D1++D2)):=fun p' hp'=>⟨(q2 p' hp').1.mono (by simp+contextual),(q2 p' hp').2.mono (by simp+contextual)⟩;refine ⟨D++(D1++D2),⟨⟨⟨by simpa using q1.n,q1.f1,q1.f2,fun p' hp'=> ?_,q1.c1,q1.a1,q1.a2,q1.vw⟩,fun p' hp'=> ?_⟩,fun k hk=> ?_⟩,fun k hk=> ?_,q5⟩
  ·rcases List.mem_or_eq_of_mem_set hp' with hp' | rfl
   ·exact q1.lf p' hp'
   ·rw [hl];exact q1.lf _ (by simp)
  ·rcases List.mem_or_eq_of_mem_set hp' with hp' | rfl
   ·exact hold p' hp'
   ·rcases hc with ⟨e1,e2⟩ | ⟨e1,e2⟩
    ·rw [e1,e2];exact ⟨hnew,(hold _ (by simp)).2⟩
    ·rw [e1,e2];exact ⟨(hold _ (by simp)).1,hnew⟩
  ·rcases List.mem_append.1 hk with hk | hk
   ·exact q3 k hk
   ·rcases List.mem_append.1 hk with hk | hk
    ·exact v2 k hk
    ·exact b2 k hk
  ·rcases List.mem_append.1 hk with hk | hk
   ·exact q4 k hk
   ·rcases List.mem_append.1 hk with hk | hk
    ·exact v3 k hk
    ·exact b3 k hk) (by simp [zdj,imm])
 have h3:Own B w0 W (blk x.i x.o::segR x.b 241 ((x.l.set k p).flatMap zal)::zdj (x.sl k p)::(x.l.map pmR++ss)):=(h2.perm (List.perm_middle (l₁:=[_,_,_,_])).symm).drop.drop;show Own B w0 W (insHd (x.sl k p)++((x.l.set k p).map pmR++ss));rw [hmap];exact h3
theorem oi_dw (h:Own B w0 W (redR v2 2 vs.length (zaf vs)::redR v1 6 l.length (zak l)::(insHd x++(x.l.map pmR++ss)))) (k:Nat) (hk:k<x.l.length) (view inst seq:Int) (hn:l.length≤100000) (hm:vs.length≤100000):
  OwnI B w0 ((((((W.setCell ⟨x.b,k*14+8,none⟩ (.bool true)).setCell ⟨x.b,k*14+9,none⟩ (.int .i64 view)).setCell ⟨x.b,k*14+9+1,none⟩ (.int .i64 inst)).setCell ⟨x.b,k*14+9+2,none⟩ (.int .i64 seq)).setCell ⟨x.b,k*14+9+3,none⟩ v1).setCell ⟨x.b,k*14+9+4,none⟩ v2)
   (x.sl k {x.l[k] with done:=true,dw:=⟨view,inst,seq,v1,v2,l,vs⟩}) ss:=by
 have h1:=(((((((h.perm (List.perm_middle (l₁:=[_,_,_]))).put (k*14+8) (.bool true)).put (k*14+9) (.int .i64 view)).put (k*14+9+1) (.int .i64 inst)).put (k*14+9+2) (.int .i64 seq)).put (k*14+9+3) v1).put (k*14+9+4) v2);rw [put_done' x.l k hk ⟨view,inst,seq,v1,v2,l,vs⟩] at h1;exact zr2 (c:=⟨view,inst,seq,v1,v2,l,vs⟩) (h1.perm (List.perm_middle (l₁:=[_,_,_])).symm) hk rfl rfl hn hm (.inr ⟨rfl,rfl⟩)
theorem oi_ct (h:Own B w0 W (redR v2 2 vs.length (zaf vs)::redR v1 6 l.length (zak l)::(insHd x++(x.l.map pmR++ss)))) (k:Nat) (hk:k<x.l.length) (view inst seq:Int) (hn:l.length≤100000) (hm:vs.length≤100000):
  OwnI B w0 (((((((W.setCell ⟨x.b,k*14+1,none⟩ (.bool true)).setCell ⟨x.b,k*14+2,none⟩ (.bool true)).setCell ⟨x.b,k*14+3,none⟩ (.int .i64 view)).setCell ⟨x.b,k*14+3+1,none⟩ (.int .i64 inst)).setCell ⟨x.b,k*14+3+2,none⟩ (.int .i64 seq)).setCell ⟨x.b,k*14+3+3,none⟩ v1).setCell ⟨x.b,k*14+3+4,none⟩ v2)
   (x.sl k {x.l[k] with told:=true,has:=true,ct:=⟨view,inst,seq,v1,v2,l,vs⟩}) ss:=by
 have h1:=((((((((h.perm (List.perm_middle (l₁:=[_,_,_]))).put (k*14+1) (.bool true)).put (k*14+2) (.bool true)).put (k*14+3) (.int .i64 view)).put (k*14+3+1) (.int .i64 inst)).put (k*14+3+2) (.int .i64 seq)).put (k*14+3+3) v1).put (k*14+3+4) v2);rw [put_cert' x.l k hk ⟨view,inst,seq,v1,v2,l,vs⟩] at h1;exact zr2 (c:=⟨view,inst,seq,v1,v2,l,vs⟩) (h1.perm (List.perm_middle (l₁:=[_,_,_])).symm) hk rfl rfl hn hm (.inl ⟨rfl,rfl⟩)
def CertP (B:Nat) (w0 W:World) (i:Nat) (r:Option Cp) (st:In) (ss:List Res) (e:Ending) (w':World):Prop:=
 ∃c:Ct,e= .returned (.tuple #[ctAgg c,.bool r.isSome])∧c.cp=r.getD noCp∧(c.rs.length≤100000∧c.vs.length≤100000)∧Bat w' c.vb c.rs∧Vts w' c.vv c.vs∧(∀k∈blkOf c.vb,W.heap.size≤k)∧(∀k∈blkOf c.vv,W.heap.size≤k)∧
  ∃x':Ins,x'.i=i∧x'.st=st∧Own B w0 w' (redR c.vv 2 c.vs.length (zaf c.vs)::redR c.vb 6 c.rs.length (zak c.rs)::instR x'::ss)
def noCt:Ct:=⟨0,0,0,.slice none 0 0,.slice none 0 0,[],[]⟩
theorem zdb {st:In} {r:Option Cp} (h:Own B w0 W' (instR x::ss)) (hr:r=none) (hst:st=x.st):CertP B w0 W x.i r st ss (.returned (.tuple #[ctAgg noCt,.bool false])) W':=by
 subst hr;exact ⟨noCt,rfl,rfl,by simp [noCt],Reads.nil _ _,Reads.nil _ _,by simp [noCt,blkOf],by simp [noCt,blkOf],x,rfl,hst.symm,(h.red (Reads.nil _ _) (by simp [blkIf])).red (Reads.nil _ _) (by simp [blkIf,noCt])⟩
end
end Go.Proofs.YtannckelmojkoaaGreat
