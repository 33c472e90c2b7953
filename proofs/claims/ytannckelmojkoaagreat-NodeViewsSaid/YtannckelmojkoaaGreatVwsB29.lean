/- Parts of the proof, one behind the other. -/
import Derived.Test.YtannckelmojkoaaGreatVwsB28
set_option maxHeartbeats 32000000
set_option maxRecDepth 100000
set_option linter.unusedVariables false
set_option linter.unusedSimpArgs false
namespace Go.Proofs.YtannckelmojkoaaGreat
open Go.RowKit Go.Heap
def bsR (v:Value) (bs:List (List Rq)):Res:=imm (fun w D=> ∃vals:List Value,zat w v 1 bs.length vals D∧ ∀k (hk:k<bs.length),∃u,vals[k]?=some u∧BatIn w u bs[k] D)
 (fun ⟨vals,h1,h2⟩ hk hs=>⟨vals,h1.dep hk hs,fun k hkl=>let ⟨u,e,hb⟩:=h2 k hkl;⟨u,e,hb.dep hk hs⟩⟩)
theorem zw2 {w:World} {A:List Nat} {v:Value} {bs:List (List Rq)} (h:(bsR v bs).At w A): ∃ao cap,v= .slice ao bs.length cap:=by
 obtain ⟨_,⟨⟨vals,h1,-⟩,-⟩,-⟩:=h;obtain ⟨ao,cap,e,-⟩:=h1.1;exact ⟨ao,cap,e⟩
theorem bs_at {w:World} {A:List Nat} {ao:Option Addr} {n cap:Nat} {bs:List (List Rq)} (h:(bsR (.slice ao n cap) bs).At w A) (k:Nat) (hk:k<bs.length):
  ∃b o u,ao=some ⟨b,o,none⟩∧b<w.heap.size∧w.cell? ⟨b,o+k,none⟩=some u∧Bat w u bs[k]:=by
 obtain ⟨_,⟨⟨vals,h1,h2⟩,-⟩,-⟩:=h;obtain ⟨ao',cap',e,-,-,-,-,h5⟩:=h1.1;cases e
 obtain ⟨b,o,rfl,hb,hc⟩:=h5 (by omega);obtain ⟨u,e,hu⟩:=h2 k hk;exact ⟨b,o,u,rfl,hb,by rw [hc k (by omega),e],hu.1⟩
theorem zik: ∀(bs:List (List Rq)) (ps:List Pl) (k:Nat) (hk:k<bs.length),zb6 (bs.take (k+1)) ps=(zb6 (bs.take k) ps).modify k fun p=> {p with sl:=slPre bs[k] p.sl}
 | [],_,_,hk=>by simp at hk
 | b::bs,[],k,_=>by simp [zb6]
 | b::bs,p::ps,0,_=>by simp [zb6]
 | b::bs,p::ps,k+1,hk=>by
  rw [List.take_succ_cons,List.take_succ_cons,zb6,zb6,List.modify_succ_cons,zik bs ps k (by simpa using hk)];rfl
section
variable {B:Nat} {w0 W W':World} {ss rs:List Res} {x:Ins}
theorem zp3 {i:Nat} {st:In} {v:Value} {bs:List (List Rq)} (h:AtI B w0 W i st (bsR v bs::ss)) (hbn: ∀b∈bs,b.length≤100000) (hon:st.on=false) (hlen:bs.length≤16):
  Calls Tryz.prog 268 #[.pointer (some ⟨i,0,none⟩),v] W fun e w'=>e= .returned (.bool true)∧AtI B w0 w' i {st with on:=true,l:=zb6 bs st.l} (bsR v bs::ss):=by
 obtain ⟨ao,cap,rfl⟩:=zw2 h.ss_own.head;obtain ⟨x,rfl,rfl,h3⟩:=h;have ho:=zcg h3;obtain ⟨-,-,-,-,c4,c5,l1,l2⟩:=zcd ho;obtain ⟨-,fz⟩:=oi_fz ho;have z4:=fz 4;have hon':x.on=false:=hon;rw [hon'] at c4;have H1:Hid (AtI B w0 (W.setCell ⟨x.i,4,none⟩ (.bool true)) x.i {x.st with on:=true} (bsR (.slice ao bs.length cap) bs::ss)):=zq ⟨{x with on:=true},rfl,rfl,zcp (by
  have h4:Own B w0 (W.setCell ⟨x.i,4,none⟩ (.bool true)) (blk x.i (insO x.f x.num x.ahead x.view true (.slice (some ⟨x.b,0,none⟩) 16 x.cap))::segR x.b 241 (x.l.flatMap zal)::zdj x::(x.l.map pmR++(bsR (.slice ao bs.length cap) bs::ss))):=Own.store ho 4 (.bool true);exact oi_hd h4 (oi_ok ho).vw)⟩
 have hlb:decide ((16:Int)<(bs.length:Int))=false:=by simp;omega
 clear ho h3 fz hon hon';generalize hl0:x.st=st0 at*;clear hl0;generalize x.i=i at*;have HBN:=zq hbn;clear hbn;go_enter Tryz.func268,Tryz.ntmps268
 go_wp2_with fail
 generalize W.setCell ⟨i,4,none⟩ (.bool true)=w1 at*;clear c4 c5 l1 l2 z4 hlb
 go_loopw [26] (fun n wr=> ∃k:Nat,k≤bs.length∧n= .int .i64 k∧Hid (AtI B w0 wr i {st0 with on:=true,l:=zb6 (bs.take k) st0.l} (bsR (.slice ao bs.length cap) bs::ss))) (fun n _=>bs.length-(intOf n).toNat)
 case atStart=>exact ⟨0,by omega,rfl,zq (by simpa [zb6] using H1.out)⟩
 case round=>
  clear H1;obtain ⟨k,hk,rfl,H1⟩:=hrel;by_cases hlt:k<bs.length
  ·have hkI:(k:Int)<(bs.length:Int):=by omega
   have hk16:(k:Int)<16:=by omega
   obtain ⟨b,o,u,rfl,hb,cu,hbat⟩:=bs_at H1.out.ss_own.head k hlt;obtain ⟨y,rfl,hy,h3⟩:=H1.out;have ho:=zcg h3;obtain ⟨-,-,-,-,-,c5,l1,l2⟩:=zcd ho;have hyl:k<y.l.length:=by rw [(oi_ok ho).n];omega
   have cp:=zkm ho k hyl;have HC:=zq (own_pre (zex ho k hyl) u bs[k] hbat (HBN.out _ (List.getElem_mem hlt)));have HS:=zq (show ({y.st with l:=y.st.l.modify k fun p=> {p with sl:=slPre bs[k] p.sl}}:In)= {st0 with on:=true,l:=zb6 (bs.take (k+1)) st0.l} by rw [hy,zik bs st0.l k hlt]);have HY:=zq hyl;obtain ⟨uo,ucap,rfl⟩:=zca hbat;clear ho h3 H1 hy hbat
   go_wp2_with fail
   refine HC.out.mono ?_;rintro e w2 ⟨rfl,-,h2⟩;have H2:Hid (AtI B w0 w2 y.i {st0 with on:=true,l:=zb6 (bs.take (k+1)) st0.l} (bsR (.slice (some ⟨b,o,none⟩) bs.length cap) bs::ss)):=zq
    ⟨y.sl k {y.l[k] with sl:=slPre bs[k] y.l[k].sl},rfl,by rw [←HS.out];exact zpv y k HY.out _ (fun p=> {p with sl:=slPre bs[k] p.sl}) rfl,zcp (zjd k HY.out _ h2 rfl ⟨rfl,rfl⟩ rfl)⟩
   clear h2
   go_wp2_with fail
   go_roundw
   case rel=>exact ⟨k+1,by omega,by go_num,H2⟩
   case measure=>simp [intOf];omega
  ·have hkb:decide ((k:Int)<(bs.length:Int))=false:=by simp;omega
   have hke:k=bs.length:=by omega
   have H2:Hid (AtI B w0 wr i {st0 with on:=true,l:=zb6 bs st0.l} (bsR (.slice ao bs.length cap) bs::ss)):=zq (by have h:=H1.out;rw [hke,List.take_length] at h;exact h);clear hke H1
   go_wp2_with fail
   go_ret
   exact ⟨rfl,H2.out⟩
end
def zul (k:Nat) (t:Int) (z:List (Int×Int)):List (Int×Int):=if 0≤t∧t≤1048576 then z.modify k fun z=>(z.1+1,z.2+t) else z
section
variable {B:Nat} {w0 w W W':World} {ss rs:List Res} {x:Np} {s s':Ns} {l l':Nt} {m g cap:Nat} {z:List (Int×Int)}
end
def zum (s:Ns) (k:Nat) (rs:List Rq):List (Int×Int):=rs.foldl (fun z r=>match zf2 s.tab r with | some t=>zul k (s.now-t) z | none=>z) s.mt
theorem zun (k:Nat) (t:Int) (s:Ns):zyz k t s= {s with mt:=zul k t s.mt}:=by
 unfold zyz zul;split<;>rfl
theorem zo4 (k:Nat) (s:Ns) (r:Rq):zl1 k s r= {s with mt:=match zf2 s.tab r with | some t=>zul k (s.now-t) s.mt | none=>s.mt}:=by
 unfold zl1;cases zf2 s.tab r with
 | none=>rfl
 | some t=>exact zun _ _ _
theorem zq3 (k:Nat) (rs:List Rq) (s:Ns):zq2 k s rs= {s with mt:=zum s k rs}:=by
 unfold zq2 zum
 induction rs generalizing s with
 | nil=>rfl
 | cons r rs ih=>rw [List.foldl_cons,ih,zo4,List.foldl_cons]
theorem zue (p:NSt) (e:En): ∃o l',zh1 p e=({p.1 with out:=p.1.out++o,tab:=zs6 p.1.tab e.rq.client e.rq.time},l')∧o.length≤1∧l'.length≤p.2.length+1:=by
 obtain ⟨s,l⟩:=p;have hl:=zgq (l:=l) (m:=repM s.id e.rq.client e.rq.time e.res);unfold zh1;simp only;rw [zof];generalize sealP l (repM s.id e.rq.client e.rq.time e.res)=sp at*;obtain ⟨o,l2⟩:=sp;cases o with
 | none=>exact ⟨[],l2,by simp only [List.append_nil],by simp,hl⟩
 | some b=>exact ⟨[_],l2,rfl,by simp,hl⟩
theorem zo3 (es:List En): ∀p:NSt,∃o l' t',es.foldl zh1 p=({p.1 with out:=p.1.out++o,tab:=t'},l')∧o.length≤es.length∧l'.length≤p.2.length+es.length:=by
 induction es with
 | nil=>intro p;exact ⟨[],p.2,p.1.tab,by simp,by simp,by simp⟩
 | cons e es ih=>
  intro p;obtain ⟨o,l',h1,h2,h3⟩:=zue p e;obtain ⟨o2,l2,t2,k1,k2,k3⟩:=ih (zh1 p e);rw [h1] at k1 k3;simp only at k1 k3;refine ⟨o++o2,l2,t2,?_,by rw [List.length_append,List.length_cons];omega,by rw [List.length_cons];omega⟩;rw [List.foldl_cons,h1,k1,List.append_assoc]
structure RunG (s0:Ns) (l0:Nt) (m:Nat) (p:NSt):Prop where
 go:runGo 16 (s0,l0)=runGo m p
 fuel:16≤(m:Int)+p.1.run
 ln:(p.2.length:Int)≤800000000+4*p.1.run
 on:(p.1.out.length:Int)≤800000000+4*p.1.run
theorem zhs (s:Ns) (l:Nt): ∃o l' t',zhr (s,l)=({s with run:=s.run+1,bk:=(runL s.bk (runC s).rs).1,out:=s.out++o,tab:=t'},l')∧o.length≤(runC s).rs.length∧l'.length≤l.length+(runC s).rs.length:=by
 rw [zog];obtain ⟨o,l',t',h1,h2,h3⟩:=zo3 (runL s.bk (runC s).rs).2 ({s with run:=s.run+1,bk:=(runL s.bk (runC s).rs).1},l);have h4:(runL s.bk (runC s).rs).2.length≤(runC s).rs.length:=zk8 _ _;exact ⟨o,l',t',h1,by omega,by simp only at h3;omega⟩
theorem RunG.step {s0 s:Ns} {l0 l:Nt} {m:Nat} (h:RunG s0 l0 m (s,l)) (h0:s.run<doneI (insAt s 0)) (h1:s.run+1≤16) (hb:(runC s).rs.length≤4): ∃m',m=m'+1∧RunG s0 l0 m' (zhr (s,l)):=by
 obtain ⟨g1,g2,g4,g5⟩:=h;simp only at g2 g4 g5;obtain ⟨n,rfl⟩: ∃n,m=n+1:=⟨m-1,by omega⟩;obtain ⟨o,l',t',e1,e2,e3⟩:=zhs s l;refine ⟨n,rfl,by rw [g1,zk2 h0],?_,?_,?_⟩
 ·rw [e1];simp only;omega
 ·rw [e1];simp only;omega
 ·rw [e1];simp only [List.length_append];omega
theorem zhu (p:NSt) (m:Ms): ∃o:List (Int×Bys),sendS p m=({p.1 with out:=p.1.out++o},(sendS p m).2)∧o.length≤3*p.1.c.f+1∧(sendS p m).2.length≤p.2.length+1:=by
 have h:=zgq (l:=p.2) (m:=zfp m p.1.id);unfold sendS;generalize sealP p.2 (zfp m p.1.id)=q at*;obtain ⟨o,l2⟩:=q;cases o with
 | none=>exact ⟨[],by simp only [List.append_nil],by simp,h⟩
 | some b=>exact ⟨_,rfl,by rw [List.length_map];exact zif _ _,h⟩
theorem zyf (v:Value) (rs:List Rq):batR v rs=redR v 6 rs.length (rs.flatMap zbh):=rfl
section
variable {B:Nat} {w0 w W W':World} {ss rs:List Res} {x:Np} {s s':Ns} {l l':Nt} {k i:Nat} {vb:Value} {bs:List Rq}
theorem nd_vote (h:NdIs B w0 W x s l (batR vb bs::ss)) (hk:k<s.c.f+1) (hi:x.is[k]?=some i) (hb:bs.length≤4) (kind seq node sl:Int):
  Calls Tryz.prog 236 #[ptrV i,.int .i64 kind,.int .i64 seq,.int .i64 node,.int .i64 sl,vb] W fun e w'=>e= .returned (.bool (voteB (insAt s k) kind seq node))∧NdIs B w0 w' x (zbn s k (voteI (insAt s k) kind seq node sl bs)) l (batR vb bs::ss):=by
 have hk':k<s.ins.length:=by rw [h.ok.ins];exact hk
 obtain ⟨r,hs,-⟩:=h.side;have hbt:=zgw (hs.get 0 rfl);obtain ⟨j,rr,hj,ha,g⟩:=h.inst k hk';rw [hi] at hj;cases hj
 rw [zbu s k hk'];refine (ai_vote ha kind seq node sl vb bs hbt (by omega)).mono ?_;rintro e w' ⟨he,h2⟩;exact ⟨he,g w' _ _ (znp hb) h2⟩
structure ToldC (r:Option Cp) (c:Ct):Prop where
 cp:c.cp=r.getD noCp
 vb: ∃a k,c.vb= .slice a c.rs.length k
 vv: ∃a k,c.vv= .slice a c.vs.length k
 vn:c.vs.length≤100000
theorem told_c {r:Option Cp} {c:Ct} (h:Told W W' r c):ToldC r c:=by
 obtain ⟨h1,⟨-,h2⟩,⟨a1,k1,e1,-⟩,⟨a2,k2,e2,-⟩,-,-⟩:=h;exact ⟨h1,⟨a1,k1,e1⟩,⟨a2,k2,e2⟩,h2⟩
theorem zpe (h:NdIs B w0 W x s l ss) (hk:k<s.c.f+1) (hi:x.is[k]?=some i) (seq:Int):
  Calls Tryz.prog 255 #[ptrV i,.int .i64 seq] W fun e w'=> ∃c:Ct,e= .returned (.tuple #[ctAgg c,.bool (prepI (insAt s k) seq).isSome])∧ToldC (prepI (insAt s k) seq) c∧NdIs B w0 w' x (zbn s k (zbi (insAt s k) seq)) l (batR c.vb c.rs::redR c.vv 2 c.vs.length (zaf c.vs)::ss):=by
 have hk':k<s.ins.length:=by rw [h.ok.ins];exact hk
 have hsm:=(h.ok.insk k hk').2.2.2;obtain ⟨j,rr,hj,ha,g⟩:=h.inst k hk';rw [hi] at hj;cases hj
 rw [zbu s k hk'];refine (zlm ha seq).mono ?_;rintro e w' ⟨c,he,hc,h2⟩;obtain ⟨y,y1,y2,y3⟩:=h2;exact ⟨c,he,told_c hc,g w' _ (_::_::ss) (zf8 hsm) ⟨y,y1,y2,y3.rot'.swap.rot⟩⟩
theorem zrq (h:NdIs B w0 W x s l ss) (hk:k<s.c.f+1) (hi:x.is[k]?=some i) (seq:Int):
  Calls Tryz.prog 256 #[ptrV i,.int .i64 seq] W fun e w'=> ∃c:Ct,e= .returned (.tuple #[ctAgg c,.bool (commI (insAt s k) seq).isSome])∧ToldC (commI (insAt s k) seq) c∧NdIs B w0 w' x (zbn s k (zbk (insAt s k) seq)) l (batR c.vb c.rs::redR c.vv 2 c.vs.length (zaf c.vs)::ss):=by
 have hk':k<s.ins.length:=by rw [h.ok.ins];exact hk
 have hsm:=(h.ok.insk k hk').2.2.2;obtain ⟨j,rr,hj,ha,g⟩:=h.inst k hk';rw [hi] at hj;cases hj
 rw [zbu s k hk'];refine (zop ha seq).mono ?_;rintro e w' ⟨c,he,hc,h2⟩;obtain ⟨y,y1,y2,y3⟩:=h2;exact ⟨c,he,told_c hc,g w' _ (_::_::ss) (zg3 hsm) ⟨y,y1,y2,y3.rot'.swap.rot⟩⟩
theorem zu9 (h:NdIs B w0 W x s l ss) (hk:k<s.c.f+1) (hi:x.is[k]?=some i) (seq:Int):
  Calls Tryz.prog 220 #[ptrV i,.int .i64 seq] W fun e w'=> ∃a c,e= .returned (.tuple #[.slice a (zbj (insAt s k) seq).1.length c,.bool (zbj (insAt s k) seq).2])∧NdIs B w0 w' x s l (batR (.slice a (zbj (insAt s k) seq).1.length c) (zbj (insAt s k) seq).1::ss):=by
 have hk':k<s.ins.length:=by rw [h.ok.ins];exact hk
 obtain ⟨j,rr,hj,ha,g⟩:=h.inst k hk';rw [hi] at hj;cases hj
 rw [zbu s k hk'];refine (ztt ha seq).mono ?_;rintro e w' ⟨u,he,hu,hb,hn⟩;obtain ⟨a,c,rfl⟩: ∃a c,u= .slice a (zbj s.ins[k] seq).1.length c:=let ⟨a,c,e,_⟩:=hb;⟨a,c,e⟩;obtain ⟨r,hs,hback⟩:=h.side;refine ⟨a,c,he,hback w' (_::ss) ?_⟩;exact zxq (hs.upd0 hu) hb (fun q hq=> .inr ⟨Nat.le_trans hs.below.size (hn q (zc8 hq)),fun hm=>by have:=hs.lt q hm;have:=hn q (zc8 hq);omega⟩)
theorem nd_next (h:NdIs B w0 W x s l ss) (hk:k<s.c.f+1) (hi:x.is[k]?=some i):Calls Tryz.prog 154 #[ptrV i] W fun e w'=>e= .returned (.int .i64 (nextI (insAt s k)))∧Upd [] W w':=by
 have hk':k<s.ins.length:=by rw [h.ok.ins];exact hk
 obtain ⟨j,rr,hj,ha,-⟩:=h.ask k hk';rw [hi] at hj;cases hj
 rw [zbu s k hk'];exact ai_next ha
end
theorem zs0 (l:List (List Int)) (k j:Nat) (v:Int):(setRow l k j v).length=l.length:=by simp [setRow]
theorem zs1 {l:List (List Int)} {k j:Nat} {v:Int} {n:Nat} (h: ∀r∈l,r.length=n): ∀r∈setRow l k j v,r.length=n:=by
 intro r hr;unfold setRow at hr;obtain ⟨i,hi,rfl⟩:=List.getElem_of_mem hr;have hi:i<l.length:=by simpa using hi
 rw [List.getElem_modify];split
 ·rw [List.length_set];exact h _ (List.getElem_mem hi)
 ·exact h _ (List.getElem_mem hi)
theorem ztq {bs:List Nat} {l:List (List Int)} {k j:Nat} {v:Int} {c:Nat} (hk:k<l.length) (hb:bs[k]?=some c):(bs.zip l).set k (c,(l[k]).set j v)=bs.zip (setRow l k j v):=by
 obtain ⟨hb1,hb2⟩:=List.getElem?_eq_some_iff.1 hb;refine List.ext_getElem (by simp [setRow]) (fun i h1 h2=> ?_);unfold setRow at h2⊢;rw [List.getElem_set,List.getElem_zip,List.getElem_zip,List.getElem_modify];split
 ·rename_i e;subst e;rw [hb2]
 ·rfl
theorem own_row {B:Nat} {w0 W:World} {ss:List Res} {b:Nat} {bs:List Nat} {l:List (List Int)} (h:Own B w0 W (nrL b bs l++ss)) (hl:bs.length=l.length) (k:Nat) (hk:k<l.length):
  ∃c,bs[k]?=some c∧W.cell? ⟨b,k,none⟩=some (nrV c)∧(∀j,W.frozen? ⟨c,j,none⟩=false)∧(∀j (hj:j<l[k].length),W.cell? ⟨c,j,none⟩=some (.int .i64 l[k][j]))∧
   ∀j v,Own B w0 (W.setCell ⟨c,j,none⟩ (.int .i64 v)) (nrL b bs (setRow l k j v)++ss):=by
 have hkb:k<bs.length:=by omega
 have hkz:k<(bs.zip l).length:=by simp;omega
 have h1:Own B w0 W (nrR (bs.zip l)[k]::([segR b 69 (bs.map nrV)]++(((bs.zip l).eraseIdx k).map nrR++ss))):=Own.pick (hd:=[segR b 69 (bs.map nrV)]) (f:=nrR) (l:=bs.zip l) (ss:=ss) h k hkz;have e:(bs.zip l)[k]=(bs[k],l[k]):=by simp
 rw [e] at h1;obtain ⟨-,q2,q3⟩:=zez h1.head;refine ⟨bs[k],by simp [hkb],?_,q3,fun j hj=> ?_,fun j v=> ?_⟩
 ·have:=(zez (h.get 0 rfl)).2.1 k (by simp;omega)
  rw [this];simp [hkb]
 ·rw [q2 j (by simp [intC];exact hj)];simp [intC,hj]
 ·have h2:=h1.put j (.int .i64 v)
  have e2:(intC l[k]).set j (.int .i64 v)=intC (l[k].set j v):=by unfold intC;rw [List.map_set]
  rw [e2] at h2;have h3:=Own.unpick (hd:=[segR b 69 (bs.map nrV)]) (f:=nrR) (x:=(bs[k],l[k].set j v)) (ss:=ss) (l:=bs.zip l) k hkz h2;rw [ztq hk (by simp [hkb])] at h3;exact h3
section
variable {B:Nat} {w0 w W W':World} {ss rs:List Res} {x:Np} {s s':Ns} {l l':Nt} {k i:Nat} {vb:Value} {bs:List Rq}
theorem NdIs.comRow (h:NdIs B w0 W x s l ss) (hk:k<s.c.f+1): ∃c,W.cell? ⟨x.co,k,none⟩=some (nrV c)∧(∀j,W.frozen? ⟨c,j,none⟩=false)∧(∀j,j<17→W.cell? ⟨c,j,none⟩=some (.int .i64 (rowAt s.com k j)))∧
  ∀j v,NdIs B w0 (W.setCell ⟨c,j,none⟩ (.int .i64 v)) x {s with com:=setRow s.com k j v} l ss:=by
 have hok:=h.ok;obtain ⟨v,rr,c,d,g⟩:=h.lens 11 (by omega) (by omega);have hkl:k<s.com.length:=by rw [hok.com];exact hk
 obtain ⟨q,h1,h2,h3,h4,h5⟩:=own_row (Own.open (rs:=nrL x.co x.cos s.com) d) (by rw [c.cos,hok.com]) k hkl;have hlen:=hok.com2 _ (List.getElem_mem hkl);refine ⟨q,h2,h3,fun j hj=> ?_,fun j u=> ?_⟩
 ·rw [h4 j (by omega)]
  unfold rowAt;simp [List.getD_eq_getElem?_getD,hkl,hlen,hj]
 ·exact g _ {s with com:=setRow s.com k j u} v ss (joinR (nrL x.co x.cos (setRow s.com k j u))) {hok with com:=by simp only [zs0];exact hok.com,com2:=zs1 hok.com2} {c with} rfl (Own.shut (rs:=nrL x.co x.cos (setRow s.com k j u)) (h5 j u))
abbrev batMm (kind view inst seq:Int) (v:Value) (rs:List Rq):Mm:=⟨kind,0,view,inst,seq,0,v,rs,.slice none 0 0,[],.slice none 0 0,[],.slice none 0 0,[]⟩
theorem zvj {kind view inst seq:Int} {v:Value} {bs:List Rq} (h:Own B w0 W (batR v bs::rs)):Own B w0 W (mmR (batMm kind view inst seq v bs) (batR v bs::rs)):=by
 have h0:Own B w0 W (redR v 6 bs.length (bs.flatMap zbh)::batR v bs::rs):=h.copy (by rw [zyf];exact List.mem_cons_self) rfl;have h1:=zbz 2 h0;have h2:Own B w0 W (ctsR []::_):=h1.mkCts (by simp);have h3:=zbz 5 h2;have h4:Own B w0 W (ptsR []::_):=h3.mkPts (by simp);exact zbz 4 h4
theorem zye {kind view inst seq:Int} {v:Value} {bs:List Rq} (hb:bs.length≤4):MmOk (batMm kind view inst seq v bs):=⟨by simp;omega,by simp,by simp,by simp⟩
theorem zie {a1:Option Addr} {c1:Nat} {kind seq:Int} (h:NdIs B w0 W x s l (batR (.slice a1 bs.length c1) bs::ss)) (hk:k<s.c.f+1) (hb:bs.length≤4) (hn:l.length≤900000000) (ho:s.out.length≤900000000):
  Calls Tryz.prog 221 #[ptrV x.p,.int .i64 kind,.int .i64 k,.int .i64 seq,.slice a1 bs.length c1] W fun e w'=>e= .returned (.tuple #[])∧NdIs B w0 w' x (zcw kind k seq bs (s,l)).1 (zcw kind k seq bs (s,l)).2 (batR (.slice a1 bs.length c1) bs::ss):=by
 have hcap:=h.caps.1;obtain ⟨i,hi,-⟩:=h.iAt hk;obtain ⟨fin,hfin⟩: ∃fin,fin=zcw kind k seq bs (s,l):=⟨_,rfl⟩;have HFIN:Hid (fin=(zbn (sendS (s,l) (balM' kind s.view k seq bs)).1 k (voteI (insAt (sendS (s,l) (balM' kind s.view k seq bs)).1 k) kind seq (sendS (s,l) (balM' kind s.view k seq bs)).1.id (sendN (s,l) (balM' kind s.view k seq bs)) bs),(sendS (s,l) (balM' kind s.view k seq bs)).2)):=zq (by rw [hfin];rfl);rw [←hfin];have HSE:=zq (znv (m:=batMm kind s.view k seq (.slice a1 bs.length c1) bs) (h.onSide (ss':=mmR (batMm kind s.view k seq (.slice a1 bs.length c1) bs) (batR (.slice a1 bs.length c1) bs::ss)) (fun r hr=>zvj (rs:=ss++[r]) hr)) (zye hb) hn ho);have c29:=h.cell 29 rfl (by decide);rw [show (batMm kind s.view k seq (.slice a1 bs.length c1) bs).ms=balM' kind s.view k seq bs from rfl] at HSE;obtain ⟨o,hso,-,-⟩:=zhu (s,l) (balM' kind s.view k seq bs);generalize sendS (s,l) (balM' kind s.view k seq bs)=p1 at*;generalize sendN (s,l) (balM' kind s.view k seq bs)=sn at*;obtain ⟨s1,l1⟩:=p1;simp only [Prod.mk.injEq] at hso;have hcf:s1.c.f=s.c.f:=by rw [hso.1]
 simp only at HSE HFIN;have HI:=zq hi;have hk0:(0:Int)≤(k:Int):=by omega
 have hkI:(k:Int)<(s1.c.f:Int)+1:=by omega
 have hcI:(s1.c.f:Int)+1≤(x.ic:Int):=by omega
 clear h hfin hso hi;go_enter Tryz.func221,Tryz.ntmps221
 go_wp2_with fail
 refine HSE.out.mono ?_;rintro e w2 ⟨rfl,h2⟩;have h3:NdIs B w0 w2 x s1 l1 (batR (.slice a1 bs.length c1) bs::ss):=h2.drop.drop.drop.drop.drop.drop;have d18:=h3.drew.cell 18 rfl (by decide);have d15:=h3.drew.cell 15 rfl (by decide);have di:=h3.drew.instAt k HI.out;have HV:=zq (nd_vote h3.drew (by omega) HI.out hb kind seq s1.id sn);clear h2 h3 HSE c29
 go_upto_region 1 with fail
 refine Mix.wp_text2 (by kernel_rfl) (by kernel_rfl) ?_
 go_wp2_with fail
 with_reducible refine HV.out.mono ?_
 rintro e w4 ⟨rfl,h4⟩;have HF:Hid (NdIs B w0 w4 x fin.1 fin.2 (batR (.slice a1 bs.length c1) bs::ss)):=zq (by rw [HFIN.out];exact h4);clear h4 HV d18 d15 di HFIN
 go_wp2_with fail
 refine ⟨by rfl,?_⟩
 go_wp2_with fail
 refine bodyPost_end (results_none rfl _ _ _) rfl ?_;exact ⟨rfl,HF.out⟩
end
structure KeepN (a b:Ns):Prop where
 c:b.c=a.c
 id:b.id=a.id
 now:b.now=a.now
 vo:b.vo=a.vo
 gd:b.gd=a.gd
 pts:b.pts=a.pts
 view:b.view=a.view
 voted:b.voted=a.voted
 used:b.used=a.used
 bad:b.bad=a.bad
 stale:b.stale=a.stale
 shut:b.shut=a.shut
 full:b.full=a.full
theorem KeepN.refl (a:Ns):KeepN a a:=by constructor<;>rfl
theorem KeepN.trans {a b d:Ns} (h:KeepN a b) (g:KeepN b d):KeepN a d:=⟨g.c.trans h.c,g.id.trans h.id,g.now.trans h.now,g.vo.trans h.vo,g.gd.trans h.gd,g.pts.trans h.pts,g.view.trans h.view,g.voted.trans h.voted,g.used.trans h.used,g.bad.trans h.bad,g.stale.trans h.stale,g.shut.trans h.shut,g.full.trans h.full⟩
structure Grow (n:Nat) (p q:NSt):Prop where
 out:q.1.out.length≤p.1.out.length+n
 nt:q.2.length≤p.2.length+n
 k:KeepN p.1 q.1
theorem Grow.refl (p:NSt):Grow 0 p p:=⟨Nat.le_refl _,Nat.le_refl _,.refl _⟩
theorem Grow.trans {n m:Nat} {p q r:NSt} (h:Grow n p q) (g:Grow m q r):Grow (n+m) p r:=
 ⟨by have:=h.out;have:=g.out;omega,by have:=h.nt;have:=g.nt;omega,h.k.trans g.k⟩
theorem Grow.mono {n m:Nat} {p q:NSt} (h:Grow n p q) (hm:n≤m):Grow m p q:=⟨by have:=h.out;omega,by have:=h.nt;omega,h.k⟩
theorem zuu (p:NSt) (m:Ms) (hf:p.1.c.f≤4):Grow 13 p (sendS p m):=by
 obtain ⟨o,e,h1,h2⟩:=zhu p m;refine ⟨?_,by omega,by rw [e];constructor<;>rfl⟩
 rw [e];simp only [List.length_append];omega
theorem zfx (kind:Int) (k:Nat) (seq:Int) (rs:List Rq) (p:NSt) (hf:p.1.c.f≤4):Grow 13 p (zcw kind k seq rs p):=by
 obtain ⟨h1,h2,h3⟩:=zuu p (balM' kind p.1.view k seq rs) hf;exact ⟨h1,h2,h3.trans (by constructor<;>rfl)⟩
theorem zo6 (p:NSt) (h4:(runC p.1).rs.length≤4):Grow 4 p (zhr p):=by
 obtain ⟨s,l⟩:=p;obtain ⟨o,l',t',e,h1,h2⟩:=zhs s l;simp only at h4;rw [e];exact ⟨by simp only [List.length_append];omega,by simp only;omega,by constructor<;>rfl⟩
theorem zpn {st:In} {seq:Int} (h:prepI st seq=none):zbi st seq=st:=by
 unfold zbi;rw [h];split<;>simp_all
theorem zqm {st:In} {seq:Int} (h:commI st seq=none):zbk st seq=st:=by
 unfold zbk;rw [h];split<;>simp_all
theorem pl_seq {st:In} {seq:Int} {p:Pl} (h:plAt st seq=some p):1≤seq∧seq≤16:=by
 unfold plAt idx at h;split at h
 ·assumption
 ·simp at h
theorem prep_seq {st:In} {seq:Int} {c:Cp} (h:prepI st seq=some c):1≤seq∧seq≤16:=by
 unfold prepI at h;cases hp:plAt st seq with
 | none=>rw [hp] at h;simp at h
 | some p=>exact pl_seq hp
theorem zkc {α:Type} (p:α→Bool) (g:α→α) (hg: ∀a,p (g a)=true): ∀(l:List α) (k:Nat) (a:α),l[k]?=some a→p a=false→l.countP p+1≤(l.modify k g).countP p
 | [],k,a,h,_=>by simp at h
 | b::l,0,a,h,ha=>by
  simp only [List.getElem?_cons_zero,Option.some.injEq] at h;subst h;simp only [List.modify_zero_cons,List.countP_cons,ha,hg];simp
 | b::l,k+1,a,h,ha=>by
  simp only [List.modify_succ_cons,List.countP_cons];have:=zkc p g hg l k a (by simpa using h) ha;omega
theorem zql {st:In} {seq:Int} {c:Cp} (h:commI st seq=some c):st.l.countP (·.done)+1≤(zbk st seq).l.countP (·.done):=by
 have h':=h;unfold commI at h';unfold zbk;cases hi:idx seq with
 | none=>unfold plAt at h';rw [hi] at h';simp at h'
 | some k=>
  rw [h];have hp:plAt st seq=st.l[k]?:=by unfold plAt;rw [hi];rfl
  rw [hp] at h';cases hq:st.l[k]? with
  | none=>rw [hq] at h';simp at h'
  | some p=>
   rw [hq] at h';simp only at h';split at h'
   ·simp at h'
   ·rename_i hd
    exact zkc (·.done) (fun p=> {p with done:=true,dw:=c}) (fun _=>rfl) _ _ _ hq (by simpa using hd)
theorem zsz {s:Ns} {k:Nat} {st:In} (h:k<s.ins.length):insAt (zbn s k st) k=st:=by unfold insAt zbn;simp [List.getD_eq_getElem?_getD,h]
theorem ziq {s:Ns} {k:Nat} (h:k<s.ins.length):zbn s k (insAt s k)=s:=by
 rw [zbu s k h];unfold zbn;rw [set_self]
def look1 (k:Nat) (seq:Int) (p:NSt):NSt:=match prepI (insAt p.1 k) seq with
 | some c=>zcw 5 k seq c.rs ({zbn p.1 k (zbi (insAt p.1 k) seq) with com:=setRow p.1.com k seq.toNat (p.1.view+1)},p.2)
 | none=>p
def look2 (k:Nat) (seq:Int) (p:NSt):NSt:=match commI (insAt p.1 k) seq with
 | some c=>doneS k c.rs (zbn p.1 k (zbk (insAt p.1 k) seq),p.2)
 | none=>p
theorem zrf (k:Nat) (seq:Int) (p:NSt):lookS k seq p=look2 k seq (look1 k seq p):=rfl
theorem zkf (k:Nat) (seq:Int) (p:NSt) (hf:p.1.c.f≤4):Grow 13 p (look1 k seq p):=by
 unfold look1;split
 ·have:=zfx 5 k seq (by assumption:Cp).rs ({zbn p.1 k (zbi (insAt p.1 k) seq) with com:=setRow p.1.com k seq.toNat (p.1.view+1)},p.2) hf
  exact ⟨this.out,this.nt,KeepN.trans (by constructor<;>rfl) this.k⟩
 ·exact (Grow.refl p).mono (by omega)
section
variable {B:Nat} {w0 w W W':World} {ss rs:List Res} {x:Np} {s s':Ns} {l l':Nt} {k i:Nat} {vb:Value} {bs:List Rq}
def CmtC (B:Nat) (w0:World) (x:Np):Prop:= ∀ {W:World} {s:Ns} {l:Nt} {k:Nat} {ao:Option Addr} {bcap:Nat} {bs:List Rq} {ss:List Res},NdIs B w0 W x s l (batR (.slice ao bs.length bcap) bs::ss)→k<s.c.f+1→bs.length≤4→(s.mt.getD k (0,0)).1+bs.length≤4*((s.ins.getD k noIn).l.countP (·.done):Nat)→l.length≤800000000→s.out.length≤800000000→
  Calls Tryz.prog 241 #[ptrV x.p,.int .i64 k,.slice ao bs.length bcap] W fun e w'=>e= .returned (.tuple #[])∧NdIs B w0 w' x (doneS k bs (s,l)).1 (doneS k bs (s,l)).2 (batR (.slice ao bs.length bcap) bs::ss)
theorem zrs {seq:Int} (HQ:commI (insAt (look1 k seq (s,l)).1 k) seq=none∨CmtC B w0 x) (h:NdIs B w0 W x s l ss) (hk:k<s.c.f+1) (hn:l.length≤700000000) (ho:s.out.length≤700000000):
  Calls Tryz.prog 222 #[ptrV x.p,.int .i64 k,.int .i64 seq] W fun e w'=>e= .returned (.tuple #[])∧NdIs B w0 w' x (lookS k seq (s,l)).1 (lookS k seq (s,l)).2 ss:=by
 have hcap:=h.caps;have hkc:=h.caps.2.2.2.2.1;have hki:k<s.ins.length:=by rw [h.ok.ins];exact hk
 obtain ⟨i,hi,-⟩:=h.iAt hk;have HI:=zq hi;have HSM:Hid (InSm (insAt s k)):=zq (by rw [zbu s k hki];exact (h.ok.insk k hki).2.2.2);have HV:=zq (And.intro h.ok.view0 h.ok.view1);have HG:=zq (zkf k seq (s,l) h.ok.c.f2);rw [zrf];obtain ⟨p1,hp1⟩: ∃p1,p1=look1 k seq (s,l):=⟨_,rfl⟩;obtain ⟨fin,hfin⟩: ∃fin,fin=look2 k seq p1:=⟨_,rfl⟩;rw [←hp1] at HG HQ⊢;rw [←hfin];have HQ:=zq HQ;have HP1:=zq hp1;have HFIN:=zq hfin;have H0:=zq h;have c18:=h.cell 18 rfl (by decide);have ci:=h.instAt k hi;have HPR:=zq (zpe h hk hi seq);obtain ⟨ok,hok⟩: ∃ok,ok=(prepI (insAt s k) seq).isSome:=⟨_,rfl⟩;rw [←hok] at HPR;have HOK:=zq hok;clear hok;have hk0:(0:Int)≤(k:Int):=by omega
 have hkI:(k:Int)<(s.c.f:Int)+1:=by omega
 have hcI:(s.c.f:Int)+1≤(x.ic:Int):=by omega
 have hcK:(s.c.f:Int)+1≤(x.cok:Int):=by omega
 clear h hp1 hfin hi hcap;go_enter Tryz.func222,Tryz.ntmps222
 go_wp2_with fail
 with_reducible refine HPR.out.mono ?_
 rintro e w2 ⟨c,rfl,hc,h2⟩;obtain ⟨a1,k1,e1⟩:=hc.vb;obtain ⟨a2,k2,e2⟩:=hc.vv;have HCP:=zq hc.cp;have HCN:=zq hc.vn;clear hc HPR c18 ci;obtain ⟨view,inst,sq,vb,vv,bs,vs⟩:=c;simp only at e1 e2 HCN;subst e1 e2;have H3:=zq (h2.box (ctO view inst sq (.slice a1 bs.length k1) (.slice a2 vs.length k2)));clear h2
 go_upto_if 22 with fail
 generalize w2.heap.size=e0 at*;generalize w2.alloc _=w3 at*
 go_cut [] (fun wx=>Hid (NdIs B w0 wx x p1.1 p1.2 ss))
 case first=>
  cases ok with
  | false=>
   have hpr:prepI (insAt s k) seq=none:=by have:=HOK.out;cases h:prepI (insAt s k) seq with | none=>rfl | some c=>rw [h] at this;simp at this
   have HF:Hid (NdIs B w0 w3 x p1.1 p1.2 ss):=zq (by
    have h4:=H3.out.drop.drop.drop;rw [zpn hpr,ziq hki] at h4;rw [HP1.out];unfold look1;simp only;rw [hpr];exact h4)
   clear H3 HCP HP1 hpr HOK
   go_wp2_with fail
   go_meet
   exact HF
  | true=>
   obtain ⟨c0,hpr⟩: ∃c0,prepI (insAt s k) seq=some c0:=Option.isSome_iff_exists.1 HOK.out.symm;obtain ⟨q1,q2⟩:=prep_seq hpr;obtain ⟨sn,hsn⟩: ∃sn:Nat,seq=sn:=⟨seq.toNat,by omega⟩;have hrs:bs=c0.rs:=by have:=HCP.out;rw [hpr] at this;exact congrArg Cp.rs this
   have hb4:bs.length≤4:=by rw [hrs];exact zsj HSM.out hpr
   have HE:Hid (p1=zcw 5 k seq bs ({zbn s k (zbi (insAt s k) seq) with com:=setRow s.com k seq.toNat (s.view+1)},l)):=zq (by rw [HP1.out];unfold look1;simp only;rw [hpr,hrs]);clear hrs hpr HP1 HCP HOK;subst hsn;rw [Int.toNat_natCast] at HE;obtain ⟨q,y1,z1,y2,hput⟩:=H3.out.comRow (k:=k) hk;have hsn0:(0:Int)≤(sn:Int):=by omega
   have hsnI:(sn:Int)<17:=by omega
   have c27:w3.cell? ⟨x.p,27,none⟩=some (slI x.co (s.c.f+1) x.cok):=H3.out.cell 27 rfl (by decide);have c29:w3.cell? ⟨x.p,29,none⟩=some (.int .i64 s.view):=H3.out.cell 29 rfl (by decide);have hvw:IntKind.i64.wrap (s.view+1)=s.view+1:=IntWalk.i64_in _ (by have:=HV.out;omega);have y3:w3.drew.cell? ⟨q,sn,none⟩=some (.int .i64 (rowAt s.com k sn)):=y2 sn (by omega);have z3:w3.drew.frozen? ⟨q,sn,none⟩=false:=z1 sn;obtain ⟨s2,hs2⟩: ∃s2:Ns,s2= {zbn s k (zbi (insAt s k) sn) with com:=setRow s.com k sn (s.view+1)}:=⟨_,rfl⟩;rw [←hs2] at HE;have H4:Hid (NdIs B w0 (w3.setCell ⟨q,sn,none⟩ (.int .i64 (s.view+1))).drew x s2 l (blk e0 (ctO view inst sq (.slice a1 bs.length k1) (.slice a2 vs.length k2))::batR (.slice a1 bs.length k1) bs::redR (.slice a2 vs.length k2) 2 vs.length (zaf vs)::ss)):=zq (by rw [hs2];exact (hput sn (s.view+1)).drew);have hk2:k<s2.c.f+1:=by rw [hs2];exact hk
   have ho2:s2.out.length≤900000000:=by rw [hs2];exact Nat.le_trans ho (by omega)
   clear hs2;have y1':w3.cell? ⟨x.co,k,none⟩=some (nrV q):=y1;clear hput z1 y2 y1 H3
   go_wp2_with fail
   go_region
   all_goals
    generalize World.drew (World.setCell _ _ _)=w4 at*;obtain ⟨r4,hs4,-⟩:=H4.out.side;have y4:=zaa (hs4.blkAt 0 rfl) 3 rfl;have HB:=zq (zie (kind:=5) (seq:=sn) (H4.out.perm (.swap _ _ _)) hk2 hb4 (by omega) ho2);rw [←HE.out] at HB;clear hs4 H4 HE y1' y3 z3 c27 c29
    go_wp2_with fail
    with_reducible refine HB.out.mono ?_
    rintro e w5 ⟨rfl,h5⟩;have HF:=zq h5.drop.drop.drop;clear h5 HB y4
    go_wp2_with fail
    go_meet
    exact HF
 case rest=>
  have H1:=hcut;clear hcut H3 H0 HCP HOK HP1 HSM HCN;obtain ⟨g1,g2,g3⟩:=HG.out;have g3:=g3.c;obtain ⟨s1,l1⟩:=p1;simp only at g1 g2 g3 H1 HFIN;have hk1:k<s1.c.f+1:=by rw [g3];exact hk
  have hki1:k<s1.ins.length:=by rw [H1.out.ok.ins];exact hk1
  have d18:wc.cell? ⟨x.p,18,none⟩=some (slI x.ib (s.c.f+1) x.ic):=by have:=H1.out.cell 18 rfl (by decide);rw [g3] at this;exact this
  have di:=H1.out.instAt k HI.out;have HCM:=zq (zrq H1.out hk1 HI.out seq);have HSM1:Hid (InSm (insAt s1 k)):=zq (by rw [zbu s1 k hki1];exact (H1.out.ok.insk k hki1).2.2.2);obtain ⟨ok2,hok2⟩: ∃ok2,ok2=(commI (insAt s1 k) seq).isSome:=⟨_,rfl⟩;rw [←hok2] at HCM;have HOK2:=zq hok2;have HMT:Hid ((s1.mt.getD k (0,0)).1≤4*((insAt s1 k).l.countP (·.done):Nat)):=zq (by
   have hml:k<s1.mt.length:=by rw [H1.out.ok.mt];exact hk1
   have:=(H1.out.ok.mtn k hml hki1).2.1;rw [zbu s1 k hki1]
   simpa [List.getD_eq_getElem?_getD,hml] using this)
  have HCF:=zq g3;clear hok2 H1 g3
  go_wp2_with fail
  with_reducible refine HCM.out.mono ?_
  rintro e w6 ⟨c,rfl,hc,h6⟩;obtain ⟨a1,k1,e1⟩:=hc.vb;obtain ⟨a2,k2,e2⟩:=hc.vv;have HCP:=zq hc.cp;clear hc HCM d18 di;obtain ⟨view,inst,sq,vb,vv,bs,vs⟩:=c;simp only at e1 e2;subst e1 e2;have H7:=zq (h6.box (ctO view inst sq (.slice a1 bs.length k1) (.slice a2 vs.length k2)));clear h6
  go_upto_if 55 with fail
  generalize w6.heap.size=e1 at*;generalize w6.alloc _=w7 at*;cases ok2 with
  | false=>
   have hcm:commI (insAt s1 k) seq=none:=by have:=HOK2.out;cases h:commI (insAt s1 k) seq with | none=>rfl | some c=>rw [h] at this;simp at this
   have HF:Hid (NdIs B w0 w7 x fin.1 fin.2 ss):=zq (by
    have h4:=H7.out.drop.drop.drop;rw [zqm hcm,ziq hki1] at h4;rw [HFIN.out];unfold look2;simp only;rw [hcm];exact h4)
   clear H7 HCP HFIN hcm HOK2 HMT HCF HSM1
   go_wp2_with fail
   refine bodyPost_end (results_none rfl _ _ _) rfl ?_;exact ⟨rfl,HF.out⟩
  | true=>
   obtain ⟨c0,hcm⟩: ∃c0,commI (insAt s1 k) seq=some c0:=Option.isSome_iff_exists.1 HOK2.out.symm;have HCC:CmtC B w0 x:=by
    rcases HQ.out with hq | hq
    ·exact absurd (hq.symm.trans hcm) (by simp)
    ·exact hq
   have hrs:bs=c0.rs:=by have:=HCP.out;rw [hcm] at this;exact congrArg Cp.rs this
   have hb4:bs.length≤4:=by rw [hrs];exact zw6 HSM1.out hcm
   have HE:Hid (fin=doneS k bs (zbn s1 k (zbk (insAt s1 k) seq),l1)):=zq (by rw [HFIN.out];unfold look2;simp only;rw [hcm,hrs]);have hdn:=zql hcm;have hmt:=HMT.out;obtain ⟨r7,hs7,-⟩:=H7.out.side;have y4:=zaa (hs7.blkAt 0 rfl) 3 rfl;have HC:=zq (HCC (k:=k) (H7.out.perm (.swap _ _ _)) (by exact hk1) hb4 (by
    have e:(zbn s1 k (zbk (insAt s1 k) seq)).ins.getD k noIn=zbk (insAt s1 k) seq:=zsz hki1;rw [e];show (s1.mt.getD k (0,0)).1+_≤_;omega) (by omega) (by show s1.out.length≤_;omega))
   rw [←HE.out] at HC;clear HCC hs7 H7 HE hdn hmt HMT hcm hrs HCP HFIN HOK2 HSM1 HCF
   go_wp2_with fail
   with_reducible refine HC.out.mono ?_
   rintro e w8 ⟨rfl,h8⟩;have HF:=zq h8.drop.drop.drop;clear h8 HC y4
   go_wp2_with fail
   refine bodyPost_end (results_none rfl _ _ _) rfl ?_;exact ⟨rfl,HF.out⟩
end
section
variable {B:Nat} {w0 w W W':World} {ss rs:List Res} {x:Np} {s s':Ns} {l l':Nt} {k i:Nat}
def zmm (k:Nat) (seq:Int) (p:NSt):Prop:=commI (insAt (look1 k seq (zcw 4 k seq (zbj (insAt p.1 k) seq).1 p)).1 k) seq=none
theorem zmd {seq:Int} (HQ:zmm k seq (s,l)∨CmtC B w0 x) (h:NdIs B w0 W x s l ss) (hk:k<s.c.f+1) (hn:l.length≤600000000) (ho:s.out.length≤600000000):
  Calls Tryz.prog 161 #[ptrV x.p,.int .i64 k,.int .i64 seq] W fun e w'=>e= .returned (.tuple #[])∧NdIs B w0 w' x (zd3 k seq (s,l)).1 (zd3 k seq (s,l)).2 ss:=by
 have hcap:=h.caps.1;have hki:k<s.ins.length:=by rw [h.ok.ins];exact hk
 obtain ⟨i,hi,-⟩:=h.iAt hk;have HSM:Hid ((zbj (insAt s k) seq).1.length≤4):=zq (zne (by rw [zbu s k hki];exact (h.ok.insk k hki).2.2.2) seq);obtain ⟨fin,hfin⟩: ∃fin,fin=zd3 k seq (s,l):=⟨_,rfl⟩;have HFIN:Hid (fin=lookS k seq (zcw 4 k seq (zbj (insAt s k) seq).1 (s,l))):=zq (by rw [hfin];rfl);rw [←hfin];have HQ:Hid (commI (insAt (look1 k seq (zcw 4 k seq (zbj (insAt s k) seq).1 (s,l))).1 k) seq=none∨CmtC B w0 x):=zq HQ;have HG:=zq (zfx 4 k seq (zbj (insAt s k) seq).1 (s,l) h.ok.c.f2);have c18:=h.cell 18 rfl (by decide);have ci:=h.instAt k hi;have HCH:=zq (zu9 h hk hi seq);have HK:=zq hk;have hk0:(0:Int)≤(k:Int):=by omega
 have hkI:(k:Int)<(s.c.f:Int)+1:=by omega
 have hcI:(s.c.f:Int)+1≤(x.ic:Int):=by omega
 generalize (zbj (insAt s k) seq).1=bs at*;generalize (zbj (insAt s k) seq).2=is at*;clear h hfin hi hcap;go_enter Tryz.func161,Tryz.ntmps161
 go_wp2_with fail
 with_reducible refine HCH.out.mono ?_
 rintro e w2 ⟨a1,c1,rfl,h2⟩;have HB:=zq (zie (kind:=4) (seq:=seq) h2 HK.out HSM.out (by omega) (by omega));clear h2 HCH c18 ci
 go_wp2_with fail
 with_reducible refine HB.out.mono ?_
 rintro e w3 ⟨rfl,h3⟩;have h4:=h3.drop;have hg:=HG.out;generalize zcw 4 k seq bs (s,l)=p1 at*;obtain ⟨s1,l1⟩:=p1;obtain ⟨g1,g2,g3⟩:=hg;have g3:=g3.c;simp only at g1 g2 g3 h4;have HL:=zq (zrs (k:=k) (seq:=seq) HQ.out h4 (by rw [g3];exact HK.out) (by omega) (by omega));rw [←HFIN.out] at HL;clear h3 h4 HB hkI hcI HG HSM HK HQ g1 g2 g3
 go_wp2_with fail
 with_reducible refine HL.out.mono ?_
 rintro e w5 ⟨rfl,h5⟩;have HF:=zq h5;clear h5 HL
 go_wp2_with fail
 refine bodyPost_end (results_none rfl _ _ _) rfl ?_;exact ⟨rfl,HF.out⟩
end
section
variable {B:Nat} {w0 w W W':World} {ss rs:List Res} {x:Np} {s s':Ns} {l l':Nt}
def TakeM (B:Nat) (w0:World) (x:Np) (s:Ns) (l:Nt) (fn:FuncId) (m:Mm) (fin:Int×NSt):Prop:=
 ∀W ss,NdIs B w0 W x s l (mmR m ss)→Calls Tryz.prog fn #[ptrV x.p,.agg (mmA m)] W fun e w'=>e= .returned (.int .i64 fin.1)∧NdIs B w0 w' x fin.2.1 fin.2.2 (mmR m ss)
theorem zzz {m:Mm} {sl:Int} {fin:Int×NSt} (hk:m.kind=8) (HC:TakeM B w0 x s l 181 m fin):TakeC B w0 x s l 98 m sl fin:=by
 intro W ss h;obtain ⟨kind,fm,view,inst,seq,res,a1,rs,c1,a2,vs,c2,a3,cts,c3,a4,pts,c4,rfl⟩:=zmb h;simp only at hk;subst hk;have H8:=zq (HC _ _ (h.alloc (mmO ⟨8,fm,view,inst,seq,res,.slice a1 rs.length c1,rs,.slice a2 vs.length c2,vs,.slice a3 cts.length c3,cts,.slice a4 pts.length c4,pts⟩)));clear h HC;go_enter Tryz.func98,Tryz.ntmps98
 go_wp2_with fail
 with_reducible refine H8.out.mono ?_
 rintro e w2 ⟨rfl,h2⟩;have HF:=zq h2;clear h2 H8
 go_wp2_with fail
 go_ret
 exact ⟨rfl,HF.out⟩
end
def gStep (inst:Int) (n:Int) (c:Cp):Int:=if c.inst=inst∧c.seq≤16 then max n c.seq else n
theorem zuq (inst:Int) (ps:List Pa):zi5 inst ps=(za4 ps).foldl (gStep inst) 0:=rfl
theorem zf5 {ps:List Pa} {k:Nat} (hk:k<ps.length):za4 (ps.take (k+1))=za4 (ps.take k)++ps[k].cs:=by
 unfold za4;rw [List.take_add_one,List.getElem?_eq_getElem hk,List.flatMap_append];simp
section
variable {w:World}
theorem zur (inst:Int) (u:Value) (ps:List Pt) (w:World) (hm:ps.length≤100000) (hc:PtsAt w u ps):
  Calls Tryz.prog 288 #[.int .i64 inst,u] w fun e w'=>e= .returned (.int .i64 (zi5 inst (ps.map Pt.pa)))∧Upd [] w w':=by
 have HC:=zq hc;have hu0: ∃a k,u= .slice a ps.length k:=by obtain ⟨⟨a,k,e,-⟩,-⟩:=hc;exact ⟨a,k,e⟩
 obtain ⟨a,kk,rfl⟩:=hu0;clear hc;have HU0:=zq (Upd.refl [] w);rw [zuq];obtain ⟨F,hF⟩: ∃F,F=(za4 (ps.map Pt.pa)).foldl (gStep inst) 0:=⟨_,rfl⟩;rw [←hF];have HF:=zq hF;clear hF;go_enter Tryz.func288,Tryz.ntmps288
 go_wp2_with fail
 go_loopw [5,12] (fun n i wr=> ∃(k:Nat) (N:Int),k≤ps.length∧i= .int .i64 k∧n= .int .i64 N∧Hid (N=(za4 ((ps.map Pt.pa).take k)).foldl (gStep inst) 0)∧Hid (Upd [] w wr)) (fun _ i _=>ps.length-(intOf i).toNat)
 case atStart=>exact ⟨0,0,by omega,rfl,rfl,zq rfl,HU0⟩
 case round=>
  clear HU0;obtain ⟨k,N,hk,rfl,rfl,HN,HU⟩:=hrel;by_cases hlt:k<ps.length
  ·have hkI:(k:Int)<(ps.length:Int):=by omega
   have hPW:PtW w ps[k]:=HC.out.2 _ (List.getElem_mem hlt);have HCA:=zq (HC.out.upd HU.out);obtain ⟨b,o,rfl,hbs,q0,q1,q2,q3⟩:=HCA.out.at k hlt;obtain ⟨⟨av,kv,ev⟩,ac,kc,ec⟩:=hPW.slices;have HST:Hid ((za4 ((ps.map Pt.pa).take (k+1))).foldl (gStep inst) 0=(ps[k].cts.map Ct.cp).foldl (gStep inst) N):=zq (by
    rw [zf5 (by simpa using hlt),List.foldl_append,←HN.out,List.getElem_map];rfl)
   generalize ps[k]=cP at*;rw [ev] at q1;rw [ec] at q2;have hcA:CtsAt w (.slice ac cP.cts.length kc) cP.cts:=by have:=hPW.2.2.1;rw [ec] at this;exact this
   have HCC:=zq hcA;have hcn:=hPW.2.2.2;have HU2:=zq (HU.out.alloc (.cells #[.int .i64 cP.fm,.slice av cP.vs.length kv,.slice ac cP.cts.length kc,.int .i64 cP.sl] 49 (0,0)));clear hPW ev ec hcA HU HCA HN
   go_wp2_with fail
   go_loopw [5,19] (fun n i w2=> ∃(j:Nat) (N:Int),j≤cP.cts.length∧i= .int .i64 j∧n= .int .i64 N∧Hid ((ps.map Pt.pa |>fun l=>(za4 (l.take (k+1))).foldl (gStep inst) 0)=((cP.cts.map Ct.cp).drop j).foldl (gStep inst) N)∧Hid (Upd [] w w2)) (fun _ i _=>cP.cts.length-(intOf i).toNat)
   case atStart=>exact ⟨0,N,by omega,rfl,rfl,zq HST.out,HU2⟩
   case round=>
    clear HU2 HST q0 q1 q2 q3;obtain ⟨j,N,hj,rfl,rfl,HN,HU⟩:=hrel;by_cases hjl:j<cP.cts.length
    ·have hjI:(j:Int)<(cP.cts.length:Int):=by omega
     have hjc:(cP.cts.length:Int)≤100000:=by omega
     obtain ⟨hn1,hn2⟩:=HCC.out.2 _ (List.getElem_mem hjl);have HC2:=zq (HCC.out.upd HU.out);obtain ⟨b2,o2,rfl,hbs2,r0,r1,r2,r3,r4⟩:=HC2.out.at j hjl;have HST:Hid ((ps.map Pt.pa |>fun l=>(za4 (l.take (k+1))).foldl (gStep inst) 0)=((cP.cts.map Ct.cp).drop (j+1)).foldl (gStep inst) (gStep inst N (Ct.cp cP.cts[j]))):=zq (by
      rw [HN.out,List.drop_eq_getElem_cons (by simpa using hjl),List.foldl_cons,List.getElem_map])
     obtain ⟨x1,k1,e1⟩: ∃a k,cP.cts[j].vb= .slice a cP.cts[j].rs.length k:=by obtain ⟨a,k,e,-⟩:=hn1;exact ⟨a,k,e⟩
     obtain ⟨x2,k2,e2⟩: ∃a k,cP.cts[j].vv= .slice a cP.cts[j].vs.length k:=by obtain ⟨a,k,e,-⟩:=hn2.2.1;exact ⟨a,k,e⟩
     generalize cP.cts[j]=c at*;obtain ⟨view,ins,seq,vb,vv,rs,vs⟩:=c;simp only at e1 e2 r0 r1 r2 r3 r4 HST;subst e1 e2;have HU3:=zq (HU.out.alloc (.cells #[.int .i64 view,.int .i64 ins,.int .i64 seq,.slice x1 rs.length k1,.slice x2 vs.length k2] 42 (0,0)));clear hn1 hn2 HU HC2 HN;have hstep:Hid (gStep inst N (Ct.cp ⟨view,ins,seq,.slice x1 rs.length k1,.slice x2 vs.length k2,rs,vs⟩)=if ins=inst∧seq≤16 then max N seq else N):=zq rfl;by_cases h1:ins=inst
     ·have b1:(ins==inst)=true:=by simp [h1]
      by_cases h2:seq≤16
      ·have b2':decide (seq≤16)=true:=by simp [h2]
       have HS2:=zq (hstep.out.trans (if_pos ⟨h1,h2⟩));clear h1 h2 hstep;by_cases hx:seq>N
       ·have HS3:Hid (gStep inst N (Ct.cp ⟨view,ins,seq,.slice x1 rs.length k1,.slice x2 vs.length k2,rs,vs⟩)=seq):=zq (by rw [HS2.out];omega)
        clear HS2
        go_wp2_with fail
        go_roundw
        case rel=>exact ⟨j+1,seq,by omega,by go_num,rfl,zq (by rw [HST.out,HS3.out]),HU3⟩
        case measure=>simp [intOf];omega
       ·have HS3:Hid (gStep inst N (Ct.cp ⟨view,ins,seq,.slice x1 rs.length k1,.slice x2 vs.length k2,rs,vs⟩)=N):=zq (by rw [HS2.out];omega)
        clear HS2
        go_wp2_with fail
        go_roundw
        case rel=>exact ⟨j+1,N,by omega,by go_num,rfl,zq (by rw [HST.out,HS3.out]),HU3⟩
        case measure=>simp [intOf];omega
      ·have b2':decide (seq≤16)=false:=by simp;omega
       have HS2:=zq (hstep.out.trans (if_neg (fun h=>h2 h.2)));clear h1 h2 hstep
       go_wp2_with fail
       go_roundw
       case rel=>exact ⟨j+1,N,by omega,by go_num,rfl,zq (by rw [HST.out,HS2.out]),HU3⟩
       case measure=>simp [intOf];omega
     ·have b1:(ins==inst)=false:=by simp [h1]
      have HS2:=zq (hstep.out.trans (if_neg (fun h=>h1 h.1)));clear h1 hstep
      go_wp2_with fail
      go_roundw
      case rel=>exact ⟨j+1,N,by omega,by go_num,rfl,zq (by rw [HST.out,HS2.out]),HU3⟩
      case measure=>simp [intOf];omega
    ·have hjI:decide ((j:Int)<(cP.cts.length:Int))=false:=by simp;omega
     have HE:Hid (N=(za4 ((ps.map Pt.pa).take (k+1))).foldl (gStep inst) 0):=zq (by
      have:=HN.out;rw [List.drop_eq_nil_of_le (by simp;omega)] at this;exact this.symm)
     clear HN
     go_wp2_with fail
     go_roundw
     case rel=>exact ⟨k+1,N,by omega,by go_num,rfl,HE,HU⟩
     case measure=>simp [intOf];omega
  ·have hkI:decide ((k:Int)<(ps.length:Int))=false:=by simp;omega
   have HE:Hid (N=F):=zq (by rw [HN.out,HF.out,List.take_of_length_le (by simp;omega)]);obtain rfl:=HE.out;clear HN HF HE
   go_wp2_with fail
   go_ret
   exact ⟨rfl,HU.out⟩
end
end Go.Proofs.YtannckelmojkoaaGreat
