/- Parts of the proof, one behind the other. -/
import Derived.Test.YtannckelmojkoaaGreatVwsB30
import Derived.Lib.SmallJoins
set_option maxHeartbeats 32000000
set_option maxRecDepth 100000
set_option linter.unusedVariables false
set_option linter.unusedSimpArgs false
namespace Go.Proofs.YtannckelmojkoaaGreat
open Go.RowKit Go.Heap
theorem zn1 (id:Nat): ∀n,(zas n (id:Int)).length=if id<n then n-1 else n
 | 0=>by simp [zas]
 | n+1=>by
  have ih:=zn1 id n;have e:zas (n+1) (id:Int)=zas n id++if n=id then [] else [(n:Int)]:=by
   unfold zas;rw [List.range_succ,List.map_append,List.filter_append];congr 1
   by_cases h:n=id
   ·subst h;simp
   ·have: ¬(n:Int)=(id:Int):=by omega
    simp [h,this]
  rw [e,List.length_append,ih];by_cases h:n=id
  ·subst h;simp
  ·rw [if_neg h]
   simp only [List.length_singleton];split<;>split<;>omega
theorem zjf {f id:Nat} (h:id≤3*f):zkn f id=3*f:=by
 unfold zkn;rw [zn1,if_pos (by omega)];omega
abbrev endK (f id:Nat) (a b:Bool):List Int:=ks4 f id++((if a then ks5 f id else [])++if b then [10] else [])
structure OrE (f id:Nat) (r:Rq) (a b:Bool) (s:Ns) (l:Nt):Prop where
 c:s.c=stdC f
 out:OutK l f s.out (endK f id a b)
 es: ∃es:List En,s.bk.es=es∧es.map En.rq=if b then [r] else []
 cm:cmtN s 16=if b then 1 else 0
section
variable {f id np nc k i:Nat} {hp hc:Nat→Bool} {r:Rq} {s:Ns} {l:Nt} {u:Int} {ks:List Int} {p:Pl} {com:List (List Int)} {bk:Lp} {out:List (Int×Bys)} {n:Int}
theorem zyo:cmtN (orS f id p com n bk out u) 16=if p.done then 1 else 0:=by
 have e: ∀j:Nat,1≤j→zbl (ordI f 4 p) ((j:Int)+1)=none:=fun j hj=>by
  unfold zbl;cases hq:plAt (ordI f 4 p) ((j:Int)+1) with
  | none=>rfl
  | some q=>
   have hq2:q=zbg f:=by
    unfold plAt at hq;cases hi:idx ((j:Int)+1) with
    | none=>rw [hi] at hq;simp at hq
    | some k=>
     rw [hi] at hq;have:=zo8 hi;obtain rfl:k=j:=by omega
     obtain ⟨k',rfl⟩: ∃k',k=k'+1:=⟨k-1,by omega⟩;have h2:(List.replicate 15 (zbg f))[k']?=some q:=hq;rw [List.getElem?_replicate] at h2;split at h2
     ·exact (Option.some.inj h2).symm
     ·cases h2
   subst hq2;rfl
 unfold cmtN;rw [show List.range 16=0::(List.range 15).map (· +1) from rfl,List.countP_cons];have e0:((List.range 15).map (· +1)).countP (fun (j:Nat)=>(zbl (insAt (orS f id p com n bk out u) 0) ((j:Int)+1)).isSome)=0:=by
  rw [List.countP_eq_zero];intro j hj;simp only [List.mem_map,List.mem_range] at hj;obtain ⟨j',-,rfl⟩:=hj;rw [or_at,e (j'+1) (by omega)];simp
 rw [e0,or_at];have e2:=zje (f:=f) (ah:=4) (p:=p);have e3:zbl (ordI f 4 p) (((0:Nat):Int)+1)=if p.done then some p.dw else none:=e2
 rw [e3];cases p.done<;>rfl
theorem OrN.e (h:OrN f id r np hp nc hc (ks4 f id) u s l):OrE f id r false false s l:=by
 obtain ⟨p,com,out,rfl,hP,hO⟩:=h;exact ⟨rfl,(by show OutK l f out (ks4 f id++([]++[]));rw [List.append_nil,List.append_nil];exact hO),⟨[],rfl,rfl⟩,by rw [zyo,hP.done]⟩
theorem OrN.e5 (h:OrN f id r np hp nc hc (ks4 f id++ks5 f id) u s l):OrE f id r true false s l:=by
 obtain ⟨p,com,out,rfl,hP,hO⟩:=h;exact ⟨rfl,(by show OutK l f out (ks4 f id++(ks5 f id++[]));rw [List.append_nil];exact hO),⟨[],rfl,rfl⟩,by rw [zyo,hP.done]⟩
theorem OrF.e (h:OrF f id r (ks4 f id++ks5 f id++[10]) u s l):OrE f id r true true s l:=by
 obtain ⟨p,com,bk,out,e,rfl,hd,he,hr,hO⟩:=h;exact ⟨rfl,(by show OutK l f out (ks4 f id++(ks5 f id++[10]));rw [←List.append_assoc];exact hO),⟨[e],he,by rw [List.map_cons,hr];rfl⟩,by rw [zyo,hd]⟩
theorem St1.e (h:St1 f id r k i u s l):OrE f id r (decide (k=2*f)) false s l:=by
 rcases h with ⟨h1,hp,-,h2⟩ | ⟨h1,hp,h2⟩
 ·rw [decide_eq_false (by omega)];exact h2.e
 ·rw [decide_eq_true h1];exact h2.e5
theorem St2.e (h:St2 f id r k i u s l):OrE f id r true (decide (k=2*f)) s l:=by
 rcases h with ⟨h1,hp,hc,-,h2⟩ | ⟨h1,h2⟩
 ·rw [decide_eq_false (by omega)];exact h2.e5
 ·rw [decide_eq_true h1];exact h2.e
end
end Go.Proofs.YtannckelmojkoaaGreat
namespace Go.Proofs.YtannckelmojkoaaGreat
open Go.ChangeShapes Go.WideShapes Go.ChangeAt Go.RowKit Go.Deep Go.Heap
section
variable {H:Type} {enc:TypeId×Value→H} {W:World} {base:Nat} {spare:Nat→Bool} {held:Bool}
theorem op_arg {base':Nat} {v:Value} {d:DataW H} {p:List MemPlace} {r:Reach} (hv:Value.okWide Tryz.prog W r base' 23 v) (h:DataW.Trod enc Tryz.prog W base spare held 23 v d p): ∃a b c:Int,v= .agg #[.int .i64 a,.int .i64 b,.int .i64 c]:=by
 obtain ⟨v0,v1,v2,y0,y1,y2,n,rfl,-,-,h0,h1,h2⟩:=Go.Joins.open_agg3 Tryz.underlying23 (by kernel_rfl) (by kernel_rfl) hv h;obtain ⟨a,e0,-,-⟩:=DataW.trod_int Tryz.underlying3 h0;obtain ⟨b,e1,-,-⟩:=DataW.trod_int Tryz.underlying3 h1;obtain ⟨c,e2,-,-⟩:=DataW.trod_int Tryz.underlying3 h2;simp only [List.cons.injEq,and_true] at e0 e1 e2;subst e0 e1 e2;exact ⟨a,b,c,rfl⟩
end
end Go.Proofs.YtannckelmojkoaaGreat
namespace Go.Proofs.YtannckelmojkoaaGreat
open Go.RowKit Go.Heap
def MtSm (l:List (Int×Int)):Prop:= ∀q∈l,0≤q.1∧q.1≤1000000∧0≤q.2∧q.2≤1000000000000
theorem MtSm.take {l:List (Int×Int)} (h:MtSm l) (k:Nat):MtSm (l.take k):=fun q hq=>h q (List.mem_of_mem_take hq)
section
variable {w:World} {b o cap:Nat} {l:List (Int×Int)}
end
structure Wf (p:NSt):Prop where
 c:CfOk p.1.c
 sm:SmN p.1
 pt:PtOk p.1
structure KeepG (a b:Ns):Prop where
 gd:b.gd=a.gd
 used:b.used=a.used
 bad:b.bad=a.bad
 stale:b.stale=a.stale
 shut:b.shut=a.shut
 full:b.full=a.full
theorem KeepG.refl (a:Ns):KeepG a a:=⟨rfl,rfl,rfl,rfl,rfl,rfl⟩
theorem KeepG.trans {a b c:Ns} (h:KeepG a b) (g:KeepG b c):KeepG a c:=⟨g.gd.trans h.gd,g.used.trans h.used,g.bad.trans h.bad,g.stale.trans h.stale,g.shut.trans h.shut,g.full.trans h.full⟩
theorem KeepN.g {a b:Ns} (h:KeepN a b):KeepG a b:=⟨h.gd,h.used,h.bad,h.stale,h.shut,h.full⟩
structure Gr (n:Nat) (p q:NSt):Prop where
 out:q.1.out.length≤p.1.out.length+n
 nt:q.2.length≤p.2.length+n
 c:q.1.c=p.1.c
 sm:SmN q.1
 pt:PtOk q.1
 g:KeepG p.1 q.1
theorem Gr.wf {n:Nat} {p q:NSt} (h:Gr n p q) (g:Wf p):Wf q:=⟨h.c ▸ g.c,h.sm,h.pt⟩
theorem Gr.refl {p:NSt} (h:Wf p):Gr 0 p p:=⟨Nat.le_refl _,Nat.le_refl _,rfl,h.sm,h.pt,.refl _⟩
theorem Gr.trans {n m:Nat} {p q r:NSt} (h:Gr n p q) (g:Gr m q r):Gr (n+m) p r:=⟨by have:=h.out;have:=g.out;omega,by have:=h.nt;have:=g.nt;omega,g.c.trans h.c,g.sm,g.pt,h.g.trans g.g⟩
theorem Gr.mono {n m:Nat} {p q:NSt} (h:Gr n p q) (hm:n≤m):Gr m p q:=⟨by have:=h.out;omega,by have:=h.nt;omega,h.c,h.sm,h.pt,h.g⟩
theorem Gr.of {n:Nat} {p q:NSt} (w:Wf p) (h:Grow n p q) (hs:SmN q.1):Gr n p q:=⟨h.out,h.nt,h.k.c,hs,w.pt.of h.k.pts,h.k.g⟩
structure Outs (n:Nat) (p q:NSt):Prop where
 e: ∃o,q.1= {p.1 with out:=p.1.out++o}∧o.length≤n
 nt:q.2.length≤p.2.length+n
theorem Outs.refl (p:NSt):Outs 0 p p:=⟨⟨[],by simp,by simp⟩,Nat.le_refl _⟩
theorem Outs.trans {n m:Nat} {p q r:NSt} (h:Outs n p q) (g:Outs m q r):Outs (n+m) p r:=by
 obtain ⟨⟨o1,e1,l1⟩,h2⟩:=h;obtain ⟨⟨o2,e2,l2⟩,g2⟩:=g;refine ⟨⟨o1++o2,?_,by rw [List.length_append];omega⟩,by omega⟩;rw [e2,e1];simp
theorem Outs.mono {n m:Nat} {p q:NSt} (h:Outs n p q) (hm:n≤m):Outs m p q:=⟨let ⟨o,a,b⟩:=h.e;⟨o,a,by omega⟩,by have:=h.nt;omega⟩
theorem Outs.c {n:Nat} {p q:NSt} (h:Outs n p q):q.1.c=p.1.c:=by obtain ⟨o,e,-⟩:=h.e;rw [e]
section
variable {p:NSt} {k:Nat}
end
section
variable {B:Nat} {w0 w W W':World} {ss rs:List Res} {x:Np} {s s':Ns} {l l':Nt} {k:Nat}
end
section
variable {B:Nat} {w0 w W W':World} {ss rs:List Res} {x:Np} {s s':Ns} {l l':Nt} {k:Nat}
theorem Outs.same {n:Nat} {p q:NSt} (h:Outs n p q):q.1.view=p.1.view∧q.1.pre=p.1.pre∧q.1.com=p.1.com∧q.1.ins=p.1.ins∧q.1.id=p.1.id∧q.1.tab=p.1.tab∧q.1.now=p.1.now∧q.1.pts=p.1.pts∧q.1.bg=p.1.bg∧q.1.voted=p.1.voted:=by
 obtain ⟨o,e,-⟩:=h.e;rw [e];exact ⟨rfl,rfl,rfl,rfl,rfl,rfl,rfl,rfl,rfl,rfl⟩
end
section
variable {B:Nat} {w0 w W W':World} {ss rs:List Res} {x:Np} {s s':Ns} {l l':Nt} {k:Nat}
abbrev PA (p t:Nat) (ag:Int) (w:World):Prop:=w.cell? ⟨p,17,none⟩=some (ptrV t)∧w.cell? ⟨p,13,none⟩=some (.int .i64 ag)
theorem NdIs.pa (h:NdIs B w0 W x s l ss):PA x.p x.t s.c.ag W:=⟨h.cell 17 rfl (by decide),h.cell 13 rfl (by decide)⟩
def ag1 (p:NSt) (k:Nat):NSt:=(List.range k).foldl slotsS p
end
theorem Outs.g {n:Nat} {p q:NSt} (h:Outs n p q):KeepG p.1 q.1:=by
 obtain ⟨o,e,-⟩:=h.e;rw [e];exact ⟨rfl,rfl,rfl,rfl,rfl,rfl⟩
section
variable {B:Nat} {w0 w W W':World} {ss rs:List Res} {x:Np} {s s':Ns} {l l':Nt} {k:Nat}
end
def Fam (l:List Rq):Prop:= ∀a∈l,∀b∈l,a.client=b.client∧a.kind=b.kind∧a.key=b.key∧a.val=b.val∧(a.time=b.time→a=b)
abbrev RiseT (l:List Rq):Prop:=l.Pairwise fun a b=>a.time<b.time
theorem zyn (r:Rq):cmpRq r r=0:=by
 unfold cmpRq orI cmpI;simp [orI]
theorem zym (a b:Int):cmpI a b<0↔a<b:=by
 unfold cmpI;split
 ·omega
 ·split<;>omega
theorem zt7 (a:Int):cmpI a a=0:=by unfold cmpI;rw [if_neg (by omega),if_neg (by omega)]
theorem fam_cmp {l:List Rq} (h:Fam l) {a b:Rq} (ha:a∈l) (hb:b∈l):cmpRq a b<0↔a.time<b.time:=by
 obtain ⟨e1,e2,e3,e4,e5⟩:=h a ha b hb;by_cases ht:a.time=b.time
 ·have:=e5 ht
  subst this;rw [zyn];omega
 ·have hc:cmpI a.time b.time≠0:=by
   unfold cmpI;split
   ·omega
   ·split<;>omega
  unfold cmpRq;rw [e1,zt7];unfold orI;rw [if_pos rfl];unfold orI;rw [if_neg hc];exact zym _ _
theorem zv5 (v u:Value) (rs ss:List Rq) (w:World) (hn:rs.length≤100000) (hm:ss.length≤100000) (h:Bat w v rs) (h':Bat w u ss):
  Calls Tryz.prog 28 #[v,u] w fun e w'=>e= .returned (.bool (decide (rs=ss)))∧Upd [] w w':=by
 obtain ⟨ao,cap,rfl,h1,h2,h3,h4,h5⟩:=h;obtain ⟨bo,cap',rfl,k1,k2,k3,k4,k5⟩:=h';clear h1 h2 h3 h4 k1 k2 k3 k4;have H5:=zq h5;have K5:=zq k5;clear h5 k5;by_cases hlen:rs.length=ss.length
 ·have HL:=zq hlen
  have hlb:((rs.length:Int) !=(ss.length:Int))=false:=by simp [hlen]
  have hle1:rs.length≤ss.length:=by omega
  have hle2:ss.length≤rs.length:=by omega
  clear hlen;go_enter Tryz.func28,Tryz.ntmps28
  go_wp2_with fail
  go_loopw [5] (fun i wr=> ∃k:Nat,k≤rs.length∧i= .int .i64 k∧rs.take k=ss.take k∧Below w.heap.size w wr) (fun i _=>rs.length-(intOf i).toNat)
  case atStart=>exact ⟨0,by omega,rfl,by simp,Below.refl _ _⟩
  case round=>
   obtain ⟨k,hk,rfl,he,hb⟩:=hrel;have HE:=zq he;clear he;by_cases hlt:k<rs.length
   ·obtain ⟨b,o,rfl,hbs,hc⟩:=H5.out (by omega)
    obtain ⟨b',o',rfl,hbs',hc'⟩:=K5.out (by omega);have hlt':k<ss.length:=by omega
    obtain ⟨q0,q1,q2,q3,q4,q5⟩:=zb4 (zcm hb hbs hc) k rs[k] (by simp);obtain ⟨p0,p1,p2,p3,p4,p5⟩:=zb4 (zcm hb hbs' hc') k ss[k] (by simp);clear hc hc';have hkI:(k:Int)<(ss.length:Int):=by omega
    have hkJ:(k:Int)<(rs.length:Int):=by omega
    by_cases he:rs[k]=ss[k]
    ·have heq: ∀wx,(Op.equalIn 10000 38 (rqAgg rs[k]) (rqAgg ss[k])).run Tryz.prog wx= .ok true wx:=fun wx=>by rw [zdo];simp [he]
     have HEK:=zq he;clear he;unfold rqAgg at heq;have hgd:=Tryz.guardReq
     go_wp2_with fail
     go_quiet (fail)
     go_wp2_with fail
     go_roundw
     case rel=>exact ⟨k+1,by omega,by go_num,take_same HE.out hlt hlt' HEK.out,hb.trans ⟨rfl,rfl,rfl,Nat.le_refl _,fun _ _=>rfl⟩⟩
     case measure=>simp [intOf];omega
    ·have heq: ∀wx,(Op.equalIn 10000 38 (rqAgg rs[k]) (rqAgg ss[k])).run Tryz.prog wx= .ok false wx:=fun wx=>by rw [zdo];simp [he]
     have HEK:=zq he;clear he;unfold rqAgg at heq;have hgd:=Tryz.guardReq
     go_wp2_with fail
     go_quiet (fail)
     go_wp2_with fail
     go_ret
     refine ⟨zae ?_,Upd.of_below (hb.trans ⟨rfl,rfl,rfl,Nat.le_refl _,fun _ _=>rfl⟩)⟩;symm;rw [decide_eq_false_iff_not];intro e;subst e;exact HEK.out rfl
   ·go_wp2_with fail
    go_ret
    refine ⟨zae ?_,Upd.of_below hb⟩;symm;rw [decide_eq_true_iff];have h1:=HE.out;rw [List.take_of_length_le (by omega),List.take_of_length_le (by omega)] at h1;exact h1
 ·have hlb:((rs.length:Int) !=(ss.length:Int))=true:=by simp;omega
  have HL:=zq hlen;clear hlen;go_enter Tryz.func28,Tryz.ntmps28
  go_wp2_with fail
  go_ret
  refine ⟨zae ?_,Upd.refl _ _⟩;symm;rw [decide_eq_false_iff_not];intro e;exact HL.out (by rw [e])
structure TdN (f:Nat) (r:Rq) (h:Nat→Bool) (n:Nat) (t:Td):Prop where
 r:t.r=r
 len:t.by_.length=13
 hh: ∀(k:Nat) (hk:k<t.by_.length),t.by_[k]=h k
 cn:byLen t=n
 rd:t.ready=decide (f+1≤n)
 sc:t.since=0
section
variable {f n m:Nat} {r:Rq} {h:Nat→Bool} {t:Td} {l done:List Td}
theorem TdN.new (f:Nat) (r:Rq):TdN f r (fun _=>false) 0 (newTd r) where
 r:=rfl
 len:=by simp [newTd]
 hh:=fun k hk=>List.getElem_replicate hk
 cn:=by
  unfold byLen;rw [List.countP_eq_zero];intro b hb;rw [List.eq_of_mem_replicate hb];simp
 rd:=by simp [newTd]
 sc:=rfl
end
section
variable {f n id m:Nat} {u:Int} {r:Rq} {h:Nat→Bool} {t:Td} {done:List Td} {out:List (Int×Bys)} {l:Nt}
end
theorem two_len: ∀(rs:List Rq),rs.length≤2→(listB reqB rs).length≤78
 | [], _ => by have : (listB reqB ([] : List Rq)).length = 1 := by decide
               omega
 | [a],_=>by have:=zxn a;omega
 | [a,b],_=>by
  have h1:=zv3 a;have h2:=zv3 b;have:=zaz ((([a,b]:List Rq).length:Nat):Int);unfold listB;simp only [List.length_append,List.flatMap_cons,List.flatMap_nil,List.append_nil];omega
 | _::_::_::_,h=>by simp at h
theorem zw1 (kind view inst seq k:Int) (rs:List Rq) (h:rs.length≤2):(msB (crtM kind view inst seq rs k)).length≤65530:=by
 have n1:=zaz kind;have n2:=zaz view;have n3:=zaz inst;have n4:=zaz seq;have n5:=zaz k;have n6:=zir 0;have n7:=two_len rs h;have q1:(listB vtB ([]:Vs)).length=1:=by decide
 have q2:(listB certB ([]:List Cp)).length=1:=by decide
 have q3:(listB partB ([]:List Pa)).length=1:=by decide
 unfold msB crtM;simp only [List.length_append];rw [q1,q2,q3];omega
def proP (f:Nat) (rs:List Rq):Pl:= {zbg f with sl:= {(zbg f).sl with has:=true,batch:=rs}}
section
variable {f:Nat} {n:Int} {p:Pl} {rs:List Rq}
end
section
variable {f id k:Nat} {u:Int} {rs:List Rq} {tab:List Td} {l:Nt} {p q:NSt}
theorem since0 (h: ∀t∈tab,t.since=0) (r:Rq):(zf2 tab r).getD 0=0:=by
 unfold zf2;cases e:tab[tabK tab r]? with
 | none=>rfl
 | some t=>
  simp only;split
  ·exact h t (List.mem_of_getElem? e)
  ·rfl
end
section
variable {B:Nat} {w0 w W W':World} {ss rs:List Res} {x:Np} {s s':Ns} {l l':Nt} {rn:Nat} {vp vb:Value} {vt:Rn} {f id j n:Nat} {u:Int} {r:Rq} {h:Nat→Bool} {t:Td} {done tab tab':List Td} {out out':List (Int×Bys)}
structure ToldT (f id:Nat) (r:Rq) (n:Nat) (i:Nat) (t:Td):Prop where
 h: ∃h:Nat→Bool,TdN f r h (n+1) t∧h id=true∧ ∀k,i≤k→k≠id→h k=false
def TabG (f id:Nat) (r:Rq) (n i:Nat) (done tab:List Td):Prop:=if n=0 then tab=done else∃t,tab=done++[t]∧ToldT f id r n i t
theorem TabG.skip {i:Nat} (h:TabG f id r n i done tab):TabG f id r n (i+1) done tab:=by
 unfold TabG at h⊢;split
 ·rename_i e;rw [if_pos e] at h;exact h
 ·rename_i e
  rw [if_neg e] at h;obtain ⟨t,e1,⟨g,h1,h2,h3⟩⟩:=h;exact ⟨t,e1,⟨g,h1,h2,fun k a b=>h3 k (by omega) b⟩⟩
end
structure SumR (l:Nt) (r:Rq):Prop where
 client:r.client=1
 kind:r.kind=5
 key:r.key=0
 val:r.val=0
 time:1≤r.time
 good:RqGood 2 r
 s:rqSealed l 2 r=true
theorem SumR.px {l l':Nt} {r:Rq} (h:SumR l r) (hp:Px l l'):SumR l' r:=⟨h.client,h.kind,h.key,h.val,h.time,h.good,hp.rqSealed h.s⟩
section
variable {f id k n:Nat} {u:Int} {r:Rq} {rs:List Rq} {done tab tab':List Td} {out:List (Int×Bys)} {l l':Nt}
def DoneT (f:Nat) (rs:List Rq) (k i:Nat) (tab:List Td):Prop:=
 if k=0 then tab=[] else tab.length=i∧ ∀m (hm:m<tab.length),∃h,TdN f (reqAt rs m) h (k+1) tab[m]
theorem DoneT.zero (f:Nat) (rs:List Rq) (k:Nat):DoneT f rs k 0 []:=by
 unfold DoneT;split
 ·rfl
 ·exact ⟨rfl,fun m hm=>absurd hm (by simp)⟩
theorem DoneT.len {i:Nat} (h:DoneT f rs k i tab):tab.length≤i:=by
 unfold DoneT at h;split at h
 ·rw [h];simp
 ·omega
theorem DoneT.lt {i:Nat} (h:DoneT f rs k i tab) (hR:RiseT rs) (hF:Fam rs) (hi:i<rs.length): ∀t∈tab,cmpRq t.r (reqAt rs i)<0:=by
 unfold DoneT at h;split at h
 ·rw [h];intro t ht;cases ht
 ·intro t ht
  obtain ⟨m,hm,rfl⟩:=List.mem_iff_getElem.1 ht;obtain ⟨g,hg⟩:=h.2 m hm;have hml:m<rs.length:=by omega
  have hat: ∀j (hj:j<rs.length),reqAt rs j=rs[j]:=fun j hj=>by
   unfold reqAt;rw [List.getD_eq_getElem?_getD,List.getElem?_eq_getElem hj];rfl
  rw [hg.r,hat m hml,hat i hi];exact (fam_cmp hF (List.getElem_mem hml) (List.getElem_mem hi)).2 (List.pairwise_iff_getElem.1 hR m i hml hi (by omega))
theorem DoneT.next {i j:Nat} (h:DoneT f rs k i done) (hT:TabG f id (reqAt rs i) k j done tab):DoneT f rs k (i+1) tab:=by
 unfold DoneT at h⊢;unfold TabG at hT;by_cases hk:k=0
 ·rw [if_pos hk] at h hT⊢
  rw [hT,h]
 ·rw [if_neg hk] at h hT⊢
  obtain ⟨t,rfl,⟨g,h1,-⟩⟩:=hT;obtain ⟨h2,h3⟩:=h;refine ⟨by simp [h2],fun m hm=> ?_⟩;by_cases hmi:m<done.length
  ·obtain ⟨g2,h4⟩:=h3 m hmi
   exact ⟨g2,by rw [List.getElem_append_left hmi];exact h4⟩
  ·have:m=done.length:=by simp at hm;omega
   subst this;refine ⟨g,?_⟩;rw [List.getElem_append_right (Nat.le_refl _)];simp only [Nat.sub_self,List.getElem_cons_zero];rw [h2];exact h1
theorem DoneT.start {i:Nat} (done:List Td):TabG f id (reqAt rs i) 0 0 done done:=by
 unfold TabG;rw [if_pos rfl]
theorem DoneT.ready (h:DoneT f rs k rs.length tab):zs7 tab=(if f≤k∧0<k then rs else [])∧ ∀t∈tab,t.since=0:=by
 unfold DoneT at h;by_cases hk:k=0
 ·rw [if_pos hk] at h
  subst h;rw [if_neg (by omega)];exact ⟨rfl,fun t ht=>by cases ht⟩
 ·rw [if_neg hk] at h
  obtain ⟨h1,h2⟩:=h;have hr: ∀t∈tab,t.ready=decide (f+1≤k+1)∧t.since=0:=fun t ht=>by
   obtain ⟨m,hm,rfl⟩:=List.mem_iff_getElem.1 ht;obtain ⟨g,hg⟩:=h2 m hm;exact ⟨hg.rd,hg.sc⟩
  refine ⟨?_,fun t ht=>(hr t ht).2⟩;unfold zs7;by_cases hf:f≤k
  ·rw [if_pos ⟨hf,by omega⟩]
   have e:tab.filter (·.ready)=tab:=List.filter_eq_self.2 (fun t ht=>by rw [(hr t ht).1,decide_eq_true (by omega)]);rw [e];refine List.ext_getElem (by simpa using h1) (fun m a b=> ?_);rw [List.getElem_map];obtain ⟨g,hg⟩:=h2 m (by simpa using a);rw [hg.r];unfold reqAt;rw [List.getD_eq_getElem?_getD,List.getElem?_eq_getElem b];rfl
  ·rw [if_neg (by omega)]
   have e:tab.filter (·.ready)=[]:=List.filter_eq_nil_iff.2 (fun t ht=>by rw [(hr t ht).1];simp;omega);rw [e];rfl
structure ProT (f id:Nat) (b:List Rq) (l:Nt) (q:NSt):Prop where
 o: ∃(b3 b4:Bys) (sl3 sl4:Int),q.1.out=((zas (3*f+1) (id:Int)).map fun k=>(k,b3))++((zas (3*f+1) (id:Int)).map fun k=>(k,b4))∧openP q.2 f 2 b3=some (crtM 3 0 id 1 b id,sl3)∧openP q.2 f 2 b4=some (crtM 4 0 id 1 b id,sl4)
 px:Px l q.2
 n:q.2.length≤l.length+2
end
structure EndP (f id:Nat) (b:List Rq) (g:Bool) (l:Nt) (out:List (Int×Bys)):Prop where
 n:out.length=if g then 6*f else 0
 o: ∀(j:Nat) (o:Int×Bys),out[j]?=some o→g=true∧ ∃sl,openP l f 2 o.2=some (crtM (if j<3*f then 3 else 4) 0 id 1 b id,sl)
theorem EndP.nil (f id:Nat) (b:List Rq) (l:Nt):EndP f id b false l []:=⟨rfl,fun j o h=>by simp at h⟩
theorem ProT.e {f id:Nat} {b:List Rq} {l:Nt} {q:NSt} (h:ProT f id b l q) (hid:id≤3*f):EndP f id b true q.2 q.1.out:=by
 obtain ⟨b3,b4,sl3,sl4,e1,e2,e3⟩:=h.o;have hl:=zjf hid;unfold zkn at hl;refine ⟨?_,fun j o hj=>⟨rfl,?_⟩⟩
 ·rw [e1]
  simp only [List.length_append,List.length_map,hl,if_true];omega
 ·rw [e1,List.getElem?_append] at hj
  rw [List.length_map,hl] at hj;by_cases hlt:j<3*f
  ·rw [if_pos hlt,List.getElem?_map] at hj
   rw [if_pos hlt];cases hp:(zas (3*f+1) (id:Int))[j]? with
   | none=>rw [hp] at hj;simp at hj
   | some p=>
    rw [hp] at hj;simp only [Option.map_some,Option.some.injEq] at hj;subst hj;exact ⟨sl3,e2⟩
  ·rw [if_neg hlt,List.getElem?_map] at hj
   rw [if_neg hlt];cases hp:(zas (3*f+1) (id:Int))[j-3*f]? with
   | none=>rw [hp] at hj;simp at hj
   | some p=>
    rw [hp] at hj;simp only [Option.map_some,Option.some.injEq] at hj;subst hj;exact ⟨sl4,e3⟩
section
variable {B:Nat} {w0 w W W':World} {ss rs:List Res} {x:Np} {s:Ns} {l L:Nt} {f id k:Nat} {u:Int} {R b:List Rq} {tab:List Td} {g:Bool}
theorem EndP.at {os:List Sd} {out:List (Int×Bys)} (h:EndP f id b g l out) (ho:os.map Sd.p=out) (j:Nat) (hj:j<os.length):g=true∧ ∃sl,openP l f 2 os[j].b=some (crtM (if j<3*f then 3 else 4) 0 id 1 b id,sl):=by
 have e1:out[j]?=some (Sd.p os[j]):=by rw [←ho,List.getElem?_map,List.getElem?_eq_getElem hj];rfl
 exact h.o j _ e1
theorem EndP.len {os:List Sd} {out:List (Int×Bys)} (h:EndP f id b g l out) (ho:os.map Sd.p=out):os.length=if g then 6*f else 0:=by
 rw [←h.n,←ho,List.length_map]
end
section
variable {B:Nat} {w0 W:World} {x:Np} {ss:List Res} {l:Nt}
variable {s:Ns}
theorem zrv (h:NdIs B w0 W x s l ss):Calls Tryz.prog 52 #[ptrV x.p] W fun e w'=>e= .returned (.bool s.stop)∧W=w':=by
 have c:=h.cell 33 rfl (by decide);clear h;go_enter Tryz.func52,Tryz.ntmps52
 go_wp2_with fail
 go_ret
 exact ⟨rfl,rfl⟩
end
section
variable {B:Nat} {w0 W:World} {x:Np} {s:Ns} {ss:List Res} {l:Nt} {k:Nat}
theorem zns (h:NdIs B w0 W x s l ss) (ht:s.tab=[]):Calls Tryz.prog 157 #[ptrV x.tb] W fun e w'=>e= .returned (.slice none 0 0)∧W=w':=by
 obtain ⟨v,rr,cc,d,-⟩:=h.lens 2 (by omega) (by omega);have d1:Own B w0 W (blk x.tb (tabOb s.c.f s.c.cl v.tv)::tdR v.tv s.tab::(ss++rr)):=Own.open d;rw [ht] at d1;obtain ⟨ao,cap,hv,-⟩:=owns_reads (zam (d1.get 1 rfl));have c2:W.cell? ⟨x.tb,2,none⟩=some (.slice ao 0 cap):=(zaa (d1.blkAt 0 rfl) 2 rfl).trans (congrArg some hv);clear d d1 h;go_enter Tryz.func157,Tryz.ntmps157
 go_wp2_with fail
 go_loop [3,11] (fun o i=>o= .slice none 0 0∧i= .int .i64 0) (fun _ _=>0)
 case atStart=>exact ⟨rfl,rfl⟩
 case round=>
  obtain ⟨rfl,rfl⟩:=hrel
  go_wp2_with fail
  go_ret
  exact ⟨rfl,rfl⟩
theorem wk_prop (h:NdIs B w0 W x s l ss) (hc:s.c=stdC 1) (ht:s.tab=[]) (hk:k<2) (hon:(insAt s k).on=true) (hnx:nextI (insAt s k)=1) (hdn:doneI (insAt s k)=0):
  Calls Tryz.prog 89 #[ptrV x.p,.int .i64 k] W fun e w'=>e= .returned (.tuple #[])∧NdIs B w0 w' x s l ss:=by
 have hf:s.c.f=1:=by rw [hc];rfl
 have hk':k<s.c.f+1:=by omega
 obtain ⟨i,hi,ci⟩:=h.iAt hk';have HNX:=zq (nd_next h hk' hi);rw [hnx] at HNX;have c18:W.cell? ⟨x.p,18,none⟩=some (slI x.ib 2 x.ic):=by rw [h.cell 18 rfl (by decide)];show some (slI x.ib (s.c.f+1) x.ic)=_;rw [hf]
 have hcI:(2:Int)≤(x.ic:Int):=by have:=h.caps.1;omega
 have hk0:(0:Int)≤(k:Int):=by omega
 have hkI:(k:Int)<2:=by omega
 have H0:=zq h;have HI:=zq hi;obtain ⟨pr,hpr⟩: ∃b,b=decide (zan s.c.f s.view k=s.id):=⟨_,rfl⟩;have HPR:=zq hpr;have HC:=zq hc;have HT:=zq ht;have HON:=zq hon;have HDE:=zq hdn;have HK:=zq hk';clear h hi hpr hc ht hon hdn hf hk';go_enter Tryz.func89,Tryz.ntmps89
 go_wp2_with fail
 with_reducible refine HNX.out.mono ?_
 rintro e w1 ⟨rfl,hu⟩;have H1:=zq (H0.out.upd0 hu);clear hu HNX H0 c18 ci
 go_upto_region 2 with fail
 have c3:w1.cell? ⟨x.p,3,none⟩=some (.int .i64 4):=by rw [H1.out.cell 3 rfl (by decide)];show some (Value.int .i64 s.c.ah)=_;rw [HC.out];rfl
 have HIN:=zq (fun n=>zco (H1.out.drewN n) k HK.out HI.out);have HPM:=zq (fun n=>znu (k:Int) (H1.out.drewN n));have HDN:=zq (fun n=>nd_done (H1.out.drewN n) k HK.out HI.out);rw [HON.out] at HIN;rw [←HPR.out] at HPM;rw [HDE.out] at HDN;cases pr with
 | false=>
  go_quiet (first | (go_at_call 73;exact zb7 (HIN.out _)) | (go_at_call 155;exact zkw (HPM.out _)) | (go_at_call 156;exact zb7 (HDN.out _)))
  go_wp2_with fail
  refine bodyPost_ret (v:= .tuple #[]) (results_none rfl _ _ _) rfl ?_;exact ⟨rfl,H1.out.drewN _⟩
 | true=>
  go_quiet (first | (go_at_call 73;exact zb7 (HIN.out _)) | (go_at_call 155;exact zkw (HPM.out _)) | (go_at_call 156;exact zb7 (HDN.out _)))
  clear HIN HPM HDN;generalize hw2:World.drewN w1 _=w2;have H2:Hid (NdIs B w0 w2 x s l ss):=zq (by rw [←hw2];exact H1.out.drewN _);clear hw2 H1 c3;have c19:=H2.out.cell 19 rfl (by decide);have HRD:=zq (zns H2.out HT.out)
  go_wp2_with fail
  with_reducible refine HRD.out.mono ?_
  rintro e w' ⟨rfl,rfl⟩;clear HRD c19
  go_wp2_with fail
  go_loopw [6,49] (fun b i wr=>b= .slice none 0 0∧i= .int .i64 0∧wr=w2) (fun _ _ _=>0)
  case atStart=>exact ⟨rfl,rfl,rfl⟩
  case round=>
   obtain ⟨rfl,rfl,rfl⟩:=hrel
   go_wp2_with fail
   first | exact bodyPost_end (results_none rfl _ _ _) rfl ⟨rfl,H2.out⟩ | exact bodyPost_ret (v:= .tuple #[]) (results_none rfl _ _ _) rfl ⟨rfl,H2.out⟩ | trace_state
theorem wk_old (h:NdIs B w0 W x s l ss) (ht:s.tab=[]):Calls Tryz.prog 93 #[ptrV x.p] W fun e w'=>e= .returned (.bool false)∧W=w':=by
 have c19:=h.cell 19 rfl (by decide);have HRD:=zq (zns h ht);clear h ht;go_enter Tryz.func93,Tryz.ntmps93
 go_wp2_with fail
 with_reducible refine HRD.out.mono ?_
 rintro e w' ⟨rfl,rfl⟩;clear HRD c19
 go_wp2_with fail
 go_loopw [13] (fun i wr=>i= .int .i64 0∧wr=W) (fun _ _=>0)
 case atStart=>exact ⟨rfl,rfl⟩
 case round=>
  obtain ⟨rfl,rfl⟩:=hrel
  go_wp2_with fail
  go_ret
  exact ⟨rfl,rfl⟩
theorem wk_tick0 (h:NdIs B w0 W x (newS (stdC 1) 0) l ss):Calls Tryz.prog 33 #[ptrV x.p] W fun e w'=>e= .returned (.tuple #[])∧NdIs B w0 w' x {newS (stdC 1) 0 with now:=1} l ss:=by
 have c33:W.cell? ⟨x.p,33,none⟩=some (.bool false):=h.cell 33 rfl (by decide);have c17:W.cell? ⟨x.p,17,none⟩=some (ptrV x.t):=h.cell 17 rfl (by decide);have HT:=zq (nd_tick h (by show (0:Int)<1048576;omega));obtain ⟨s1,hs1⟩: ∃s1:Ns,s1= {newS (stdC 1) 0 with now:=1}:=⟨_,rfl⟩;have hs2:({newS (stdC 1) 0 with now:=(newS (stdC 1) 0).now+1}:Ns)=s1:=by rw [hs1];rfl
 rw [hs2] at HT;rw [←hs1];have HE:=zq hs1;have hcap:=h.caps.1;have hcI:(2:Int)≤(x.ic:Int):=by have:(newS (stdC 1) 0).c.f=1:=rfl;omega
 clear h hs2 hs1 hcap;go_enter Tryz.func33,Tryz.ntmps33
 go_wp2_with fail
 with_reducible refine HT.out.mono ?_
 rintro e w1 ⟨rfl,h1⟩;have H0:=zq h1;have c18:w1.cell? ⟨x.p,18,none⟩=some (slI x.ib 2 x.ic):=by rw [h1.cell 18 rfl (by decide)];show some (slI x.ib (s1.c.f+1) x.ic)=_;rw [HE.out];rfl
 clear h1 HT c33 c17
 go_wp2_with fail
 go_loopw [21] (fun n wr=> ∃k:Nat,k≤2∧n= .int .i64 k∧Hid (NdIs B w0 wr x s1 l ss)) (fun n _=>2-(intOf n).toNat)
 case atStart=>exact ⟨0,by omega,rfl,H0⟩
 case round=>
  clear H0 c18;obtain ⟨k,hk,rfl,H⟩:=hrel;have hk0:(0:Int)≤(k:Int):=by omega
  by_cases hlt:k<2
  ·have hkI:(k:Int)<2:=by omega
   have HP:=zq (wk_prop H.out (by rw [HE.out];rfl) (by rw [HE.out];rfl) hlt (by rw [HE.out];rcases k with _ | _ | k<;>first | rfl | omega) (by rw [HE.out];rcases k with _ | _ | k<;>first | rfl | omega) (by rw [HE.out];rcases k with _ | _ | k<;>first | rfl | omega))
   clear H
   go_wp2_with fail
   with_reducible refine HP.out.mono ?_
   rintro e w2 ⟨rfl,h2⟩;have H2:=zq h2;clear h2 HP
   go_wp2_with fail
   go_roundw
   case rel=>exact ⟨k+1,by omega,by go_num,H2⟩
   case measure=>simp [intOf];omega
  ·obtain rfl:k=2:=by omega
   have c17:wr.cell? ⟨x.p,17,none⟩=some (ptrV x.t):=H.out.cell 17 rfl (by decide);have c13:wr.cell? ⟨x.p,13,none⟩=some (.int .i64 2):=by rw [H.out.cell 13 rfl (by decide)];show some (Value.int .i64 s1.c.ag)=_;rw [HE.out];rfl
   have HN:=zq (fun n=>zme (H.out.drewN n));have hno:s1.now=1:=by rw [HE.out]
   rw [hno] at HN
   go_upto_region 8 with fail
   go_quiet ((go_at_call 90;exact zb7 (HN.out _)))
   generalize hw:World.drewN wr _=w2;have H2:Hid (NdIs B w0 w2 x s1 l ss):=zq (by rw [←hw];exact H.out.drewN _);clear hw H c17 c13 HN;obtain ⟨i,hi,ci⟩:=H2.out.iAt (k:=0) (by rw [HE.out];show 0<1+1;omega);have HI:=zq hi;have HIN:=zq (fun n=>zco (H2.out.drewN n) 0 (by rw [HE.out];show 0<1+1;omega) hi);have hon:(insAt s1 0).on=true:=by rw [HE.out];rfl
   rw [hon] at HIN;have c18:w2.cell? ⟨x.p,18,none⟩=some (slI x.ib 2 x.ic):=by rw [H2.out.cell 18 rfl (by decide)];show some (slI x.ib (s1.c.f+1) x.ic)=_;rw [HE.out];rfl
   clear hi hon
   go_upto_region 10 with fail
   go_quiet (first | (go_at_call 73;exact zb7 (HIN.out _)))
   generalize hw:World.drewN w2 _=w3;have H3:Hid (NdIs B w0 w3 x s1 l ss):=zq (by rw [←hw];exact H2.out.drewN _);clear hw H2 c18 ci HIN;obtain ⟨i3,hi,ci⟩:=H3.out.iAt (k:=0) (by rw [HE.out];show 0<1+1;omega);have HIN:=zq (zco H3.out 0 (by rw [HE.out];show 0<1+1;omega) hi);have hon:(insAt s1 0).on=true:=by rw [HE.out];rfl
   rw [hon] at HIN;have c18:w3.cell? ⟨x.p,18,none⟩=some (slI x.ib 2 x.ic):=by rw [H3.out.cell 18 rfl (by decide)];show some (slI x.ib (s1.c.f+1) x.ic)=_;rw [HE.out];rfl
   have HOL:=zq (wk_old H3.out (by rw [HE.out];rfl));clear hi hon
   go_upto_region 12 with fail
   go_wp2_with fail
   with_reducible refine HIN.out.mono ?_
   rintro e w' ⟨rfl,rfl⟩
   go_wp2_with fail
   with_reducible refine HOL.out.mono ?_
   rintro e w' ⟨rfl,rfl⟩;clear c18 ci HIN HOL;have c17:w3.cell? ⟨x.p,17,none⟩=some (ptrV x.t):=H3.out.cell 17 rfl (by decide);have c7:w3.cell? ⟨x.p,7,none⟩=some (.int .i64 8):=by rw [H3.out.cell 7 rfl (by decide)];show some (Value.int .i64 s1.c.pe)=_;rw [HE.out];rfl
   have c32:w3.cell? ⟨x.p,32,none⟩=some (.int .i64 0):=by rw [H3.out.cell 32 rfl (by decide)];show some (Value.int .i64 s1.start)=_;rw [HE.out];rfl
   have HN:=zq (fun n=>zme (H3.out.drewN n));rw [hno] at HN
   go_upto_region 14 with fail
   go_quiet ((go_at_call 90;exact zb7 (HN.out _)))
   go_wp2_with fail
   first | exact bodyPost_end (results_none rfl _ _ _) rfl ⟨rfl,H3.out.drewN _⟩ | trace_state
end
theorem zlh (W:World):Calls Tryz.prog 19 #[] W fun e w'=>e= .returned (.bool true)∧Upd [] W w':=by
 have HN:=zq (zkl (Own.start (Below.refl W.heap.size W) (Nat.le_refl _)));have HS:Hid (∀w,Calls Tryz.prog 46 #[.int .i64 1] w fun e w'=>e= .returned (.agg (cfA (stdC 1)))∧Upd [] w w'):=zq (fun w=>stdAny 1 w);go_enter Tryz.func19,Tryz.ntmps19
 go_wp2_with fail
 refine HN.out.mono ?_;rintro e w1 ⟨nt,nm,rfl,h1⟩;have H1:=zq h1;clear h1 HN
 go_wp2_with fail
 with_reducible refine (HS.out _).mono ?_
 rintro e w2 ⟨rfl,hu⟩;have H2:=zq (H1.out.upd0 hu);clear hu H1 HS;have HX:=zq (znt (zoj (f:=1) (by omega) (by omega)) 0 nt (by omega) (by show (0:Int)≤3*((1:Nat):Int);omega) H2.out)
 go_wp2_with fail
 refine HX.out.mono ?_;rintro e w3 ⟨x,v,rfl,hxn,hv,h3⟩;obtain ⟨y,hy⟩: ∃y:Np,y= {x with nm:=nm}:=⟨_,rfl⟩;have H3:Hid (NdIs W.heap.size W w3 y (newS (stdC 1) 0) [] []):=zq (by
  rw [hy];have k1:Own W.heap.size W w3 [nsR x (newS (stdC 1) 0) v,blk nt (noB nm),ntR nm []]:=(zr9 (h3.front 2 rfl rfl)).back 2 (by simp) rfl;show NdIs W.heap.size W w3 {x with nm:=nm} (newS (stdC 1) 0) [] [];exact zxg (c:=stdC 1) (id:=0) (zoj (f:=1) (by omega) (by omega)) (by omega) (by show (0:Int)≤3*((1:Nat):Int);omega) hxn hv k1)
 have hp:x.p=y.p:=by rw [hy]
 rw [hp];clear hxn hv h3 hy hp H2 HX;have HV:Hid (Calls Tryz.prog 24 #[ptrV y.p] w3 fun e w'=>e= .returned (.int .i64 0)∧w3=w'):=zq (znx H3.out);have HI:Hid (Calls Tryz.prog 25 #[ptrV y.p,.int .i64 0] w3 fun e w'=>e= .returned (.bool true)∧Upd [] w3 w'):=zq (zfg H3.out)
 go_wp2_with fail
 with_reducible refine HV.out.mono ?_
 rintro e w' ⟨rfl,rfl⟩
 go_wp2_with fail
 with_reducible refine HI.out.mono ?_
 rintro e w4 ⟨rfl,hu⟩;have H4:=zq (H3.out.upd0 hu);clear hu HV HI H3;have HW:Hid (Calls Tryz.prog 40 #[ptrV y.p] w4 fun e w'=>e= .returned (.int .i64 (-1))∧w4=w'):=zq (zrz H4.out)
 go_wp2_with fail
 with_reducible refine HW.out.mono ?_
 rintro e w' ⟨rfl,rfl⟩;have HT:=zq (wk_tick0 H4.out);clear HW H4
 go_wp2_with fail
 with_reducible refine HT.out.mono ?_
 rintro e w5 ⟨rfl,h5⟩;have HO:=zq (zru h5);clear h5 HT
 go_wp2_with fail
 with_reducible refine HO.out.mono ?_
 rintro e w6 ⟨a,k,os,rfl,hos,h6⟩;have hos2:os=[]:=List.map_eq_nil_iff.1 hos;subst hos2;have HU:Hid (Upd [] W w6):=zq (nd_upd h6);have HP:Hid (Calls Tryz.prog 52 #[ptrV y.p] w6 fun e w'=>e= .returned (.bool false)∧w6=w'):=zq ((zrv h6).mono (fun e w' ⟨he,hw⟩=>⟨by rw [he];exact rfl,hw⟩));clear h6 HO hos
 go_wp2_with fail
 with_reducible refine HP.out.mono ?_
 rintro e w' ⟨rfl,rfl⟩
 go_wp2_with fail
 go_ret
 exact ⟨rfl,HU.out⟩
section
variable {B:Nat} {w0 w W W':World} {ss:List Res} {x:Np} {s:Ns} {l:Nt} {rn:Nat} {vp:Value} {vt:Rn}
end
section
variable {B:Nat} {w0 w W W':World} {ss:List Res} {x:Np} {s:Ns} {l:Nt} {f:Nat}
theorem zxv {bv:Value} {bs:Bys} {m:Ms} {sl:Int} (h:NdIs B w0 W x s l ss) (hc:s.c=stdC f) (hb:RdOk w0 B bv bs ss) (ho:openP l f 2 bs=some (m,sl)):
  Calls Tryz.prog 27 #[bv,.int .i64 f,.int .i64 2,ptrV x.nt] W fun e w'=> ∃mm:Mm,e= .returned (.tuple #[.agg (mmA mm),.int .i64 sl,.int .i64 0])∧mm.ms=m∧NdIs B w0 w' x s l (mmR mm ss):=by
 have h1:=zha h hb (by rw [hc];exact ho);rw [hc] at h1;refine Calls.mono (show Calls Tryz.prog 27 #[bv,.int .i64 f,.int .i64 2,ptrV x.nt] W _ from h1) ?_;rintro e w' ⟨mm,he,hm,-,h2⟩;exact ⟨mm,he,hm,h2⟩
end
abbrev OpD (b o q f nt:Nat) (v:Value) (w:World):Prop:=w.cell? ⟨b,o,none⟩=some v∧w.cell? ⟨q+1,0,none⟩=some (.int .i64 f)∧w.cell? ⟨q+1,1,none⟩=some (.int .i64 2)∧w.cell? ⟨q,0,none⟩=some (.pointer (some ⟨nt,0,none⟩))
theorem zz1 {w:World} {ob:Obj} {b o q f nt:Nat} {v:Value} (h:OpD b o q f nt v w):OpD b o q f nt v (w.alloc ob):=⟨zay h.1,zay h.2.1,zay h.2.2.1,zay h.2.2.2⟩
theorem zxo {w:World} {ob:Obj} {b o q f nt:Nat} {v:Value} (h:OpD b o q f nt v w.drew):OpD b o q f nt v (w.alloc ob).drew:=zz1 (w:=w) h
theorem pp_cells {B:Nat} {w0 W:World} {x:Np} {s:Ns} {l:Nt} {os:List Sd} {hd ss:List Res} {b o q f nt rn k j bk:Nat} {bo:Option Addr} (h:NdIs B w0 W x s l (hd++(redR (.slice (some ⟨b,o,none⟩) os.length k) 2 os.length (os.flatMap sdC)::sdsR os::blk (q+1) (stdO f)::blk q (twO nt rn)::ss))) (hlt:j<os.length) (hbv:os[j].v= .slice bo os[j].b.length bk):OpD b (o+j*2+1) q f nt (.slice bo os[j].b.length bk) W:=by
 obtain ⟨r',hs',-⟩:=h.side;have e: ∀(i:Nat) (r:Res),(redR (.slice (some ⟨b,o,none⟩) os.length k) 2 os.length (os.flatMap sdC)::sdsR os::blk (q+1) (stdO f)::blk q (twO nt rn)::ss)[i]?=some r→((hd++(redR (.slice (some ⟨b,o,none⟩) os.length k) 2 os.length (os.flatMap sdC)::sdsR os::blk (q+1) (stdO f)::blk q (twO nt rn)::ss))++[r'])[hd.length+i]?=some r:=fun i r he=>by
  rw [List.append_assoc,List.getElem?_append_right (by omega),Nat.add_sub_cancel_left,List.getElem?_append_left (List.getElem?_eq_some_iff.1 he).1];exact he
 have hb:=hs'.blkAt (hd.length+2) (e 2 _ rfl);have hb2:=hs'.blkAt (hd.length+3) (e 3 _ rfl);obtain ⟨ao1,cap1,hv1,-,-,-,-,hcl1⟩:=zad hs' (e 0 _ rfl);simp only [Value.slice.injEq] at hv1;obtain ⟨b1,o1,hao1,-,hcell1⟩:=hcl1 (by omega);rw [←hv1.1] at hao1;simp only [Option.some.injEq,Addr.mk.injEq] at hao1;obtain ⟨rfl,rfl,-⟩:=hao1;refine ⟨?_,zaa hb 0 rfl,zaa hb 1 rfl,zaa hb2 0 rfl⟩;have h1:=hcell1 (j*2+1) (by omega);rw [zd4 sdC 2 (fun _=>rfl) os j 1 hlt (by omega)] at h1;rw [←hbv,Nat.add_assoc];exact h1.trans rfl
section
variable {B:Nat} {w0 w W W':World} {ss rs:List Res} {nt nm rn:Nat} {vp:Value} {vt:Rn} {l:Nt}
theorem zm2 {f:Nat} {skip:Int} {p1:Nat} {mk:Int→Mm} (h:Own B w0 W (twR nt nm rn vp vt l ss)) (hm: ∀k,MmOk (mk k)) (hfm: ∀k,(mk k).fm=k) (hl:NtOk l) (hn:l.length≤900000000) (hf1:1≤f) (hf2:f≤4) (HM:MkC B w0 ss 68 #[ptrV p1] mk):
  Calls Tryz.prog 65 #[.agg (twA nt rn),.int .i64 f,.int .i64 skip,.func (.func 68) #[] #[ptrV p1]] W fun e w'=> ∃v' vp' vt',e= .returned v'∧Own B w0 w' (redR v' 2 (2*f+1) (zaf (vtsGo (fun k=>(mk k).ms) l (quoKs f (skip%(f+1)) (2*f+1))).1)::twR nt nm rn vp' vt' (vtsGo (fun k=>(mk k).ms) l (quoKs f (skip%(f+1)) (2*f+1))).2 ss):=by
 obtain ⟨i0,hi,hz0,hz1,hz2⟩:=info_parts Tryz.infoVt2;have hs0:0≤skip%((f:Int)+1):=Int.emod_nonneg _ (by omega);have hs1:skip%((f:Int)+1)<(f:Int)+1:=Int.emod_lt_of_pos _ (by omega);have HW:=zq (fun w=>zb9 skip ((f:Int)+1) w (by omega) (by omega));generalize skip%((f:Int)+1)=sk at*;have HN:=zq (fun w=>zel (f:Int) w (by omega) (by omega));have HQ:=zq (fun w=>zf1 (f:Int) w (by omega) (by omega));have H1:=zq ((h.box (twO nt rn)).row0 (E:=177) (sz:=2));have HFM:=zq hfm;have HOK:=zq hm;have HMK:=zq HM;have HL:=zq hl;clear h hfm hm HM hl;go_enter Tryz.func65,Tryz.ntmps65
 go_wp2_with fail
 refine (HN.out _).mono ?_;rintro e w' ⟨rfl,rfl⟩
 go_wp2_with fail
 go_loopw [9,11] (fun o i wr=> ∃(n:Nat) (ao:Option Addr) (cp:Nat) (vp':Value) (vt':Rn),n≤2*f+1∧i= .int .i64 n∧o= .slice ao n cp∧Hid (Own B w0 wr (ownR 177 2 (.slice ao n cp) n (zaf (vtsGo (fun k=>(mk k).ms) l (quoKs f sk n)).1)::blk W.heap.size (twO nt rn)::twR nt nm rn vp' vt' (vtsGo (fun k=>(mk k).ms) l (quoKs f sk n)).2 ss))) (fun _ i _=>2*f+1-(intOf i).toNat)
 case atStart=>exact ⟨0,none,0,vp,vt,by omega,rfl,rfl,H1⟩
 case round=>
  clear H1;obtain ⟨n,ao,cp,vp',vt',hn2,rfl,rfl,H2⟩:=hrel;by_cases hlt:n<2*f+1
  ·have hnI:(n:Int)<2*(f:Int)+1:=by omega
   go_wp2_with fail
   refine (HQ.out _).mono ?_;rintro e w' ⟨rfl,rfl⟩
   go_upto_if 28 with fail
   refine (HW.out _).mono ?_;rintro e w' ⟨rfl,rfl⟩
   go_upto_if 28 with fail
   generalize hbd:decide (sk≤(n:Int))=bd;have HBD:=zq hbd;clear hbd
   go_cut [12] (fun t wx=>t= .int .i64 (quoK f sk n)∧Hid (Own B w0 wx (ownR 177 2 (.slice ao n cp) n (zaf (vtsGo (fun k=>(mk k).ms) l (quoKs f sk n)).1)::blk W.heap.size (twO nt rn)::twR nt nm rn vp' vt' (vtsGo (fun k=>(mk k).ms) l (quoKs f sk n)).2 ss)))
   case first=>
    cases bd with
    | false=>
     have HQK:Hid (quoK f sk n=n):=zq (by have:=HBD.out;simp only [decide_eq_false_iff_not] at this;unfold quoK;rw [if_pos (by omega)])
     go_wp2_with fail
     go_meet
     exact ⟨by rw [HQK.out],H2⟩
    | true=>
     have HQK:Hid (quoK f sk n=n+f):=zq (by have:=HBD.out;simp only [decide_eq_true_eq] at this;unfold quoK;rw [if_neg (by omega)])
     go_wp2_with fail
     refine (HQ.out _).mono ?_;rintro e w' ⟨rfl,rfl⟩;have e9:(n:Int)+(3*(f:Int)+1)-(2*(f:Int)+1)=n+f:=by omega
     go_wp2_with fail
     go_meet
     exact ⟨by rw [HQK.out],H2⟩
   case rest=>
    obtain ⟨rfl,H3⟩:=hcut;clear H2
    go_upto_region 9 with fail
    have hq0:0≤quoK f sk n∧quoK f sk n≤100:=by unfold quoK;split<;>omega
    have HST:Hid (quoKs f sk (n+1)=quoKs f sk n++[quoK f sk n]):=zq (zkx f sk n);generalize quoK f sk n=q at*;have h4:Own B w0 wc.drew (twR nt nm rn vp' vt' (vtsGo (fun k=>(mk k).ms) l (quoKs f sk n)).2 (ownR 177 2 (.slice ao n cp) n (zaf (vtsGo (fun k=>(mk k).ms) l (quoKs f sk n)).1)::blk W.heap.size (twO nt rn)::ss)):=H3.out.drew.perm ((List.perm_append_comm (l₁:=[_,_]) (l₂:=[_,_,_,_,_])).append_right ss);have t0:=zaa (h4.blkAt 6 rfl) 0 rfl;have t1:=zaa (h4.blkAt 6 rfl) 1 rfl;have HC:=zq (HMK.out _ _ q hq0.1 hq0.2 h4 (by simp+contextual));have HPX:Hid ((vtsGo (fun k=>(mk k).ms) l (quoKs f sk n)).2.length≤900000100):=zq (by
     have h1:=zhz (fun k=>(mk k).ms) l (quoKs f sk n);rw [zbb] at h1;omega)
    have HNK:Hid (NtOk (vtsGo (fun k=>(mk k).ms) l (quoKs f sk n)).2):=zq (zh0 HL.out (fun k hk=>by
     have h1:(mk k).ms.fm=k:=HFM.out k;have h2:0≤k∧k≤100:=by
      unfold quoKs at hk;simp only [List.mem_map,List.mem_range] at hk;obtain ⟨i,hi,rfl⟩:=hk;unfold quoK;split<;>omega
     rw [h1];omega))
    have HSN:Hid (vtsGo (fun k=>(mk k).ms) l (quoKs f sk (n+1))=((vtsGo (fun k=>(mk k).ms) l (quoKs f sk n)).1++[(q,msS (vtsGo (fun k=>(mk k).ms) l (quoKs f sk n)).2 (mk q).ms)],msSL (vtsGo (fun k=>(mk k).ms) l (quoKs f sk n)).2 (mk q).ms)):=zq (by rw [HST.out,zdi]);have HVL:Hid ((vtsGo (fun k=>(mk k).ms) l (quoKs f sk n)).1.length=n):=zq (by rw [zdp,zbb]);generalize vtsGo (fun k=>(mk k).ms) l (quoKs f sk n)=vg at*;obtain ⟨A,l3⟩:=vg;simp only at HPX HNK HSN HVL h4 HC;clear h4 H3;refine Held.wp_held [(W.heap.size,0,[.pointer (some ⟨nt,0,none⟩),.pointer (some ⟨rn,0,none⟩)])] [(2,0)] [9] [(6,true),(1,true),(3,false)] (by kernel_rfl) (by kernel_rfl) ⟨⟨t0,t1,trivial⟩,trivial⟩ ?_;simp only [Held.cutAt,Held.walk,List.take_succ_cons,List.take_zero,List.drop_succ_cons,List.drop_zero]
    go_wp2_with fail
    refine HC.out.mono ?_;rintro e w3 ⟨rfl,h5⟩;have HMS:=zq (zjy h5 (HOK.out q) HNK.out (by have:=HPX.out;omega) (by rw [HFM.out];omega) (by rw [HFM.out];omega));have s0:=zaa (h5.blkAt 12 rfl) 0 rfl;have s1:=zaa (h5.blkAt 12 rfl) 1 rfl;clear h5 HC t0 t1
    go_wp2_with fail
    refine ⟨⟨⟨s0,s1,trivial⟩,trivial⟩,?_⟩
    go_wp2_with fail
    refine HMS.out.mono ?_;rintro e w4 ⟨rfl,vp5,vt5,h6⟩;have u0:=zaa (h6.blkAt 12 rfl) 0 rfl;have u1:=zaa (h6.blkAt 12 rfl) 1 rfl;generalize msS l3 (mk q).ms=sq at*;generalize msSL l3 (mk q).ms=l4 at*;have h7:Own B w0 w4 (ownR 177 2 (.slice ao n cp) n (zaf A)::blk W.heap.size (twO nt rn)::twR nt nm rn vp5 vt5 l4 ss):=(zzv (m:=mk q) h6).perm ((List.perm_append_comm (l₁:=[_,_,_,_,_]) (l₂:=[_,_])).append_right ss);have HX:=zq (h7.box (.cells #[.int .i64 q,.int .i64 sq] 177 (0,0)));have HN5:=zq (heap_alloc_new w4 (.cells #[.int .i64 q,.int .i64 sq] 177 (0,0)));clear h6 h7 HMS s0 s1
    go_wp2_with fail
    refine ⟨⟨⟨u0,u1,trivial⟩,trivial⟩,?_⟩;clear u0 u1
    go_wp2_with (at_builtin;refine za7 rfl (.tmp 35) (.tmp 43) 40 rfl 177 i0 (.agg #[.int .i64 0,.int .i64 0]) 2 16 Tryz.underlying40 hi hz0 hz1 hz2 rfl (by decide) HX.out 1 (.slice ao n cp) n (zaf A) rfl rfl w4.heap.size #[.int .i64 q,.int .i64 sq] 177 (0,0) rfl HN5.out rfl (by simp [Value.oneCell']) (by unfold maxLen;omega) (by omega) ?_)
    intro g6 cap6 w6 h8;have h9:Own B w0 w6 (ownR 177 2 (.slice (some ⟨g6,0,none⟩) (n+1) cap6) (n+1) (zaf (A++[(q,sq)]))::blk W.heap.size (twO nt rn)::twR nt nm rn vp5 vt5 l4 ss):=by
     have:=h8.drop
     simpa [zaf] using this
    have HF:=zq h9;clear h8 h9 HX HN5
    go_wp2_with fail
    refine ⟨trivial,?_⟩
    go_wp2_with fail
    refine ⟨trivial,by rfl,⟨⟨rfl,.inr ⟨by kernel_rfl,by kernel_rfl⟩⟩,trivial⟩,?_⟩
    go_wp2_with fail
    go_roundw
    case rel=>exact ⟨n+1,some ⟨g6,0,none⟩,cap6,vp5,vt5,by omega,by go_num,by go_num,zq (by rw [HSN.out];exact HF.out)⟩
    case measure=>simp [intOf];omega
  ·have hnI:decide ((n:Int)<2*(f:Int)+1)=false:=by simp;omega
   have hne:n=2*f+1:=by omega
   subst hne;have HF:=zq (H2.out.swap.drop.toRed)
   go_wp2_with fail
   refine (HQ.out _).mono ?_;rintro e w' ⟨rfl,rfl⟩
   go_wp2_with fail
   go_ret
   exact ⟨_,vp',vt',rfl,HF.out⟩
end
end Go.Proofs.YtannckelmojkoaaGreat
