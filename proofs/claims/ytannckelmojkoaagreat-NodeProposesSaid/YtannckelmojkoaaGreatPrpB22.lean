/- Parts of the proof, one behind the other. -/
import Derived.Test.YtannckelmojkoaaGreatPrpB21
set_option maxHeartbeats 32000000
set_option maxRecDepth 100000
set_option linter.unusedVariables false
set_option linter.unusedSimpArgs false
namespace Go.Proofs.YtannckelmojkoaaGreat
open Go.RowKit Go.Heap
def zel (l:List (Int×Int)) (k:Nat):List (Int×Int):=(l.take k).map (fun _=>(0,0))++l.drop k
theorem zfe (l:List (Int×Int)) (k:Nat):(zel l k).length=l.length:=by simp [zel];omega
theorem zpt (l:List (Int×Int)) (k:Nat) (hk:k<l.length):zel l (k+1)=(zel l k).set k (0,0):=by
 refine List.ext_getElem (by simp [zfe]) (fun j h1 h2=> ?_);rw [zfe] at h1;have e: ∀k j (h:j<l.length),(zel l k)[j]'(by rw [zfe];exact h)=if j<k then (0,0) else l[j]:=by
  intro k j h;unfold zel;by_cases hjk:j<k
  ·rw [if_pos hjk,List.getElem_append_left (by simp;omega)];simp
  ·rw [if_neg hjk,List.getElem_append_right (by simp;omega)]
   simp only [List.length_map,List.length_take,List.getElem_drop];congr 1;omega
 rw [e (k+1) j h1,List.getElem_set];by_cases hkj:k=j
 ·subst hkj;simp
 ·rw [if_neg hkj,e k j h1]
  by_cases hjk:j<k
  ·rw [if_pos hjk,if_pos (by omega)]
  ·rw [if_neg hjk,if_neg (by omega)]
theorem zrg (l:List (Int×Int)):(mtC l).length=l.length:=by simp [mtC]
theorem mtV_zero:mtV (0,0)= .complex .f64 0 0:=by unfold mtV;simp only [zm9]
section
variable {B:Nat} {w0 w W W':World} {ss rs:List Res} {x:Np} {s s':Ns} {l l':Nt} {m g cap:Nat} {z:List (Int×Int)}
theorem zrf (hcap:z.length≤cap) (hz:z.length≤100) (h:Own B w0 W (mtL m g z.length cap z++ss)):Calls Tryz.prog 96 #[ptrV m] W fun e w'=>e= .returned (.tuple #[])∧Own B w0 w' (mtL m g z.length cap (z.map fun _=>(0,0))++ss):=by
 have H:Hid (Own B w0 W (mtL m g z.length cap (zel z 0)++ss)):=zq (by simpa [zel] using h);have c0:=zaa (h.blkAt 0 rfl) 0 rfl;clear h;go_enter Tryz.func96,Tryz.ntmps96
 go_wp2_with fail
 go_loopw [8] (fun i wr=> ∃k:Nat,k≤z.length∧i= .int .i64 k∧Hid (Own B w0 wr (mtL m g z.length cap (zel z k)++ss))) (fun i _=>z.length-(intOf i).toNat)
 case atStart=>exact ⟨0,by omega,rfl,H⟩
 case round=>
  clear H c0;obtain ⟨k,hk,rfl,H⟩:=hrel;have c0:=zaa (H.out.blkAt 0 rfl) 0 rfl;by_cases hlt:k<z.length
  ·have hkI:(k:Int)<(z.length:Int):=by omega
   have hcI:(z.length:Int)≤(cap:Int):=by omega
   have hk0:(0:Int)≤(k:Int):=by omega
   have hlen:k<(mtC (zel z k)).length:=by rw [zrg,zfe];exact hlt
   obtain ⟨hcell,f0⟩:=zb9 H.out 1 rfl k (v:=(mtC (zel z k))[k]) (by simp [hlen]);have H2:Hid (Own B w0 (wr.setCell ⟨g,k,none⟩ (.complex .f64 0 0)) (mtL m g z.length cap (zel z (k+1))++ss)):=zq (by
    have:=(H.out.putAt 1 rfl k (.complex .f64 0 0));rw [zpt z k hlt];show Own B w0 _ (blk m (mtB g z.length cap)::segR g 269 (mtC ((zel z k).set k (0,0)))::ss);rw [show mtC ((zel z k).set k (0,0))=(mtC (zel z k)).set k (.complex .f64 0 0) from by unfold mtC;rw [List.map_set,mtV_zero]];exact this)
   have hst:(store ⟨g,k,none⟩ (.complex .f64 0 0)).run Tryz.prog wr= .ok () (wr.setCell ⟨g,k,none⟩ (.complex .f64 0 0)):=by
    rw [run_store _ _ _ _ _ rfl];simp [stored,hcell,f0]
   clear hcell f0
   go_wp2_with fail
   go_roundw
   case rel=>exact ⟨k+1,by omega,by go_num,H2⟩
   case measure=>simp [intOf];omega
  ·have hkI:decide ((k:Int)<(z.length:Int))=false:=by simp;omega
   have e:zel z k=z.map fun _=>(0,0):=by
    unfold zel;rw [List.take_of_length_le (by omega),List.drop_eq_nil_of_le (by omega),List.append_nil]
   rw [e] at H
   go_wp2_with fail
   refine bodyPost_end (results_none rfl _ _ _) rfl ?_;exact ⟨rfl,H.out⟩
theorem nd_reset (h:NdIs B w0 W x s l ss):Calls Tryz.prog 96 #[ptrV x.mt] W fun e w'=>e= .returned (.tuple #[])∧NdIs B w0 w' x (zkk s) l ss:=by
 have hok:=h.ok;have hf:=hok.c.f2;have hl:=hok.mt;obtain ⟨v,rr,c,d,g⟩:=h.lens 6 (by omega) (by omega);refine (zrf (by have:=c.mtk;omega) (by omega) (Own.open d)).mono ?_;rintro e w' ⟨he,ho⟩;refine ⟨he,g _ (zkk s) v ss (joinR (mtL x.mt x.mg (s.mt.map fun _=>((0:Int),(0:Int))).length x.mtk (s.mt.map fun _=>(0,0)))) {hok with mt:=by simpa [zkk] using hok.mt,mtn:= ?_} {c with} rfl (Own.shut (rs:=[_,_]) ?_)⟩
 ·intro k h1 h2
  simp only [zkk,List.getElem_map];omega
 ·rw [List.length_map];exact ho
end
theorem set_self {α:Type} (l:List α) (k:Nat) (h:k<l.length):l.set k l[k]=l:=by
 refine List.ext_getElem (by simp) (fun j h1 h2=> ?_);rw [List.getElem_set];split
 ·rename_i e;subst e;rfl
 ·rfl
section
variable {B:Nat} {w0 w W W':World} {ss rs:List Res} {x:Np} {s s':Ns} {l l':Nt}
theorem NdIs.ask (h:NdIs B w0 W x s l ss) (k:Nat) (hk:k<s.ins.length): ∃i rr,x.is[k]?=some i∧AtI B w0 W i s.ins[k] (ss++rr)∧ ∀W' ss',AtI B w0 W' i s.ins[k] (ss'++rr)→NdIs B w0 W' x s l ss':=by
 obtain ⟨i,rr,h1,h2,h3⟩:=h.inst k hk;refine ⟨i,rr,h1,h2,fun W' ss' ha=> ?_⟩;have:=h3 W' s.ins[k] ss' (InKeep.refl _) ha;rw [set_self] at this;exact this
theorem NdIs.onSide {ss':List Res} (h:NdIs B w0 W x s l ss) (f: ∀r,Own B w0 W (ss++[r])→Own B w0 W (ss'++[r])):NdIs B w0 W x s l ss':=by
 obtain ⟨r,h1,h2⟩:=h.side;exact h2 W ss' (f r h1)
theorem ai_len {i:Nat} {st:In} (h:AtI B w0 W i st ss):st.l.length=16:=by
 obtain ⟨y,rfl,rfl,h3⟩:=h;simp [Ins.st,(own_ok h3).n]
end
section
variable {B:Nat} {w0 w W W':World} {ss rs:List Res} {x:Np} {s s':Ns} {l l':Nt}
theorem zfl (sz:Nat) (h:Own B w0 W rs):Own B w0 W (redR (.slice none 0 0) sz 0 []::rs):=h.mkRed (.nil _ _ _)
end
section
variable {B:Nat} {w0 w W W':World} {ss rs:List Res} {x:Np} {s s':Ns} {l l':Nt}
theorem zvf (k:Int) (h:NdIs B w0 W x s l ss):Calls Tryz.prog 155 #[ptrV x.p,.int .i64 k] W fun e w'=>e= .returned (.bool (decide (zak s.c.f s.view k=s.id)))∧ ∃n,w'=W.drewN n:=by
 have HP:=zq (fun w=>zsg s.c.f s.view k w h.ok.c.f1 h.ok.c.f2);have c0:=h.cell 0 rfl (by decide);have c15:=h.cell 15 rfl (by decide);have c29:=h.cell 29 rfl (by decide);have he:decide (zak s.c.f s.view k=s.id)=(zak s.c.f s.view k==s.id):=rfl;rw [he];clear h he;go_enter Tryz.func155,Tryz.ntmps155
 go_wp2_with fail
 go_quiet ((go_at_call 142;exact zas (HP.out _)))
 go_wp2_with fail
 go_ret
 exact ⟨rfl,_,rfl⟩
theorem zbc (s:Ns) (k:Nat) (hk:k<s.ins.length):insAt s k=s.ins[k]:=by unfold insAt;simp [List.getD,hk]
theorem zc4 (h:NdIs B w0 W x s l ss) (k:Nat) (hk:k<s.c.f+1) {i:Nat} (hi:x.is[k]?=some i):Calls Tryz.prog 73 #[ptrV i] W fun e w'=>e= .returned (.bool (insAt s k).on)∧W=w':=by
 have hk':k<s.ins.length:=by rw [h.ok.ins];exact hk
 obtain ⟨j,rr,hj,ha,-⟩:=h.ask k hk';rw [hi] at hj;cases hj
 rw [zbc s k hk'];exact zlf ha
end
section
variable {B:Nat} {w0 w W W':World} {ss rs:List Res} {x:Np} {s s':Ns} {l l':Nt}
theorem NdIs.putStart (h:NdIs B w0 W x s l ss) (v:Int) (h0:0≤v) (h1:v≤1048576):NdIs B w0 (W.setCell ⟨x.p,32,none⟩ (.int .i64 v)) x {s with start:=v} l ss:=h.put 32 _ (fun _=>rfl) {h.ok with start0:=h0,start1:=h1} (fun _ c=> {c with}) (fun _=>rfl)
end
section
variable {B:Nat} {w0 w W W':World} {ss rs:List Res} {x:Np} {s s':Ns} {l l':Nt}
theorem NdIs.putUsed (h:NdIs B w0 W x s l ss) (v:Int) (h0:0≤v):NdIs B w0 (W.setCell ⟨x.p,35,none⟩ (.int .i64 v)) x {s with used:=v} l ss:=h.put 35 _ (fun _=>rfl) {h.ok with used0:=h0} (fun _ c=> {c with}) (fun _=>rfl)
theorem NdIs.putBad (h:NdIs B w0 W x s l ss) (v:Int) (h0:0≤v):NdIs B w0 (W.setCell ⟨x.p,36,none⟩ (.int .i64 v)) x {s with bad:=v} l ss:=h.put 36 _ (fun _=>rfl) {h.ok with bad0:=h0} (fun _ c=> {c with}) (fun _=>rfl)
theorem NdIs.putStale (h:NdIs B w0 W x s l ss) (v:Int) (h0:0≤v):NdIs B w0 (W.setCell ⟨x.p,37,none⟩ (.int .i64 v)) x {s with stale:=v} l ss:=h.put 37 _ (fun _=>rfl) {h.ok with stale0:=h0} (fun _ c=> {c with}) (fun _=>rfl)
theorem NdIs.putFull (h:NdIs B w0 W x s l ss) (v:Int) (h0:0≤v):NdIs B w0 (W.setCell ⟨x.p,39,none⟩ (.int .i64 v)) x {s with full:=v} l ss:=h.put 39 _ (fun _=>rfl) {h.ok with full0:=h0} (fun _ c=> {c with}) (fun _=>rfl)
def TakeC (B:Nat) (w0:World) (x:Np) (s:Ns) (l:Nt) (fn:FuncId) (m:Mm) (sl:Int) (fin:Int×NSt):Prop:=
 ∀W ss,NdIs B w0 W x s l (mmR m ss)→Calls Tryz.prog fn #[ptrV x.p,.agg (mmA m),.int .i64 sl] W fun e w'=>e= .returned (.int .i64 fin.1)∧NdIs B w0 w' x fin.2.1 fin.2.2 (mmR m ss)
end
theorem zp2 {m t c x:Int} (hm:1≤m): ∀ {ps:List Peer},(∀q∈ps,0≤q.bad∧q.bad≤m)→ ∀q∈bumpP m t c x ps,0≤q.bad∧q.bad≤m
 | [],_,q,hq=>by
  simp only [bumpP,List.mem_singleton] at hq;subst hq;simp only;omega
 | p::ps,h,q,hq=>by
  unfold bumpP at hq;have hp:=h p (by simp);split at hq
  ·simp only [List.mem_cons] at hq
   rcases hq with hq | hq
   ·split at hq<;>(subst hq;simp only;omega)
   ·exact h q (by simp [hq])
  ·simp only [List.mem_cons] at hq
   rcases hq with rfl | hq
   ·exact hp
   ·exact zp2 hm (fun q hq=>h q (by simp [hq])) q hq
section
variable {B:Nat} {w0 w W W':World} {ss rs:List Res} {x:Np} {s s':Ns} {l l':Nt}
abbrev NoAt (p nt f:Nat) (cl:Int) (w:World):Prop:=w.cell? ⟨p,0,none⟩=some (.int .i64 f)∧w.cell? ⟨p,1,none⟩=some (.int .i64 cl)∧w.cell? ⟨p,16,none⟩=some (ptrV nt)
theorem NdIs.noAt (h:NdIs B w0 W x s l ss):NoAt x.p x.nt s.c.f s.c.cl W:=⟨h.cell 0 rfl (by decide),h.cell 1 rfl (by decide),h.cell 16 rfl (by decide)⟩
theorem zgx {p nt f:Nat} {cl:Int} {o:Obj} (h:NoAt p nt f cl w):NoAt p nt f cl (w.alloc o):=⟨zaq h.1,zaq h.2.1,zaq h.2.2⟩
theorem zxu {p nt f:Nat} {cl:Int} {o:Obj} (h:NoAt p nt f cl w.drew):NoAt p nt f cl (w.alloc o).drew:=zgx (w:=w) h
theorem ziq {m:Mm} (h:NdIs B w0 W x s l (mmR m ss)): ∃(kind fm view inst seq res:Int) (a1:Option Addr) (rs:List Rq) (c1:Nat) (a2:Option Addr) (vs:Vs) (c2:Nat) (a3:Option Addr) (cts:List Ct) (c3:Nat) (a4:Option Addr) (pts:List Pt) (c4:Nat),
  m=⟨kind,fm,view,inst,seq,res,.slice a1 rs.length c1,rs,.slice a2 vs.length c2,vs,.slice a3 cts.length c3,cts,.slice a4 pts.length c4,pts⟩:=by
 obtain ⟨kind,fm,view,inst,seq,res,vb,rs,vv,vs,vc,cts,vp,pts⟩:=m;obtain ⟨r0,hs0,-⟩:=h.side;obtain ⟨a1,c1,rfl⟩: ∃a c,vb= .slice a rs.length c:=let ⟨a,c,e,_⟩:=zae (k:=5) hs0 rfl;⟨a,c,e⟩;obtain ⟨a2,c2,rfl⟩: ∃a c,vv= .slice a vs.length c:=let ⟨a,c,e,_⟩:=zae (k:=4) hs0 rfl;⟨a,c,e⟩;obtain ⟨a3,c3,rfl⟩: ∃a c,vc= .slice a cts.length c:=let ⟨a,c,e,_⟩:=zae (k:=2) hs0 rfl;⟨a,c,e⟩;obtain ⟨a4,c4,rfl⟩: ∃a c,vp= .slice a pts.length c:=let ⟨a,c,e,_⟩:=zae (k:=0) hs0 rfl;⟨a,c,e⟩;exact ⟨kind,fm,view,inst,seq,res,a1,rs,c1,a2,vs,c2,a3,cts,c3,a4,pts,c4,rfl⟩
theorem nd_ten {m:Mm} {q:Nat} {T:TypeId} {c0 c1 c2 c3 c4 c5 c6 c7 c8 c9 v0 v1 v2 v3 v4 v5 v6 v7 v8 v9:Value} (h:NdIs B w0 W x s l (mmR m (blk q (.cells #[c0,c1,c2,c3,c4,c5,c6,c7,c8,c9] T (0,0))::ss))):NdIs B w0 ((((((((((W.setCell ⟨q,0,none⟩ v0).setCell ⟨q,1,none⟩ v1).setCell ⟨q,2,none⟩ v2).setCell ⟨q,3,none⟩ v3).setCell ⟨q,4,none⟩ v4).setCell ⟨q,5,none⟩ v5).setCell ⟨q,6,none⟩ v6).setCell ⟨q,7,none⟩ v7).setCell ⟨q,8,none⟩ v8).setCell ⟨q,9,none⟩ v9) x s l (mmR m (blk q (.cells #[v0,v1,v2,v3,v4,v5,v6,v7,v8,v9] T (0,0))::ss)):=by
 have h1:NdIs B w0 W x s l (blk q (.cells #[c0,c1,c2,c3,c4,c5,c6,c7,c8,c9] T (0,0))::mmR m ss):=h.perm ((List.perm_append_comm (l₁:=[_,_,_,_,_,_]) (l₂:=[_])).append_right ss);obtain ⟨r,hs,hk⟩:=h1.side;have h2:=hk _ (blk q (.cells #[v0,v1,v2,v3,v4,v5,v6,v7,v8,v9] T (0,0))::mmR m ss) (zdc hs);exact h2.perm ((List.perm_append_comm (l₁:=[_]) (l₂:=[_,_,_,_,_,_])).append_right ss)
theorem zhz {m:Mm} (h:NdIs B w0 W x s l (mmR m ss)):NdIs B w0 W x s l ss:=h.drop.drop.drop.drop.drop.drop
theorem zd5 {bv:Value} {bs:Bys} {m:Ms} {sl:Int} (h:NdIs B w0 W x s l ss) (hb:RdOk w0 B bv bs ss) (ho:openP l s.c.f s.c.cl bs=some (m,sl)):
  Calls Tryz.prog 27 #[bv,.int .i64 s.c.f,.int .i64 s.c.cl,ptrV x.nt] W fun e w'=> ∃mm:Mm,e= .returned (.tuple #[.agg (mmA mm),.int .i64 sl,.int .i64 0])∧mm.ms=m∧MsOk m∧NdIs B w0 w' x s l (mmR mm ss):=by
 have hok:=h.ok.c;obtain ⟨r,hs,hk⟩:=h.sideN;have hnt:NtIn (blk x.nt (noB x.nm)::ntR x.nm l::(ss++[r])) x.nt x.nm l:=⟨by simp,by simp⟩;have:=open_any (f:=s.c.f) (cl:=s.c.cl) hok.f1 hok.f2 hok.cl1 hok.cl2 hs (hb.sub (fun q hq=>by simp [hq])) hnt h.nok;rw [ho] at this;refine this.mono ?_;rintro e w' ⟨mm,he,h1,h2,h3⟩;refine ⟨mm,he,h1,h2,hk w' l (mmR mm ss) h.nok ?_⟩;exact h3.perm ((List.perm_append_comm (l₁:=[_,_,_,_,_,_]) (l₂:=[_,_])).append_right _)
theorem zrh {src sl:Int} {bv:Value} {bs:Bys} {m:Ms} {v:Int} {p:NSt} (h:NdIs B w0 W x s l ss) (hb:RdOk w0 B bv bs ss) (hst:s.stop=false) (hg:s.gd.length≤1000) (hsh:shutP s.gd src s.now=false) (ho:openP l s.c.f s.c.cl bs=some (m,sl))
  (HT: ∀mm:Mm,mm.ms=m→TakeC B w0 x s l 98 mm sl (v,p)) (hv:v=0∨v=1∨v=2∨v=3) (hfg:p.1.gd.length≤1000)
  (hu:p.1.used≤1000000000000) (hbd:p.1.bad≤1000000000000) (hsl:p.1.stale≤1000000000000) (hfu:p.1.full≤1000000000000):
  Calls Tryz.prog 34 #[ptrV x.p,.int .i64 src,bv] W fun e w'=>e= .returned (.tuple #[])∧NdIs B w0 w' x (zqd src (v,p)).1 (zqd src (v,p)).2 ss:=by
 have HN:=zq (zgw h.drew);have HS:=zq (nd_shut h.drew src s.now hg);rw [hsh] at HS;have H:=zq h;have HB:=zq hb;have HO:=zq ho;have HTT:=zq HT;obtain ⟨ao,cap,rfl,-,-⟩:=hb.f;have c17:=h.drew.cell 17 rfl (by decide);have c21:=h.drew.cell 21 rfl (by decide);have c33:W.drew.cell? ⟨x.p,33,none⟩=some (.bool false):=by have:=h.drew.cell 33 rfl (by decide);rw [hst] at this;exact this
 clear h hst hsh hb ho HT;go_enter Tryz.func34,Tryz.ntmps34
 go_upto_region 0 with fail
 refine Held.wp_held [(x.p,33,[.bool false]),(x.p,21,[ptrV x.gd]),(x.p,17,[ptrV x.t])] [(3,0),(8,1),(13,2)] [15] [(15,true),(1,false)] (by kernel_rfl) (by kernel_rfl) ⟨⟨c33,trivial⟩,⟨c21,trivial⟩,⟨c17,trivial⟩,trivial⟩ ?_;simp only [Held.cutAt,Held.walk,List.take_succ_cons,List.take_zero,List.drop_succ_cons,List.drop_zero]
 go_wp2_with fail
 refine HN.out.mono ?_;rintro e w' ⟨rfl,rfl⟩
 go_wp2_with fail
 refine ⟨⟨⟨c33,trivial⟩,⟨c21,trivial⟩,⟨c17,trivial⟩,trivial⟩,?_⟩
 go_wp2_with fail
 refine HS.out.mono ?_;rintro e w1 ⟨rfl,hu1⟩;have H1:=zq (H.out.drew.upd0 hu1);clear hu1 HS HN H
 go_wp2_with fail
 refine ⟨trivial,?_⟩
 go_wp2_with fail
 refine ⟨trivial,by rfl,⟨⟨rfl,.inl ⟨by kernel_rfl,rfl⟩⟩,⟨rfl,.inl ⟨by kernel_rfl,rfl⟩⟩,⟨rfl,.inl ⟨by kernel_rfl,rfl⟩⟩,trivial⟩,?_⟩;clear c17 c21 c33;have d0:NoAt x.p x.nt s.c.f s.c.cl w1.drew:=H1.out.drew.noAt;have HP1:=zq (zd5 H1.out.drew HB.out HO.out);have HP2:=zq (zd5 (H1.out.box (.cells #[.int .i64 0,.int .i64 0,.int .i64 0,.int .i64 0,.int .i64 0,.int .i64 0,.slice none 0 0,.slice none 0 0,.slice none 0 0,.slice none 0 0] 47 (0,0))).drew (HB.out.sub (fun q hq=>by simp [hq])) HO.out)
 go_upto_region 3 with fail
 go_region_held3 (fun w'=>NoAt x.p x.nt s.c.f s.c.cl w')
  (first | (with_reducible exact d0) | (with_reducible exact e0) | (with_reducible exact zgx d0) | (with_reducible exact zgx e0) | (with_reducible exact e1) | (with_reducible exact zxu d0) | (with_reducible exact zxu e0))
  (first | (go_at_call 27;refine HP1.out.mono ?_;rintro e w3 ⟨mm,rfl,hmm,-,h3⟩;have e0:=h3.noAt;obtain ⟨kind,fm,view,inst,seq,res,a1,rs,c1,a2,vs,c2,a3,cts,c3,a4,pts,c4,rfl⟩:=ziq h3;have H3:=zq h3;clear h3) | (go_at_call 27;refine HP2.out.mono ?_;rintro e w3 ⟨mm,rfl,hmm,-,h3⟩;have e0:=h3.noAt;obtain ⟨kind,fm,view,inst,seq,res,a1,rs,c1,a2,vs,c2,a3,cts,c3,a4,pts,c4,rfl⟩:=ziq h3;have H3:=zq h3;clear h3;obtain ⟨r3,hs3,-⟩:=H3.out.side;have b0:=hs3.blkAt 6 rfl;have x0:=zaa b0 0 rfl;have z0:=zab b0 0;have x1:=zaa b0 1 rfl;have z1:=zab b0 1;have x2:=zaa b0 2 rfl;have z2:=zab b0 2;have x3:=zaa b0 3 rfl;have z3:=zab b0 3;have x4:=zaa b0 4 rfl;have z4:=zab b0 4;have x5:=zaa b0 5 rfl;have z5:=zab b0 5;have x6:=zaa b0 6 rfl;have z6:=zab b0 6;have x7:=zaa b0 7 rfl;have z7:=zab b0 7;have x8:=zaa b0 8 rfl;have z8:=zab b0 8;have x9:=zaa b0 9 rfl;have z9:=zab b0 9;have H4:=zq (nd_ten (v0:= .int .i64 kind) (v1:= .int .i64 fm) (v2:= .int .i64 view) (v3:= .int .i64 inst) (v4:= .int .i64 seq) (v5:= .int .i64 res) (v6:= .slice a1 rs.length c1) (v7:= .slice a2 vs.length c2) (v8:= .slice a3 cts.length c3) (v9:= .slice a4 pts.length c4) H3.out);have e1:=H4.out.noAt;clear b0 hs3))
 ·have HZ:Hid (NdIs B w0 (w3.alloc (mmO ⟨kind,fm,view,inst,seq,res,.slice a1 rs.length c1,rs,.slice a2 vs.length c2,vs,.slice a3 cts.length c3,cts,.slice a4 pts.length c4,pts⟩)) x s l (mmR ⟨kind,fm,view,inst,seq,res,.slice a1 rs.length c1,rs,.slice a2 vs.length c2,vs,.slice a3 cts.length c3,cts,.slice a4 pts.length c4,pts⟩ (blk w3.heap.size (mmO ⟨kind,fm,view,inst,seq,res,.slice a1 rs.length c1,rs,.slice a2 vs.length c2,vs,.slice a3 cts.length c3,cts,.slice a4 pts.length c4,pts⟩)::ss))):=zq ((H3.out.box (mmO ⟨kind,fm,view,inst,seq,res,.slice a1 rs.length c1,rs,.slice a2 vs.length c2,vs,.slice a3 cts.length c3,cts,.slice a4 pts.length c4,pts⟩)).perm ((List.perm_append_comm (l₁:=[_]) (l₂:=[_,_,_,_,_,_])).append_right ss))
  clear H3 H1 d0 e0 HP1 HP2;generalize World.alloc w3 _=y at*;generalize w3.heap.size=q at*;obtain ⟨rq,hsq,-⟩:=HZ.out.side;have hbq:=hsq.blkAt 6 rfl;have y0:=zaa hbq 0 rfl;have y1:=zaa hbq 1 rfl;have y2:=zaa hbq 2 rfl;have y3:=zaa hbq 3 rfl;have y4:=zaa hbq 4 rfl;have y5:=zaa hbq 5 rfl;have y6:=zaa hbq 6 rfl;have y7:=zaa hbq 7 rfl;have y8:=zaa hbq 8 rfl;have y9:=zaa hbq 9 rfl;have HTK:=zq (HTT.out ⟨kind,fm,view,inst,seq,res,.slice a1 rs.length c1,rs,.slice a2 vs.length c2,vs,.slice a3 cts.length c3,cts,.slice a4 pts.length c4,pts⟩ hmm y (blk q (mmO ⟨kind,fm,view,inst,seq,res,.slice a1 rs.length c1,rs,.slice a2 vs.length c2,vs,.slice a3 cts.length c3,cts,.slice a4 pts.length c4,pts⟩)::ss) HZ.out);clear HZ hsq hbq HTT hmm
  go_wp2_with fail
  refine HTK.out.mono ?_;rintro e w4 ⟨rfl,h4⟩;have H5:Hid (NdIs B w0 w4 x p.1 p.2 ss):=zq (zhz h4).drop;clear h4 HTK;have u0:=H5.out.ok.used0;have b0:=H5.out.ok.bad0;have s0:=H5.out.ok.stale0;have f0:=H5.out.ok.full0;clear y0 y1 y2 y3 y4 y5 y6 y7 y8 y9;rcases hv with rfl | rfl | rfl | rfl
  ·have c35:=H5.out.cell 35 rfl (by decide)
   have z35:=H5.out.fz 35;have HF:=zq (H5.out.putUsed (p.1.used+1) (by omega));clear H5 s0 f0 b0
   go_wp2_with fail
   refine bodyPost_end (results_none rfl _ _ _) rfl ?_;exact ⟨rfl,HF.out⟩
  ·have c37:=H5.out.cell 37 rfl (by decide)
   have z37:=H5.out.fz 37;have HF:=zq (H5.out.putStale (p.1.stale+1) (by omega));clear H5 u0 f0 b0
   go_wp2_with fail
   refine bodyPost_end (results_none rfl _ _ _) rfl ?_;exact ⟨rfl,HF.out⟩
  ·have c39:=H5.out.cell 39 rfl (by decide)
   have z39:=H5.out.fz 39;have HF:=zq (H5.out.putFull (p.1.full+1) (by omega));clear H5 s0 u0 b0
   go_wp2_with fail
   refine bodyPost_end (results_none rfl _ _ _) rfl ?_;exact ⟨rfl,HF.out⟩
  ·have HN:=zq (zgw H5.out.drew)
   have HG:=zq (nd_bad H5.out.drew src p.1.now hfg (zp2 H5.out.ok.c.fl1 H5.out.ok.gd));have c17:=H5.out.drew.cell 17 rfl (by decide);have c21:=H5.out.drew.cell 21 rfl (by decide);clear H5 u0 s0 f0
   go_wp2_with fail
   go_upto_region 7 with fail
   refine Held.wp_held [(x.p,21,[ptrV x.gd]),(x.p,17,[ptrV x.t])] [(3,0),(8,1)] [10] [(10,true),(1,false)] (by kernel_rfl) (by kernel_rfl) ⟨⟨c21,trivial⟩,⟨c17,trivial⟩,trivial⟩ ?_;simp only [Held.cutAt,Held.walk,List.take_succ_cons,List.take_zero,List.drop_succ_cons,List.drop_zero]
   go_wp2_with fail
   refine HN.out.mono ?_;rintro e w' ⟨rfl,rfl⟩
   go_wp2_with fail
   refine ⟨⟨⟨c21,trivial⟩,⟨c17,trivial⟩,trivial⟩,?_⟩
   go_wp2_with fail
   refine HG.out.mono ?_;rintro e w5 ⟨⟨rb,rfl⟩,h5⟩;have H6:=zq h5;clear h5 HN HG c17 c21
   go_wp2_with fail
   refine ⟨trivial,?_⟩
   go_wp2_with fail
   refine ⟨trivial,by rfl,⟨⟨rfl,.inl ⟨by kernel_rfl,rfl⟩⟩,⟨rfl,.inl ⟨by kernel_rfl,rfl⟩⟩,trivial⟩,?_⟩;have c36:=H6.out.cell 36 rfl (by decide);have z36:=H6.out.fz 36;have HF:=zq (H6.out.putBad (p.1.bad+1) (by omega));clear H6
   go_wp2_with fail
   refine bodyPost_end (results_none rfl _ _ _) rfl ?_;exact ⟨rfl,HF.out⟩
 ·have HZ:=H4
  clear H3 H4 H1 d0 e0 e1 HP1 HP2 x0 x1 x2 x3 x4 x5 x6 x7 x8 x9 z0 z1 z2 z3 z4 z5 z6 z7 z8 z9;generalize World.setCell _ _ _=y at*;generalize w1.heap.size=q at*;obtain ⟨rq,hsq,-⟩:=HZ.out.side;have hbq:=hsq.blkAt 6 rfl;have y0:=zaa hbq 0 rfl;have y1:=zaa hbq 1 rfl;have y2:=zaa hbq 2 rfl;have y3:=zaa hbq 3 rfl;have y4:=zaa hbq 4 rfl;have y5:=zaa hbq 5 rfl;have y6:=zaa hbq 6 rfl;have y7:=zaa hbq 7 rfl;have y8:=zaa hbq 8 rfl;have y9:=zaa hbq 9 rfl;have HTK:=zq (HTT.out ⟨kind,fm,view,inst,seq,res,.slice a1 rs.length c1,rs,.slice a2 vs.length c2,vs,.slice a3 cts.length c3,cts,.slice a4 pts.length c4,pts⟩ hmm y (blk q (mmO ⟨kind,fm,view,inst,seq,res,.slice a1 rs.length c1,rs,.slice a2 vs.length c2,vs,.slice a3 cts.length c3,cts,.slice a4 pts.length c4,pts⟩)::ss) HZ.out);clear HZ hsq hbq HTT hmm
  go_wp2_with fail
  refine HTK.out.mono ?_;rintro e w4 ⟨rfl,h4⟩;have H5:Hid (NdIs B w0 w4 x p.1 p.2 ss):=zq (zhz h4).drop;clear h4 HTK;have u0:=H5.out.ok.used0;have b0:=H5.out.ok.bad0;have s0:=H5.out.ok.stale0;have f0:=H5.out.ok.full0;clear y0 y1 y2 y3 y4 y5 y6 y7 y8 y9;rcases hv with rfl | rfl | rfl | rfl
  ·have c35:=H5.out.cell 35 rfl (by decide)
   have z35:=H5.out.fz 35;have HF:=zq (H5.out.putUsed (p.1.used+1) (by omega));clear H5 s0 f0 b0
   go_wp2_with fail
   refine bodyPost_end (results_none rfl _ _ _) rfl ?_;exact ⟨rfl,HF.out⟩
  ·have c37:=H5.out.cell 37 rfl (by decide)
   have z37:=H5.out.fz 37;have HF:=zq (H5.out.putStale (p.1.stale+1) (by omega));clear H5 u0 f0 b0
   go_wp2_with fail
   refine bodyPost_end (results_none rfl _ _ _) rfl ?_;exact ⟨rfl,HF.out⟩
  ·have c39:=H5.out.cell 39 rfl (by decide)
   have z39:=H5.out.fz 39;have HF:=zq (H5.out.putFull (p.1.full+1) (by omega));clear H5 s0 u0 b0
   go_wp2_with fail
   refine bodyPost_end (results_none rfl _ _ _) rfl ?_;exact ⟨rfl,HF.out⟩
  ·have HN:=zq (zgw H5.out.drew)
   have HG:=zq (nd_bad H5.out.drew src p.1.now hfg (zp2 H5.out.ok.c.fl1 H5.out.ok.gd));have c17:=H5.out.drew.cell 17 rfl (by decide);have c21:=H5.out.drew.cell 21 rfl (by decide);clear H5 u0 s0 f0
   go_wp2_with fail
   go_upto_region 7 with fail
   refine Held.wp_held [(x.p,21,[ptrV x.gd]),(x.p,17,[ptrV x.t])] [(3,0),(8,1)] [10] [(10,true),(1,false)] (by kernel_rfl) (by kernel_rfl) ⟨⟨c21,trivial⟩,⟨c17,trivial⟩,trivial⟩ ?_;simp only [Held.cutAt,Held.walk,List.take_succ_cons,List.take_zero,List.drop_succ_cons,List.drop_zero]
   go_wp2_with fail
   refine HN.out.mono ?_;rintro e w' ⟨rfl,rfl⟩
   go_wp2_with fail
   refine ⟨⟨⟨c21,trivial⟩,⟨c17,trivial⟩,trivial⟩,?_⟩
   go_wp2_with fail
   refine HG.out.mono ?_;rintro e w5 ⟨⟨rb,rfl⟩,h5⟩;have H6:=zq h5;clear h5 HN HG c17 c21
   go_wp2_with fail
   refine ⟨trivial,?_⟩
   go_wp2_with fail
   refine ⟨trivial,by rfl,⟨⟨rfl,.inl ⟨by kernel_rfl,rfl⟩⟩,⟨rfl,.inl ⟨by kernel_rfl,rfl⟩⟩,trivial⟩,?_⟩;have c36:=H6.out.cell 36 rfl (by decide);have z36:=H6.out.fz 36;have HF:=zq (H6.out.putBad (p.1.bad+1) (by omega));clear H6
   go_wp2_with fail
   refine bodyPost_end (results_none rfl _ _ _) rfl ?_;exact ⟨rfl,HF.out⟩
end
end Go.Proofs.YtannckelmojkoaaGreat
