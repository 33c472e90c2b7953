/- Parts of the proof, one behind the other. -/
import Derived.Test.YtannckelmojkoaaGreatVwsB27
set_option maxHeartbeats 32000000
set_option maxRecDepth 100000
set_option linter.unusedVariables false
set_option linter.unusedSimpArgs false
namespace Go.Proofs.YtannckelmojkoaaGreat
open Go.RowKit Go.Heap
def Px (l l':Nt):Prop:= ∃t,l'=l++t
theorem Px.refl (l:Nt):Px l l:=⟨[],by simp⟩
theorem Px.trans {a b c:Nt} (h:Px a b) (g:Px b c):Px a c:=by
 obtain ⟨t,rfl⟩:=h;obtain ⟨u,rfl⟩:=g;exact ⟨t++u,by rw [List.append_assoc]⟩
theorem zod (l:Nt) (p:Int) (b:Bys):Px l (sealL l p b):=by
 unfold sealL;split
 ·exact .refl l
 ·exact ⟨_,rfl⟩
theorem zso (l:Nt) (m:Ms):Px l (msSL l m):=by
 unfold msSL;split
 ·exact .refl l
 ·exact zod _ _ _
theorem px_rqSL (l:Nt) (r:Rq):Px l (rqSL l r):=by
 unfold rqSL;split
 ·exact zod _ _ _
 ·exact .refl l
theorem Px.mem {l l':Nt} (h:Px l l') {x:Int×Bys} (hx:x∈l):x∈l':=by
 obtain ⟨t,rfl⟩:=h;exact List.mem_append_left _ hx
theorem Px.sealN {l l':Nt} (h:Px l l') {p:Int} {b:Bys} (hx:(p,b)∈l):sealN l' p b=sealN l p b:=by
 obtain ⟨t,rfl⟩:=h;unfold Go.Proofs.YtannckelmojkoaaGreat.sealN;rw [List.idxOf_append,if_pos hx]
theorem Px.find {l l':Nt} (h:Px l l') {p:Int} {b:Bys} (hx:(p,b)∈l):findN l' p b=findN l p b:=by
 unfold findN;rw [if_pos hx,if_pos (h.mem hx),h.sealN hx]
theorem Px.len {l l':Nt} (h:Px l l'):l.length≤l'.length:=by
 obtain ⟨t,rfl⟩:=h;simp
theorem Px.sealed {l l':Nt} (h:Px l l') {m:Ms} {sl:Int} (hs:zby l m sl=true):zby l' m sl=true:=by
 unfold zby at hs⊢;cases hb:bodyP m with
 | none=>rw [hb] at hs;simp at hs
 | some b=>
  rw [hb] at hs;simp only [Bool.and_eq_true,decide_eq_true_eq] at hs⊢;exact ⟨h.mem hs.1,by rw [h.find hs.1];exact hs.2⟩
theorem Px.rqSealed {l l':Nt} (h:Px l l') {cl:Int} {r:Rq} (hs:rqSealed l cl r=true):rqSealed l' cl r=true:=by
 unfold Go.Proofs.YtannckelmojkoaaGreat.rqSealed at hs⊢;simp only [Bool.and_eq_true,decide_eq_true_eq] at hs⊢;exact ⟨hs.1,h.mem hs.2.1,by rw [h.find hs.2.1];exact hs.2.2⟩
theorem zix {n:Nat} {p q:Nat→Bool} (h:allR n p=true) (hq: ∀k,k<n→p k=true→q k=true):allR n q=true:=zaw (fun k hk=>hq k hk (zw0 h k hk))
theorem Px.batch {l l':Nt} (h:Px l l') {most cl:Int} {rs:List Rq} (hs:ze8 l most cl rs=true):ze8 l' most cl rs=true:=by
 unfold ze8 at hs⊢;simp only [Bool.and_eq_true] at hs⊢;refine ⟨hs.1,zix hs.2 (fun k _ hk=> ?_)⟩;unfold ze7 at hk⊢;rw [Bool.and_eq_true] at hk⊢;exact ⟨h.rqSealed hk.1,hk.2⟩
theorem Px.voted {l l':Nt} (h:Px l l') {kind:Int} {c:Cp} {f:Nat} (hs:zh6 l kind c f=true):zh6 l' kind c f=true:=by
 unfold zh6 at hs⊢;rw [Bool.and_eq_true] at hs⊢;exact ⟨hs.1,zix hs.2 (fun k _ hk=>h.sealed hk)⟩
theorem Px.certified {l l':Nt} (h:Px l l') {kind:Int} {c:Cp} {f:Nat} {cl:Int} (hs:zbp l kind c f cl=true):zbp l' kind c f cl=true:=by
 unfold zbp at hs⊢;simp only [Bool.and_eq_true] at hs⊢;exact ⟨hs.1,h.batch hs.2.1,h.voted hs.2.2⟩
theorem zio {l:Nt} {m:Ms} (hb:(bodyP m).isSome=true):zby (msSL l m) m (msS l m)=true:=by
 unfold zby msSL msS;cases h:bodyP m with
 | none=>rw [h] at hb;simp at hb
 | some b=>
  simp only [Bool.and_eq_true,decide_eq_true_eq,beq_iff_eq];exact ⟨zer _ _ _,zfc _ _ _⟩
theorem msS_in {l:Nt} {m:Ms} (hb:(bodyP m).isSome=true):1≤msS l m∧msS l m≤(l.length:Int)+1:=by
 unfold msS;cases h:bodyP m with
 | none=>rw [h] at hb;simp at hb
 | some b=>exact zjw _ _ _
theorem zj0 (mk:Int→Ms) (l:Nt) (ks:List Int):Px l (vtsGo mk l ks).2∧(vtsGo mk l ks).2.length≤l.length+ks.length:=by
 refine zhv (P:=fun ks=>Px l (vtsGo mk l ks).2∧(vtsGo mk l ks).2.length≤l.length+ks.length) ⟨.refl l,by simp [vtsGo]⟩ (fun ks k ih=> ?_) ks;rw [zdi];have:=zmc (vtsGo mk l ks).2 (mk k);exact ⟨ih.1.trans (zso _ _),by simp;omega⟩
theorem ztg (mk:Int→Ms) (l:Nt) (ks:List Int):(∀k∈ks,(bodyP (mk k)).isSome=true)→ ∀(j:Nat) (hj:j<ks.length),∃sl,(vtsGo mk l ks).1[j]?=some (ks[j],sl)∧zby (vtsGo mk l ks).2 (mk ks[j]) sl=true∧1≤sl∧sl≤(l.length:Int)+ks.length:=by
 refine zhv (P:=fun ks=>(∀k∈ks,(bodyP (mk k)).isSome=true)→ ∀(j:Nat) (hj:j<ks.length),∃sl,(vtsGo mk l ks).1[j]?=some (ks[j],sl)∧zby (vtsGo mk l ks).2 (mk ks[j]) sl=true∧1≤sl∧sl≤(l.length:Int)+ks.length) (fun _ j hj=>by simp at hj) (fun ks k ih hb j hj=> ?_) ks
 ·have hl:=zdp mk l ks
  rw [zdi];simp only;by_cases h:j<ks.length
  ·obtain ⟨sl,h1,h2,h3,h4⟩:=ih (fun q hq=>hb q (by simp [hq])) j h
   refine ⟨sl,?_,?_,h3,by simp;omega⟩
   ·rw [List.getElem?_append_left (by omega),h1,List.getElem_append_left h]
   ·rw [List.getElem_append_left h]
    exact (zso _ _).sealed h2
  ·have hj':j=ks.length:=by simp at hj;omega
   subst hj';have h5:=msS_in (l:=(vtsGo mk l ks).2) (hb k (by simp));have h6:=(zj0 mk l ks).2;refine ⟨msS (vtsGo mk l ks).2 (mk k),?_,?_,h5.1,by simp;omega⟩
   ·rw [List.getElem?_append_right (by omega),hl];simp
   ·simp only [List.getElem_append_right (Nat.le_refl _),Nat.sub_self,List.getElem_cons_zero]
    exact zio (hb k (by simp))
def crtM (kind view inst seq:Int) (rs:List Rq) (k:Int):Ms:=⟨kind,k,view,inst,seq,0,rs,[],[],[]⟩
def crtP (kind:Int) (f:Nat) (skip:Int) (l:Nt) (view inst seq:Int) (r:Rq):Cp×Nt:=
 (⟨view,inst,seq,[rqS l r],(vtsGo (crtM kind view inst seq [rqS l r]) (rqSL l r) (quoKs f (skip%(f+1)) (2*f+1))).1⟩,(vtsGo (crtM kind view inst seq [rqS l r]) (rqSL l r) (quoKs f (skip%(f+1)) (2*f+1))).2)
theorem crt_px (kind:Int) (f:Nat) (skip:Int) (l:Nt) (view inst seq:Int) (r:Rq):Px l (crtP kind f skip l view inst seq r).2∧(crtP kind f skip l view inst seq r).2.length≤l.length+(2*f+2):=by
 have h:=zj0 (crtM kind view inst seq [rqS l r]) (rqSL l r) (quoKs f (skip%(f+1)) (2*f+1));rw [zbb] at h;have h2:(rqSL l r).length≤l.length+1:=by
  unfold rqSL;split
  ·exact (zet _ _ _).2
  ·omega
 exact ⟨(px_rqSL l r).trans h.1,by unfold crtP;simp only;omega⟩
theorem zir (n:Int):(sgnB n).length≤6:=by have:=(zg1 5 (zigN n)).2;omega
theorem zv3 (r:Rq):(reqB r).length≤36:=by
 have a:=zaz r.client;have b:=zaz r.time;have c:=zaz r.kind;have d:=zir r.key;have e:=zir r.val;have g:=zaz r.sl;unfold reqB;simp only [List.length_append];omega
theorem zbe {n:Int} (h0:0≤n) (h1:n≤1000000000):numOk n=true:=by unfold numOk;simp;omega
structure RqGood (cl:Int) (r:Rq):Prop where
 ok:okReq r cl=true
 cl4:cl≤4
theorem RqGood.w {cl:Int} {r:Rq} (h:RqGood cl r):reqW r=true:=by
 have h1:=h.ok;have h2:=h.cl4;unfold okReq inW zc5 at h1;unfold reqW numOk sgnOk;simp only [Bool.and_eq_true,Bool.or_eq_true,decide_eq_true_eq] at h1⊢;omega
theorem zxn (r:Rq):(listB reqB [r]).length≤42:=by
 have:=zv3 r;have:=zaz ((([r]:List Rq).length:Nat):Int);unfold listB;simp only [List.length_append,List.flatMap_cons,List.flatMap_nil,List.append_nil];omega
theorem zuc {kind view inst seq k:Int} {r:Rq} (hr:reqW r=true) (h1:0≤kind) (h2:kind≤100) (v0:0≤view) (v1:view≤100) (i0:0≤inst) (i1:inst≤100) (s0:0≤seq) (s1:seq≤100) (k0:0≤k) (k1:k≤100):(bodyP (crtM kind view inst seq [r] k)).isSome=true:=by
 have a:=zbe h1 (by omega);have b:=zbe v0 (by omega);have c:=zbe i0 (by omega);have d:=zbe s0 (by omega);have e:=zbe k0 (by omega);have g:sgnOk 0=true:=by decide
 have w:msW (crtM kind view inst seq [r] k)=true:=by
  unfold msW crtM;simp only [a,b,c,d,e,g,listW,hr,List.all_cons,List.all_nil,List.length_cons,List.length_nil];rfl
 have n1:=zaz kind;have n2:=zaz view;have n3:=zaz inst;have n4:=zaz seq;have n5:=zaz k;have n6:=zir 0;have n7:=zxn r;have q1:(listB vtB ([]:Vs)).length=1:=by decide
 have q2:(listB certB ([]:List Cp)).length=1:=by decide
 have q3:(listB partB ([]:List Pa)).length=1:=by decide
 have hlen:(msB (crtM kind view inst seq [r] k)).length≤65530:=by
  unfold msB crtM;simp only [List.length_append];rw [q1,q2,q3];omega
 unfold bodyP;rw [w,if_pos (by simp;omega)];rfl
theorem rqS_ok {cl:Int} {l:Nt} {r:Rq} (h:RqGood cl r) (hn:l.length≤1000000000):RqGood cl (rqS l r)∧rqSealed (rqSL l r) cl (rqS l r)=true:=by
 have hw:reqW {r with sl:=0}=true:=(zr4 h.ok h.cl4).1;have h1:=h.ok;have hs:=zjw l (100+r.client) (rqX r);have e1:rqS l r= {r with sl:=sealN l (100+r.client) (rqX r)}:=by unfold rqS;rw [if_pos hw]
 have e2:rqSL l r=sealL l (100+r.client) (rqX r):=by unfold rqSL;rw [if_pos hw]
 have ex:rqX r=rqB0 r:=by unfold rqX;rw [if_pos hw]
 have hok:okReq (rqS l r) cl=true:=by
  rw [e1];unfold okReq inW zc5 at h1⊢;simp only [Bool.and_eq_true,Bool.or_eq_true,decide_eq_true_eq] at h1⊢;refine ⟨⟨⟨h1.1.1.1,?_⟩,h1.1.2⟩,h1.2⟩;omega
 refine ⟨⟨hok,h.cl4⟩,?_⟩;unfold rqSealed;rw [hok,e2];have e3:rqB0 (rqS l r)=rqX r:=by rw [e1,ex];rfl
 have e4:(rqS l r).client=r.client:=by rw [e1]
 have e5:(rqS l r).sl=sealN l (100+r.client) (rqX r):=by rw [e1]
 rw [e3,e4,e5,Bool.true_and,Bool.and_eq_true,decide_eq_true_eq,beq_iff_eq];exact ⟨zer _ _ _,zfc _ _ _⟩
theorem zho {f:Nat} {s:Int} {i:Nat} (h0:0≤s) (h1:s≤f) (hi:i<2*f+1):0≤quoK f s i∧quoK f s i≤3*f∧(i:Int)≤quoK f s i:=by
 unfold quoK;split<;>omega
theorem zxy {f:Nat} {s:Int} {i:Nat}:quoK f s i<quoK f s (i+1):=by
 unfold quoK;split<;>split<;>omega
structure CrtOk (kind:Int) (f:Nat) (cl:Int) (l:Nt) (c:Cp) (r:Rq) (vs:Vs):Prop where
 rs:c.rs=[r]
 cert:zbp l kind c f cl=true
 ok:zgg f cl c=true
 vl:c.vs.length=2*f+1
 w:certW c=true
theorem crt_ok {kind:Int} {f:Nat} {skip cl:Int} {l:Nt} {view inst seq:Int} {r:Rq} (h:RqGood cl r) (hn:l.length≤900000000) (hf1:1≤f) (hf2:f≤4) (hk0:0≤kind) (hk1:kind≤100) (hv0:0≤view) (hv1:view≤12) (hi0:0≤inst) (hi1:inst≤f) (hs0:1≤seq) (hs1:seq≤16):
  CrtOk kind f cl (crtP kind f skip l view inst seq r).2 (crtP kind f skip l view inst seq r).1 (rqS l r) (crtP kind f skip l view inst seq r).1.vs:=by
 have hg:=rqS_ok (l:=l) h (by omega);have hsk0:0≤skip%((f:Int)+1):=Int.emod_nonneg _ (by omega);have hsk1:skip%((f:Int)+1)≤f:=by have:=Int.emod_lt_of_pos skip (show 0<(f:Int)+1 by omega);omega
 have hlen:=(crt_px kind f skip l view inst seq r).2;have hvl:(crtP kind f skip l view inst seq r).1.vs.length=2*f+1:=by unfold crtP;simp only;rw [zdp,zbb]
 have hl1:(rqSL l r).length≤l.length+1:=by
  unfold rqSL;split
  ·exact (zet _ _ _).2
  ·omega
 have hat: ∀j,j<2*f+1→ ∃sl,(crtP kind f skip l view inst seq r).1.vs[j]?=some (quoK f (skip%(f+1)) j,sl)∧zby (crtP kind f skip l view inst seq r).2 (crtM kind view inst seq [rqS l r] (quoK f (skip%(f+1)) j)) sl=true∧1≤sl∧sl≤(l.length:Int)+12:=fun j hj=>by
  have hb: ∀k∈quoKs f (skip%(f+1)) (2*f+1),(bodyP (crtM kind view inst seq [rqS l r] k)).isSome=true:=fun k hk=>by
   unfold quoKs at hk;simp only [List.mem_map,List.mem_range] at hk;obtain ⟨i,hi,rfl⟩:=hk;have:=zho hsk0 hsk1 hi;exact zuc hg.1.w hk0 (by omega) hv0 (by omega) hi0 (by omega) (by omega) (by omega) (by omega) (by omega)
  obtain ⟨sl,h1,h2,h3,h4⟩:=ztg (crtM kind view inst seq [rqS l r]) (rqSL l r) _ hb j (by rw [zbb];exact hj);have e:(quoKs f (skip%(f+1)) (2*f+1))[j]'(by rw [zbb];exact hj)=quoK f (skip%(f+1)) j:=by unfold quoKs;simp
  rw [e] at h1 h2;rw [zbb] at h4;exact ⟨sl,h1,h2,h3,by omega⟩
 have hva: ∀j,j<2*f+1→ ∃sl,zc1 (crtP kind f skip l view inst seq r).1.vs j=(quoK f (skip%(f+1)) j,sl)∧zby (crtP kind f skip l view inst seq r).2 (crtM kind view inst seq [rqS l r] (quoK f (skip%(f+1)) j)) sl=true∧1≤sl∧sl≤(l.length:Int)+12:=fun j hj=>by
  obtain ⟨sl,h1,h2⟩:=hat j hj;exact ⟨sl,by unfold zc1;rw [List.getD_eq_getElem?_getD,h1];rfl,h2⟩
 have hris:zci (crtP kind f skip l view inst seq r).1.vs f=true:=by
  unfold zci;rw [hvl];simp only [decide_true,Bool.true_and];refine zaw (fun j hj=> ?_);obtain ⟨sl,h1,-⟩:=hva j hj;have hq:=zho hsk0 hsk1 hj;rw [h1,Bool.and_eq_true,decide_eq_true_eq,decide_eq_true_eq];refine ⟨?_,by simp only;omega⟩;cases j with
  | zero=>simp only [lastV];omega
  | succ j=>
   simp only [lastV];obtain ⟨sl',h3,-⟩:=hva j (by omega);rw [h3];exact zxy
 have hpl:zce f view inst seq=true:=by
  unfold zce inW;simp only [Bool.and_eq_true,decide_eq_true_eq];omega
 have hre: ∀k,k<1→reqAt [rqS l r] k=rqS l r:=fun k hk=>by
  have:k=0:=by omega
  subst this;rfl
 refine ⟨rfl,?_,?_,hvl,?_⟩
 ·unfold zbp
  simp only [Bool.and_eq_true];refine ⟨hpl,?_,?_⟩
  ·refine Px.batch (l:=rqSL l r) ((zj0 _ _ _).1) ?_
   show ze8 (rqSL l r) 4 cl [rqS l r]=true;unfold ze8;simp only [Bool.and_eq_true,decide_eq_true_eq];refine ⟨by simp,zaw (fun k hk=> ?_)⟩;have hk':k<1:=by simpa using hk
   unfold ze7;rw [hre k hk',hg.2];have:k=0:=by omega
   subst this;simp
  ·unfold zh6
   rw [hris,Bool.true_and,hvl];refine zaw (fun j hj=> ?_);obtain ⟨sl,h1,h2,-⟩:=hva j hj;unfold ztf;rw [h1];exact h2
 ·unfold zgg
  simp only [Bool.and_eq_true];refine ⟨⟨hpl,?_⟩,?_⟩
  ·show zbm [rqS l r] 0 4 cl=true
   unfold zbm;simp only [Bool.and_eq_true];refine ⟨zaw (fun k hk=> ?_),by unfold inW;simp⟩;rw [hre k (by simpa using hk)];exact hg.1.ok
  ·unfold zd5
   rw [hris,Bool.and_true,hvl];refine zaw (fun j hj=> ?_);obtain ⟨sl,h1,-,h3,h4⟩:=hva j hj;rw [h1];unfold inW;simp only [Bool.and_eq_true,decide_eq_true_eq];omega
 ·have hv:(crtP kind f skip l view inst seq r).1.vs.all vtW=true:=by
   rw [List.all_eq_true];intro q hq;obtain ⟨j,hj,rfl⟩:=List.getElem_of_mem hq;obtain ⟨sl,h1,-,h3,h4⟩:=hat j (by omega);rw [List.getElem?_eq_getElem hj] at h1;simp only [Option.some.injEq] at h1;have hq:=zho hsk0 hsk1 (show j<2*f+1 by omega);rw [h1];unfold vtW numOk;simp only [Bool.and_eq_true,decide_eq_true_eq];omega
  have a:=zbe hv0 (by omega);have b:=zbe hi0 (by omega);have c:=zbe (show 0≤seq by omega) (by omega);show (numOk view&&(numOk inst&&(numOk seq&&(listW reqW [rqS l r]&&listW vtW (crtP kind f skip l view inst seq r).1.vs))))=true;rw [a,b,c];unfold listW;rw [hv,hvl];simp only [List.all_cons,List.all_nil,hg.1.w];simp;omega
section
variable {B:Nat} {w0 w W W':World} {ss rs:List Res} {nt nm rn:Nat} {vp:Value} {vt:Rn} {l:Nt}
abbrev balW (kind view inst seq:Int) (vb:Value) (bs:List Rq) (k:Int):Mm:=⟨kind,k,view,inst,seq,0,vb,bs,.slice none 0 0,[],.slice none 0 0,[],.slice none 0 0,[]⟩
theorem ztw (kind k:Int) {view inst seq:Int} {ao:Option Addr} {cap:Nat} {bs:List Rq} {vv:Value} (W:World):
  Calls Tryz.prog 67 #[.int .i64 kind,.int .i64 k,.agg #[.int .i64 view,.int .i64 inst,.int .i64 seq,.slice ao bs.length cap,vv]] W fun e w'=>e= .returned (.agg (mmA (balW kind view inst seq (.slice ao bs.length cap) bs k)))∧Upd [] W w':=by
 have hu:Upd [] W ((W.alloc (ctO view inst seq (.slice ao bs.length cap) vv)).alloc (mmO (balW kind view inst seq (.slice ao bs.length cap) bs k))):=((Upd.refl [] W).alloc _).alloc _;have hb:=heap_alloc_new W (ctO view inst seq (.slice ao bs.length cap) vv);have y0:=zaa hb 0 rfl;have y1:=zaa hb 1 rfl;have y2:=zaa hb 2 rfl;have y3:=zaa hb 3 rfl;have HU:=zq hu;clear hb hu;go_enter Tryz.func67,Tryz.ntmps67
 go_wp2_with fail
 generalize hw:World.alloc (World.alloc W _) _=w2 at*;obtain ⟨f0,f1,f2,f3,f4,f5,f6,f7,f8,f9⟩:=zai (w:=w2) (m:=balW kind view inst seq (.slice ao bs.length cap) bs k) (b:=W.heap.size+1) (by rw [←hw];have:=heap_alloc_new (W.alloc (ctO view inst seq (.slice ao bs.length cap) vv)) (mmB (balW kind view inst seq (.slice ao bs.length cap) bs k));rw [zav] at this;exact this);simp only at f0 f1 f2 f3 f4 f5 f6 f7 f8 f9;exact bodyPost_ret (v:= .agg (mmA (balW kind view inst seq (.slice ao bs.length cap) bs k))) (by simp [results,Tryz.results67,go_sem,f0,f1,f2,f3,f4,f5,f6,f7,f8,f9]) rfl ⟨rfl,HU.out⟩
theorem zt0 {kind view inst seq:Int} {ao:Option Addr} {cap:Nat} {bs:List Rq} {vv:Value} {p1 p2:Nat} (hb:bs.length≤1000):
  MkC B w0 (blk p1 (.cells #[.int .i64 kind] 3 (0,0))::blk p2 (ctO view inst seq (.slice ao bs.length cap) vv)::batR (.slice ao bs.length cap) bs::ss) 66 #[ptrV p1,ptrV p2] (balW kind view inst seq (.slice ao bs.length cap) bs):=by
 intro W rs k hk0 hk1 h hs;obtain ⟨j1,h1⟩:=List.getElem?_of_mem (hs (blk p1 (.cells #[.int .i64 kind] 3 (0,0))) (by simp));obtain ⟨j2,h2⟩:=List.getElem?_of_mem (hs (blk p2 (ctO view inst seq (.slice ao bs.length cap) vv)) (by simp));have b1:=h.blkAt j1 h1;have b2:=h.blkAt j2 h2;have hu0:Upd [] W (W.alloc (mmB (nilMm 0 0 0 0 0 0))):=(Upd.refl [] W).alloc _;have g1:(W.alloc (mmB (nilMm 0 0 0 0 0 0))).heap[p1]?=some (.cells #[.int .i64 kind] 3 (0,0)):=(hu0.block p1 (block_lt b1) (by simp)).trans b1;have g2:(W.alloc (mmB (nilMm 0 0 0 0 0 0))).heap[p2]?=some (ctO view inst seq (.slice ao bs.length cap) vv):=(hu0.block p2 (block_lt b2) (by simp)).trans b2;have x0:=zaa g1 0 rfl;have y0:=zaa g2 0 rfl;have y1:=zaa g2 1 rfl;have y2:=zaa g2 2 rfl;have y3:=zaa g2 3 rfl;have y4:=zaa g2 4 rfl;have HB:=zq (fun w=>ztw kind k (view:=view) (inst:=inst) (seq:=seq) (ao:=ao) (cap:=cap) (bs:=bs) (vv:=vv) w);have H:=zq (h.box (mmB (nilMm 0 0 0 0 0 0)));have HM:=zq (hs (batR (.slice ao bs.length cap) bs) (by simp));clear h hs b1 b2 g1 g2 hu0 h1 h2;show Calls Tryz.prog 66 #[.int .i64 k,ptrV p1,ptrV p2] W _;go_enter Tryz.func66,Tryz.ntmps66
 go_wp2_with fail
 refine (HB.out _).mono ?_;rintro e w1 ⟨rfl,hu⟩;have H1:=zq (H.out.upd0 hu);clear hu HB H x0 y0 y1 y2 y3 y4;obtain ⟨z0,z1,z2,z3,z4,z5,z6,z7,z8,z9⟩:=zai (H1.out.blkAt 0 rfl);simp only at z0 z1 z2 z3 z4 z5 z6 z7 z8 z9;have zf:=zab (H1.out.blkAt 0 rfl);have q0:=zf 0;have q1:=zf 1;have q2:=zf 2;have q3:=zf 3;have q4:=zf 4;have q5:=zf 5;have q6:=zf 6;have q7:=zf 7;have q8:=zf 8;have q9:=zf 9;have HR:=zq (zcz (v0:= .int .i64 kind) (v1:= .int .i64 k) (v2:= .int .i64 view) (v3:= .int .i64 inst) (v4:= .int .i64 seq) (v5:= .int .i64 0) (v6:= .slice ao bs.length cap) (v7:= .slice none 0 0) (v8:= .slice none 0 0) (v9:= .slice none 0 0) H1.out);clear zf H1
 go_wp2_with fail
 generalize World.setCell _ _ _=y at*;obtain ⟨f0,f1,f2,f3,f4,f5,f6,f7,f8,f9⟩:=zai (w:=y) (m:=balW kind view inst seq (.slice ao bs.length cap) bs k) (HR.out.blkAt 0 rfl);simp only at f0 f1 f2 f3 f4 f5 f6 f7 f8 f9;refine bodyPost_ret (v:= .agg (mmA (balW kind view inst seq (.slice ao bs.length cap) bs k))) (by simp [results,Tryz.results66,go_sem,f0,f1,f2,f3,f4,f5,f6,f7,f8,f9]) rfl ⟨rfl,?_⟩;have h2:=HR.out.drop;have h3:Own B w0 y (batR (.slice ao bs.length cap) bs::rs):=h2.copy HM.out rfl;have h4:=zbz 2 h3;have h5:Own B w0 y (ctsR []::_):=h4.mkCts (by simp);have h6:=zbz 5 h5;have h7:Own B w0 y (ptsR []::_):=h6.mkPts (by simp);exact zbz 4 h7
end
theorem Tryz.infoRq:(Tryz.prog.info? 38).map (fun i=>(i.zero,i.size,i.bytes))=some (some (.agg #[.int .i64 0,.int .i64 0,.int .i64 0,.int .i64 0,.int .i64 0,.int .i64 0]),6,48):=by kernel_rfl
section
variable {B:Nat} {w0 w W W':World} {ss rs:List Res} {nt nm rn:Nat} {vp:Value} {vt:Rn} {l:Nt}
theorem zpq (r:Rq) (W:World):Calls Tryz.prog 105 #[.slice none 0 0,rqAgg r] W fun e w'=>e= .returned (.bool false)∧Upd [] W w':=by
 have hu:Upd [] W (W.alloc (rqO r)):=(Upd.refl [] W).alloc _;unfold rqAgg;go_enter Tryz.func105,Tryz.ntmps105
 go_wp2_with fail
 go_loopw [5] (fun i wr=>i= .int .i64 0∧wr=W.alloc (rqO r)) (fun _ _=>0)
 case atStart=>exact ⟨rfl,rfl⟩
 case round=>
  obtain ⟨rfl,rfl⟩:=hrel
  go_wp2_with fail
  go_ret
  exact ⟨rfl,hu⟩
theorem zvi {ao:Option Addr} {cap:Nat} {r:Rq} (h:Own B w0 W (batR (.slice ao 1 cap) [r]::ss)):
  Calls Tryz.prog 43 #[.slice ao 1 cap] W fun e w'=> ∃a' c',e= .returned (.slice a' 1 c')∧Own B w0 w' (batR (.slice a' 1 c') [r]::batR (.slice ao 1 cap) [r]::ss):=by
 obtain ⟨i0,hi,hz0,hz1,hz2⟩:=info_parts Tryz.infoRq;obtain ⟨ao',cap',hv',hbc,-,-,-,h5⟩:=zgw (h.get 0 rfl);simp only [Value.slice.injEq] at hv';obtain ⟨rfl,-,rfl⟩:=hv';obtain ⟨b,o,rfl,hbs,hcs⟩:=h5 (by simp);obtain ⟨q0,q1,q2,q3,q4,q5⟩:=zb4 hcs 0 r (by simp);simp only [Nat.zero_mul,Nat.add_zero] at q0 q1 q2 q3 q4 q5;have HH:=zq (zpq r);unfold rqAgg at HH;obtain ⟨client,time,kind,key,val,sl⟩:=r;simp only at q0 q1 q2 q3 q4 q5 HH;have H:=zq h;clear h hcs h5 hbs;go_enter Tryz.func43,Tryz.ntmps43
 go_wp2_with fail
 go_loopw [3,4] (fun t i wr=>(i= .int .i64 0∧t= .slice none 0 0∧wr=W)∨(∃a' c',i= .int .i64 1∧t= .slice a' 1 c'∧Hid (Own B w0 wr (batR (.slice a' 1 c') [⟨client,time,kind,key,val,sl⟩]::batR (.slice (some ⟨b,o,none⟩) 1 cap) [⟨client,time,kind,key,val,sl⟩]::ss)))) (fun _ i _=>1-(intOf i).toNat)
 case atStart=>exact .inl ⟨rfl,rfl,rfl⟩
 case round=>
  rcases hrel with ⟨rfl,rfl,rfl⟩ | ⟨a',c',rfl,rfl,H2⟩
  ·have hc1:(1:Int)≤(cap:Int):=by simp at hbc;omega
   go_wp2_with fail
   refine (HH.out _).mono ?_;rintro e w1 ⟨rfl,hu⟩;have H1:=zq (H.out.upd0 hu);clear hu HH H q0 q1 q2 q3 q4 q5
   go_upto_block 2 with fail
   go_cut [5] (fun k wx=>k= .int .i64 0∧Hid (Own B w0 wx (batR (.slice (some ⟨b,o,none⟩) 1 cap) [⟨client,time,kind,key,val,sl⟩]::ss)))
   case first=>
    go_wp2_with fail
    go_loopw [5] (fun k wr=>k= .int .i64 0∧wr=w1) (fun _ _=>0)
    case atStart=>exact ⟨rfl,rfl⟩
    case round=>
     obtain ⟨rfl,rfl⟩:=hrel
     go_wp2_with fail
     go_quiet (fail)
     go_wp2_with fail
     go_meet
     exact ⟨rfl,zq (H1.out.upd0 ((Upd.refl _ _).drewN nq))⟩
   case rest=>
    obtain ⟨rfl,H3⟩:=hcut;clear H1;have h3:=H3.out.drew;obtain ⟨ao',cap',hv',-,-,-,-,h5⟩:=zgw (h3.get 0 rfl);simp only [Value.slice.injEq] at hv';obtain ⟨hao,-,-⟩:=hv';obtain ⟨b',o',hbo,hbs,hcs⟩:=h5 (by simp);rw [←hao] at hbo;simp only [Option.some.injEq,Addr.mk.injEq,and_true] at hbo;obtain ⟨rfl,rfl⟩:=hbo;obtain ⟨q0,q1,q2,q3,q4,q5⟩:=zb4 hcs 0 ⟨client,time,kind,key,val,sl⟩ (by simp);simp only [Nat.zero_mul,Nat.add_zero] at q0 q1 q2 q3 q4 q5;clear hcs h5 hbs hao h3
    go_upto_region 9 with fail
    have HO:=zq ((H3.out.box (.cells #[.int .i64 client,.int .i64 time,.int .i64 kind,.int .i64 key,.int .i64 val,.int .i64 sl] 38 (0,0))).drew.row0 (E:=38) (sz:=6));have RV:Hid (Reads (wc.alloc (.cells #[.int .i64 client,.int .i64 time,.int .i64 kind,.int .i64 key,.int .i64 val,.int .i64 sl] 38 (0,0))).drew (.slice (some ⟨wc.heap.size,0,none⟩) 1 1) 6 1 (zak [⟨client,time,kind,key,val,sl⟩])):=zq ⟨_,_,rfl,by omega,by unfold maxLen;omega,rfl,(fun e=>by cases e),fun _=>⟨wc.heap.size,0,rfl,by simp,fun j hj=>by rw [Nat.zero_add];exact (zac (heap_alloc_new wc _) j).trans (by simp [zak,zbh])⟩⟩;have RO:Hid (∀u∈zak [⟨client,time,kind,key,val,sl⟩],u.oneCell'=true):=zq (fun u hu=>by simp [zak,zbh] at hu;rcases hu with rfl | rfl | rfl | rfl | rfl | rfl<;>rfl)
    have HM1:Hid (0+1≤maxLen):=zq (by unfold maxLen;omega);have HM2:Hid ((0+1)*48≤140737488355328):=zq (by omega);refine Mix.wp_text2 (by kernel_rfl) (by kernel_rfl) ?_
    go_wp2_with (at_builtin;refine zd6 rfl (.tmp 39) (.tmp 48) 39 rfl 38 i0 (.agg #[.int .i64 0,.int .i64 0,.int .i64 0,.int .i64 0,.int .i64 0,.int .i64 0]) 6 48 Tryz.underlying39 hi hz0 hz1 hz2 rfl (by decide) _ 0 _ rfl HO.out _ 1 _ rfl RV.out RO.out HM1.out HM2.out ?_)
    intro v4 w4 h4;obtain ⟨a4,c4,rfl⟩:=zes (zam h4.head);have HF:Hid (Own B w0 w4 (batR (.slice a4 1 c4) [⟨client,time,kind,key,val,sl⟩]::batR (.slice (some ⟨b,o,none⟩) 1 cap) [⟨client,time,kind,key,val,sl⟩]::ss)):=zq ((show Own B w0 w4 (batR (.slice a4 1 c4) [⟨client,time,kind,key,val,sl⟩]::blk _ _::_) from h4.toRed).swap.drop);clear h4 HO RV RO HM1 HM2 H3
    go_wp2_with fail
    refine ⟨by rfl,?_⟩
    go_wp2_with fail
    go_roundw
    case rel=>exact .inr ⟨a4,c4,by go_num,rfl,HF⟩
    case measure=>simp [intOf]
  ·go_wp2_with fail
   go_ret
   exact ⟨a',c',rfl,H2.out⟩
end
section
variable {B:Nat} {w0 w W W':World} {ss rs:List Res} {nt nm rn:Nat} {vp:Value} {vt:Rn} {l:Nt}
theorem zpy {ao:Option Addr} {cap:Nat} {r:Rq} (h:Own B w0 W (twR nt nm rn vp vt l (batR (.slice ao 1 cap) [r]::ss))) (hl:NtOk l) (hn:l.length≤900000000):
  Calls Tryz.prog 64 #[.agg (twA nt rn),.slice ao 1 cap] W fun e w'=> ∃a' c' vp' vt',e= .returned (.slice a' 1 c')∧Own B w0 w' (batR (.slice a' 1 c') [rqS l r]::twR nt nm rn vp' vt' (rqSL l r) (batR (.slice ao 1 cap) [r]::ss)):=by
 obtain ⟨i0,hi,hz0,hz1,hz2⟩:=info_parts Tryz.infoRq;obtain ⟨ao',cap',hv',hbc,-,-,-,h5⟩:=zgw (h.get 5 rfl);simp only [Value.slice.injEq] at hv';obtain ⟨rfl,-,rfl⟩:=hv';obtain ⟨b,o,rfl,hbs,hcs⟩:=h5 (by simp);have H:=zq (h.box (twO nt rn));have HL:=zq hl;have hc1:(1:Int)≤(cap:Int):=by simp at hbc;omega
 clear h hl h5 hbs hcs hbc;go_enter Tryz.func64,Tryz.ntmps64
 go_wp2_with fail
 go_loopw [5,9] (fun t i wr=>(i= .int .i64 0∧t= .slice none 0 0∧wr=W.alloc (twO nt rn))∨(∃a' c' vp' vt',i= .int .i64 1∧t= .slice a' 1 c'∧Hid (Own B w0 wr (batR (.slice a' 1 c') [rqS l r]::twR nt nm rn vp' vt' (rqSL l r) (batR (.slice (some ⟨b,o,none⟩) 1 cap) [r]::ss))))) (fun _ i _=>1-(intOf i).toNat)
 case atStart=>exact .inl ⟨rfl,rfl,rfl⟩
 case round=>
  rcases hrel with ⟨rfl,rfl,rfl⟩ | ⟨a',c',vp',vt',rfl,rfl,H2⟩
  ·go_upto_region 5 with fail
   have h3:=H.out.drew;obtain ⟨ao',cap',hv',-,-,-,-,h5⟩:=zgw (h3.get 6 rfl);simp only [Value.slice.injEq] at hv';obtain ⟨hao,-,-⟩:=hv';obtain ⟨b',o',hbo,hbs,hcs⟩:=h5 (by simp);rw [←hao] at hbo;simp only [Option.some.injEq,Addr.mk.injEq,and_true] at hbo;obtain ⟨rfl,rfl⟩:=hbo;obtain ⟨q0,q1,q2,q3,q4,q5⟩:=zb4 hcs 0 r (by simp);simp only [Nat.zero_mul,Nat.add_zero] at q0 q1 q2 q3 q4 q5;have t0:=zaa (h3.blkAt 0 rfl) 0 rfl;have t1:=zaa (h3.blkAt 0 rfl) 1 rfl;have HRQ:=zq (zwm r h3.drop HL.out (by omega));unfold rqAgg at HRQ;clear hcs h5 hbs hao h3;refine Mix.wp_text2 (by kernel_rfl) (by kernel_rfl) ?_
   go_wp2_with fail
   refine HRQ.out.mono ?_;rintro e w1 ⟨rfl,vp1,vt1,h6⟩;generalize hrs:rqS l r=r' at*;generalize hrl:rqSL l r=l' at*;have HRS:=zq hrs;have HRL:=zq hrl;clear hrs hrl;clear q0 q1 q2 q3 q4 q5 t0 t1 HRQ H;obtain ⟨client,time,kind,key,val,sl⟩:=r';have HX:=zq ((h6.row0 (E:=38) (sz:=6)).box (.cells #[.int .i64 client,.int .i64 time,.int .i64 kind,.int .i64 key,.int .i64 val,.int .i64 sl] 38 (0,0)));have HN5:=zq (heap_alloc_new w1 (.cells #[.int .i64 client,.int .i64 time,.int .i64 kind,.int .i64 key,.int .i64 val,.int .i64 sl] 38 (0,0)));clear h6
   go_wp2_with (at_builtin;refine za7 rfl (.tmp 12) (.tmp 19) 39 rfl 38 i0 (.agg #[.int .i64 0,.int .i64 0,.int .i64 0,.int .i64 0,.int .i64 0,.int .i64 0]) 6 48 Tryz.underlying39 hi hz0 hz1 hz2 rfl (by decide) HX.out 1 (.slice none 0 0) 0 [] rfl rfl w1.heap.size #[.int .i64 client,.int .i64 time,.int .i64 kind,.int .i64 key,.int .i64 val,.int .i64 sl] 38 (0,0) rfl HN5.out rfl (by simp [Value.oneCell']) (by unfold maxLen;omega) (by omega) ?_)
   intro g6 cap6 w6 h8;have HF:Hid (Own B w0 w6 (batR (.slice (some ⟨g6,0,none⟩) 1 cap6) [⟨client,time,kind,key,val,sl⟩]::twR nt nm rn vp1 vt1 l' (batR (.slice (some ⟨b,o,none⟩) 1 cap) [r]::ss))):=zq h8.drop.toRed;clear h8 HX HN5
   go_wp2_with fail
   refine ⟨by rfl,?_⟩
   go_wp2_with fail
   go_roundw
   case rel=>exact .inr ⟨_,_,vp1,vt1,by go_num,by go_num,zq (by rw [HRS.out,HRL.out];exact HF.out)⟩
   case measure=>simp [intOf]
  ·have HOR:=zq (zvi H2.out)
   go_wp2_with fail
   refine HOR.out.mono ?_;rintro e w2 ⟨a2,c2,rfl,h2⟩;have HF:=zq (h2.swap.drop);clear h2 HOR H2
   go_wp2_with fail
   go_ret
   exact ⟨a2,c2,vp',vt',rfl,HF.out⟩
theorem Tryz.mkf (fn:Fn) (first cap:Array Value) (w:World):(Instr.makeFunc fn first cap).run Tryz.prog w= .ok (.func fn first cap) w:=rfl
theorem zs9 {kind skip view inst seq:Int} {f:Nat} {ao:Option Addr} {cap:Nat} {r:Rq} (h:Own B w0 W (twR nt nm rn vp vt l (batR (.slice ao 1 cap) [r]::ss))) (hl:NtOk l) (hn:l.length≤800000000) (hf1:1≤f) (hf2:f≤4):
  Calls Tryz.prog 20 #[.agg (twA nt rn),.int .i64 kind,.int .i64 f,.int .i64 skip,.agg #[.int .i64 view,.int .i64 inst,.int .i64 seq,.slice ao 1 cap,.slice none 0 0]] W fun e w'=> ∃a1 c1 a2 c2 vp' vt',e= .returned (.agg #[.int .i64 view,.int .i64 inst,.int .i64 seq,.slice a1 1 c1,.slice a2 (2*f+1) c2])∧Own B w0 w' (redR (.slice a2 (2*f+1) c2) 2 (2*f+1) (zaf (crtP kind f skip l view inst seq r).1.vs)::batR (.slice a1 1 c1) [rqS l r]::twR nt nm rn vp' vt' (crtP kind f skip l view inst seq r).2 (batR (.slice ao 1 cap) [r]::ss)):=by
 have h1:=(((h.box (twO nt rn)).box (.cells #[.int .i64 kind] 3 (0,0))).box (ctO view inst seq (.slice ao 1 cap) (.slice none 0 0))).box (ctO 0 0 0 (.slice none 0 0) (.slice none 0 0));simp only [zav] at h1;have hmf:=Tryz.mkf;have H1:=zq h1;have HB:=zq (zpy (h1.perm ((List.perm_append_comm (l₁:=[_,_,_,_]) (l₂:=[_,_,_,_,_,_])).append_right ss)) hl (by omega));have HL1:Hid (NtOk (rqSL l r)):=zq (by
  unfold rqSL;split
  ·rename_i hw
   exact ze5 hl (rqX_ok hw)
  ·exact hl)
 have HN1:Hid ((rqSL l r).length≤900000000):=zq (by
  unfold rqSL;split
  ·have:=(zet l (100+r.client) (rqX r)).2;omega
  ·omega)
 clear h h1 hl;go_enter Tryz.func20,Tryz.ntmps20
 go_wp2_with fail
 refine HB.out.mono ?_;rintro e w1 ⟨a1,c1,vp1,vt1,rfl,h2⟩;clear HB H1;generalize W.heap.size=q at*;have h3:Own B w0 w1 (blk (q+1+1) (ctO view inst seq (.slice ao 1 cap) (.slice none 0 0))::batR (.slice a1 1 c1) [rqS l r]::twR nt nm rn vp1 vt1 (rqSL l r) (batR (.slice ao 1 cap) [r]::blk (q+1+1+1) (ctO 0 0 0 (.slice none 0 0) (.slice none 0 0))::blk (q+1) (.cells #[.int .i64 kind] 3 (0,0))::blk q (twO nt rn)::ss)):=h2.front 8 rfl rfl;have x3:=zaa (h3.blkAt 0 rfl) 3 rfl;have z3:=zab (h3.blkAt 0 rfl) 3;have h4:=Own.storeTo h3 3 (.slice a1 1 c1) (o':=ctO view inst seq (.slice a1 1 c1) (.slice none 0 0)) rfl;have h5:Own B w0 (w1.setCell ⟨q+1+1,3,none⟩ (.slice a1 1 c1)) (twR nt nm rn vp1 vt1 (rqSL l r) (blk (q+1) (.cells #[.int .i64 kind] 3 (0,0))::blk (q+1+1) (ctO view inst seq (.slice a1 1 c1) (.slice none 0 0))::batR (.slice a1 1 c1) [rqS l r]::(batR (.slice ao 1 cap) [r]::blk (q+1+1+1) (ctO 0 0 0 (.slice none 0 0) (.slice none 0 0))::blk q (twO nt rn)::ss))):=by
  have h6:=(h4.perm ((List.perm_append_comm (l₁:=[_,_]) (l₂:=[_,_,_,_,_])).append_right _));have h7:=h6.front 9 rfl rfl;have h8:=h7.perm ((List.perm_append_comm (l₁:=[_]) (l₂:=[_,_,_,_,_])).append_right _);exact h8
 have HV:=zq (zm1 (skip:=skip) h5 (fun k=>⟨by simp,by simp,by simp,by simp⟩) (fun k=>rfl) HL1.out HN1.out hf1 hf2 (zt0 (bs:=[rqS l r]) (by simp)));have t0:=zaa (h5.blkAt 10 rfl) 0 rfl;have t1:=zaa (h5.blkAt 10 rfl) 1 rfl;clear h2 h3 h4 h5
 go_wp2_with fail
 refine HV.out.mono ?_;rintro e w3 ⟨v2,vp2,vt2,rfl,h6⟩;have hcr:(crtP kind f skip l view inst seq r)=(⟨view,inst,seq,[rqS l r],(vtsGo (fun k=>(balW kind view inst seq (.slice a1 1 c1) [rqS l r] k).ms) (rqSL l r) (quoKs f (skip%(f+1)) (2*f+1))).1⟩,(vtsGo (fun k=>(balW kind view inst seq (.slice a1 1 c1) [rqS l r] k).ms) (rqSL l r) (quoKs f (skip%(f+1)) (2*f+1))).2):=rfl;have HCR:=zq hcr;clear hcr
 replace h6:Own B w0 w3 (redR v2 2 (2*f+1) (zaf (vtsGo (fun k=>(balW kind view inst seq (.slice a1 1 c1) [rqS l r] k).ms) (rqSL l r) (quoKs f (skip%(f+1)) (2*f+1))).1)::twR nt nm rn vp2 vt2 (vtsGo (fun k=>(balW kind view inst seq (.slice a1 1 c1) [rqS l r] k).ms) (rqSL l r) (quoKs f (skip%(f+1)) (2*f+1))).2 (blk (q+1) (.cells #[.int .i64 kind] 3 (0,0))::blk (q+1+1) (ctO view inst seq (.slice a1 1 c1) (.slice none 0 0))::batR (.slice a1 1 c1) [rqS l r]::(batR (.slice ao 1 cap) [r]::blk (q+1+1+1) (ctO 0 0 0 (.slice none 0 0) (.slice none 0 0))::blk q (twO nt rn)::ss))):=h6
 generalize vtsGo (fun k=>(balW kind view inst seq (.slice a1 1 c1) [rqS l r] k).ms) (rqSL l r) (quoKs f (skip%(f+1)) (2*f+1))=VG at*;obtain ⟨A,l3⟩:=VG;simp only at h6 HCR;clear HV t0 t1 x3 z3 HL1 HN1;obtain ⟨a2,c2,rfl⟩: ∃a c,v2= .slice a (2*f+1) c:=let ⟨a,c,e,_⟩:=zad (k:=0) h6 rfl;⟨a,c,e⟩;have h7:=h6.front 7 rfl rfl
 dsimp only [List.eraseIdx] at h7
 have x4:=zaa (h7.blkAt 0 rfl) 4 rfl;have z4:=zab (h7.blkAt 0 rfl) 4;have h8:=Own.storeTo h7 4 (.slice a2 (2*f+1) c2) (o':=ctO view inst seq (.slice a1 1 c1) (.slice a2 (2*f+1) c2)) rfl;have y0:=zaa (h8.blkAt 0 rfl) 0 rfl;have y1:=zaa (h8.blkAt 0 rfl) 1 rfl;have y2:=zaa (h8.blkAt 0 rfl) 2 rfl;have y3:=zaa (h8.blkAt 0 rfl) 3 rfl;have y4:=zaa (h8.blkAt 0 rfl) 4 rfl;have h9:=h8.front 10 rfl rfl
 dsimp only [List.eraseIdx] at h9
 have u0:=zaa (h9.blkAt 0 rfl) 0 rfl;have u1:=zaa (h9.blkAt 0 rfl) 1 rfl;have u2:=zaa (h9.blkAt 0 rfl) 2 rfl;have u3:=zaa (h9.blkAt 0 rfl) 3 rfl;have u4:=zaa (h9.blkAt 0 rfl) 4 rfl;have f0:=zab (h9.blkAt 0 rfl) 0;have f1:=zab (h9.blkAt 0 rfl) 1;have f2:=zab (h9.blkAt 0 rfl) 2;have f3:=zab (h9.blkAt 0 rfl) 3;have f4:=zab (h9.blkAt 0 rfl) 4;have H10:=zq (Own.five (v0:= .int .i64 view) (v1:= .int .i64 inst) (v2:= .int .i64 seq) (v3:= .slice a1 1 c1) (v4:= .slice a2 (2*f+1) c2) h9);clear h6 h7 h8 h9
 go_wp2_with fail
 generalize World.setCell _ _ _=y at*;have g0:=zaa (H10.out.blkAt 0 rfl) 0 rfl;have g1:=zaa (H10.out.blkAt 0 rfl) 1 rfl;have g2:=zaa (H10.out.blkAt 0 rfl) 2 rfl;have g3:=zaa (H10.out.blkAt 0 rfl) 3 rfl;have g4:=zaa (H10.out.blkAt 0 rfl) 4 rfl;refine bodyPost_ret (v:= .agg #[.int .i64 view,.int .i64 inst,.int .i64 seq,.slice a1 1 c1,.slice a2 (2*f+1) c2]) (by simp [results,Tryz.results20,go_sem,g0,g1,g2,g3,g4]) rfl ⟨a1,c1,a2,c2,vp2,vt2,rfl,?_⟩;rw [HCR.out];simp only;have k1:=(H10.out.drop.drop).dropAt 6 (by simp)
 dsimp only [List.eraseIdx] at k1
 have k2:=k1.dropAt 8 (by simp)
 dsimp only [List.eraseIdx] at k2
 have k3:=k2.front 6 rfl rfl
 dsimp only [List.eraseIdx] at k3
 exact k3.swap
end
section
variable {f:Nat} {id n u st:Int} {ds:List (Option Cp)} {bk:Lp} {out:List (Int×Bys)} {sp:Bool} {l:Nt}
theorem ad_ins:(newS (stdC f) id).ins.length=f+1:=by unfold newS stdC;simp
end
theorem zn0 {l L:Nt} {f:Nat} {cl:Int} {bs:Bys} {m:Ms} {sl:Int} (h:openP l f cl bs=some (m,sl)) (hp:Px l L):openP L f cl bs=some (m,sl):=by
 unfold openP at h⊢;cases h1:takeN bs 0 with
 | none=>rw [h1] at h;simp at h
 | some q=>
  obtain ⟨v,a⟩:=q;rw [h1] at h;simp only at h⊢;cases h2:zew (bs.drop a) with
  | none=>rw [h2] at h;simp at h
  | some m'=>
   rw [h2] at h;simp only at h⊢;split at h
   ·rename_i hc
    simp only [Bool.and_eq_true,decide_eq_true_eq] at hc;rw [if_pos]
    ·exact h
    ·simp only [Bool.and_eq_true,decide_eq_true_eq]
     exact ⟨hc.1,hp.mem hc.2.1,by rw [hp.find hc.2.1];exact hc.2.2⟩
   ·simp at h
structure BkOk (cl:Nat) (b:Lp):Prop where
 c:b.clients=cl
 rp:b.rp.length=cl
 st:b.st.length=64
 vs:VsOk (b.st.map Prod.snd)
def ldg1 (b:Lp) (r:Rq):Lp:=(runL b [r]).1
theorem zx0 (b:Lp) (r:Rq):runL b [r]=({(stepL b r).1 with es:=b.es++(stepL b r).2},(stepL b r).2):=by
 unfold runL;simp only;rw [zis];simp [zgi]
theorem zmr {cl:Nat} {b:Lp} (h:BkOk cl b) {r:Rq} {c:Nat} (hc:r.client=c) (hlt:c<cl) (ht:(b.rp.getD c (0,0)).1<r.time):
  runL b [r]=(⟨b.clients,b.es++[⟨r,(zbr b.st r).1⟩],(zbr b.st r).2,b.rp.set c (r.time,(zbr b.st r).1)⟩,[⟨r,(zbr b.st r).1⟩]):=by
 obtain ⟨h1,h2,h3,h4⟩:=h;obtain ⟨clients,es,st,rp⟩:=b;simp only at h1 h2 h3 h4 ht;subst h1;have hq:c<rp.length:=by omega
 have e:rp.getD c (0,0)=rp[c]:=by simp [List.getD,hq]
 rw [e] at ht;rw [zx0,zwd h2 hq hc ht]
theorem zx1 {cl:Nat} {b:Lp} (h:BkOk cl b) {r:Rq} {c:Nat} (hc:r.client=c) (hlt:c<cl) (ht: ¬(b.rp.getD c (0,0)).1<r.time):runL b [r]=(b,[]):=by
 obtain ⟨h1,h2,h3,h4⟩:=h;obtain ⟨clients,es,st,rp⟩:=b;simp only at h1 h2 h3 h4 ht;subst h1;have hq:c<rp.length:=by omega
 have e:rp.getD c (0,0)=rp[c]:=by simp [List.getD,hq]
 rw [e] at ht;rw [zx0,stepL_no h2 (.inr (.inr ⟨c,hq,hc,by omega⟩))];simp
theorem zxd {cl:Nat} {b:Lp} (h:BkOk cl b) {r:Rq} {c:Nat} (hc:r.client=c) (hlt:c<cl):BkOk cl (ldg1 b r):=by
 unfold ldg1;by_cases ht:(b.rp.getD c (0,0)).1<r.time
 ·rw [zmr h hc hlt ht]
  exact ⟨h.c,by simpa using h.rp,(zln h.st r).2.2,zm8 h.st h.vs r⟩
 ·rw [zx1 h hc hlt ht];exact h
section
variable {f:Nat} {id u st:Int} {ds:List (Option Cp)} {bk:Lp} {out:List (Int×Bys)} {sp:Bool} {l:Nt}
def zya (f:Nat) (L:Nt) (o:List (Int×Bys)):Prop:= ∀y∈o,∃m sl,openP L f 2 y.2=some (m,sl)∧m.kind=10
theorem zya.px {L L':Nt} {o:List (Int×Bys)} (h:zya f L o) (hp:Px L L'):zya f L' o:=fun y hy=>by
 obtain ⟨m,sl,h1,h2⟩:=h y hy;exact ⟨m,sl,zn0 h1 hp,h2⟩
def ldgs (rq:Nat→Rq):Lp→Nat→Nat→Lp
 | b,_,0=>b
 | b,n,k+1=>ldgs rq (ldg1 b (rq n)) (n+1) k
end
def cpL (cps:List Cp) (j:Nat):Cp:=cps.getD j noCp
def rqL (cps:List Cp) (j:Nat):Rq:=reqAt (cpL cps j).rs 0
structure CtGood (f:Nat) (l:Nt) (j:Nat) (c:Cp):Prop where
 inst:c.inst=0
 seq:c.seq=j+1
 rs:c.rs=[reqAt c.rs 0]
 cert:zbp l 5 c f 2=true
 ok:zgg f 2 c=true
 vl:c.vs.length=2*f+1
 w:certW c=true
 rc:(reqAt c.rs 0).client=((j%2:Nat):Int)
 rt:(reqAt c.rs 0).time=j+1
 rok:okReq (reqAt c.rs 0) 2=true
theorem CtGood.px {f:Nat} {l l':Nt} {j:Nat} {c:Cp} (h:CtGood f l j c) (hp:Px l l'):CtGood f l' j c:= {h with cert:=hp.certified h.cert}
def zm7 (f:Nat) (l:Nt) (cps:List Cp):Prop:= ∀j,j<cps.length→CtGood f l j (cpL cps j)
theorem zm7.px {f:Nat} {l l':Nt} {cps:List Cp} (h:zm7 f l cps) (hp:Px l l'):zm7 f l' cps:=fun j hj=>(h j hj).px hp
structure BkAd (cps:List Cp) (n:Nat) (b:Lp):Prop where
 ok:BkOk 2 b
 es:b.es.length=n
 rq: ∀j,j<n→(b.es[j]?).map En.rq=some (rqL cps j)
 rp: ∀c,c<2→(b.rp.getD c (0,0)).1≤n
theorem BkAd.step {cps:List Cp} {n:Nat} {b:Lp} (h:BkAd cps n b) (hc:(rqL cps n).client=((n%2:Nat):Int)) (ht:(rqL cps n).time=n+1):BkAd cps (n+1) (ldg1 b (rqL cps n)):=by
 have h2:n%2<2:=by omega
 have hy:=zmr h.ok hc h2 (by have:=h.rp _ h2;omega);have e:ldg1 b (rqL cps n)=⟨b.clients,b.es++[⟨rqL cps n,(zbr b.st (rqL cps n)).1⟩],(zbr b.st (rqL cps n)).2,b.rp.set (n%2) ((rqL cps n).time,(zbr b.st (rqL cps n)).1)⟩:=by unfold ldg1;rw [hy]
 refine ⟨zxd h.ok hc h2,by rw [e];simp [h.es],fun j hj=> ?_,fun c hc2=> ?_⟩
 ·rw [e]
  simp only;by_cases hj2:j<n
  ·rw [List.getElem?_append_left (by rw [h.es];exact hj2)]
   exact h.rq j hj2
  ·have:j=n:=by omega
   subst this;rw [List.getElem?_append_right (by rw [h.es];omega),h.es];simp
 ·rw [e]
  simp only;rw [List.getD_eq_getElem?_getD,List.getElem?_set];have hl:=h.ok.rp;by_cases hcc:n%2=c
  ·rw [if_pos hcc,if_pos (by omega)]
   simp only [Option.getD_some];omega
  ·rw [if_neg hcc]
   have:=h.rp c hc2;rw [List.getD_eq_getElem?_getD] at this;omega
theorem BkAd.steps {cps:List Cp} {f:Nat} {l:Nt} (hg:zm7 f l cps): ∀(k n:Nat) (b:Lp),BkAd cps n b→n+k≤cps.length→BkAd cps (n+k) (ldgs (rqL cps) b n k)
 | 0,n,b,h,_=>h
 | k+1,n,b,h,hl=>by
  have h1:=hg n (by omega);have h2:=BkAd.steps hg k (n+1) _ (h.step h1.rc h1.rt) (by omega);rw [show n+1+k=n+(k+1) by omega] at h2;exact h2
theorem crt_nok {kind:Int} {f:Nat} {skip:Int} {l:Nt} {view inst seq:Int} {r:Rq} (h:NtOk l) (hf:f≤4):NtOk (crtP kind f skip l view inst seq r).2:=by
 have h1:NtOk (rqSL l r):=by
  unfold rqSL;split
  ·rename_i hw
   exact ze5 h (rqX_ok hw)
  ·exact h
 refine zh0 h1 (fun k hk=> ?_);have hs0:0≤skip%((f:Int)+1):=Int.emod_nonneg _ (by omega);have hs1:skip%((f:Int)+1)<(f:Int)+1:=Int.emod_lt_of_pos _ (by omega);unfold quoKs at hk;simp only [List.mem_map,List.mem_range] at hk;obtain ⟨i,hi,rfl⟩:=hk;have:=zho (f:=f) hs0 (by omega) hi;show-9223372036854775808≤quoK f (skip%(f+1)) i∧quoK f (skip%(f+1)) i≤9223372036854775807;omega
end Go.Proofs.YtannckelmojkoaaGreat
namespace Go.Proofs.YtannckelmojkoaaGreat
open Go.ChangeShapes Go.WideShapes Go.ChangeAt Go.RowKit Go.Deep Go.Heap
structure Op3 where
 kind:Int
 key:Int
 val:Int
def opCells (o:Op3):List Value:=[.int .i64 o.kind,.int .i64 o.key,.int .i64 o.val]
def Opz (w:World) (v:Value) (l:List Op3):Prop:=Reads w v 3 l.length (l.flatMap opCells)
theorem Opz.upd {w w':World} {v:Value} {l:List Op3} (h:Opz w v l) (hu:Upd [] w w'):Opz w' v l:=Reads.upd (M:=[]) h hu (by simp)
section
variable {H:Type} {enc:TypeId×Value→H} {W:World} {base:Nat} {spare:Nat→Bool} {held:Bool}
end
end Go.Proofs.YtannckelmojkoaaGreat
namespace Go.Proofs.YtannckelmojkoaaGreat
open Go.RowKit Go.Heap
theorem NdIs.more {B:Nat} {w0 W:World} {x:Np} {s:Ns} {l l1 l2:Nt} {ss:List Res} {rn:Nat} {vp:Value} {vt:Rn} (h:NdIs B w0 W x s l (rnR rn vp vt l1 ss)) (hl:Px l1 l2):NdIs B w0 W x s l (rnR rn vp vt l2 ss):=by
 obtain ⟨t,rfl⟩:=hl;exact h.onSide (fun r hr=>rn_more (ss:=ss++[r]) hr (fun x hx=>List.mem_append_left _ hx))
section
variable {B:Nat} {w0 W:World} {x:Np} {l:Nt} {ss:List Res} {f:Nat} {id n u st:Int} {ds:List (Option Cp)} {bk:Lp} {o:List (Int×Bys)} {sp:Bool}
end
theorem nd_upd {W w:World} {x:Np} {s:Ns} {l:Nt} {ss:List Res} (h:NdIs W.heap.size W w x s l ss):Upd [] W w:=by
 obtain ⟨r,hs,-⟩:=h.side;exact Upd.of_below hs.below
abbrev stdO (f:Nat):Obj:= .cells (cfA (stdC f)) 30 (0,0)
theorem zr6 {B:Nat} {w0 W:World} {rs:List Res} (h:Own B w0 W rs) (r:Rq):Own B w0 (W.alloc (rqO r)) (batR (.slice (some ⟨W.heap.size,0,none⟩) 1 1) [r]::rs):=by
 have h1:=h.alloc (rqO r);refine h1.red (v:= .slice (some ⟨W.heap.size,0,none⟩) 1 1) (sz:=6) (n:=1) (xs:=zak [r]) ⟨_,_,rfl,by omega,by unfold maxLen;omega,rfl,(fun e=>by cases e),fun _=>⟨W.heap.size,0,rfl,by simp,fun j hj=> ?_⟩⟩ (fun k hk hm=> ?_)
 ·rw [Nat.zero_add,zac (heap_alloc_new W (rqO r))]
  simp [zak,zbh]
 ·simp [blkIf,blkOf] at hk
  subst hk;exact h.fresh (Nat.le_refl _) hm
section
variable {B:Nat} {w0 W:World} {ss:List Res} {y:Lg}
end
def cmtN (s:Ns) (n:Nat):Nat:=(List.range n).countP fun (j:Nat)=>(zbl (insAt s 0) ((j:Int)+1)).isSome
section
variable {B:Nat} {w0 W:World} {ss:List Res} {x:Np} {s:Ns} {l:Nt}
end
structure BkPs (n:Nat) (last:Int) (b:Lp):Prop where
 ok:BkOk 2 b
 es:b.es.length=n
 rp:(b.rp.getD 0 (0,0)).1=last
 st:(b.st.getD 1 (false,0)).2=n
 has:(b.st.getD 1 (false,0)).1=true∨n=0
def addR (k sl:Int):Rq:=⟨0,k,3,1,1,sl⟩
theorem BkPs.get {n:Nat} {last:Int} {b:Lp} (h:BkPs n last b):(if (b.st.getD 1 (false,0)).1 then (b.st.getD 1 (false,0)).2 else 0)=n:=by
 rcases h.has with h1 | h1
 ·rw [h1,if_pos rfl,h.st]
 ·have:=h.st
  split<;>omega
theorem zp4 {st:List (Bool×Int)} {k sl:Int} {n:Nat} (h:(st.getD 1 (false,0)).2=n) (hn:n≤1000):zbr st (addR k sl)=((n:Int)+1,st.set 1 (true,(n:Int)+1)):=by
 unfold zbr addR;simp only [show (1:Int).toNat=1 from rfl,h];rw [if_neg (by omega),if_neg (by omega),if_neg (by omega),if_pos trivial,if_neg (by omega)]
theorem BkPs.step {n:Nat} {last k sl:Int} {b:Lp} (h:BkPs n last b) (hn:n≤1000):BkPs (if last<k then n+1 else n) (if last<k then k else last) (ldg1 b (addR k sl)):=by
 have hrp:=h.ok.rp;have hst:=h.ok.st;by_cases hk:last<k
 ·rw [if_pos hk,if_pos hk]
  have hy:=zmr (r:=addR k sl) (c:=0) h.ok rfl (by omega) (by rw [h.rp];exact hk);have e:ldg1 b (addR k sl)=⟨b.clients,b.es++[⟨addR k sl,(zbr b.st (addR k sl)).1⟩],(zbr b.st (addR k sl)).2,b.rp.set 0 (k,(zbr b.st (addR k sl)).1)⟩:=by unfold ldg1;rw [hy];rfl
  have ea:=zp4 (k:=k) (sl:=sl) h.st hn;have hok:=zxd (r:=addR k sl) (c:=0) h.ok rfl (by omega);rw [e] at hok⊢;rw [ea] at hok⊢;refine ⟨hok,by simp [h.es],?_,?_,.inl ?_⟩
  ·simp only [List.getD_eq_getElem?_getD,List.getElem?_set]
   rw [if_pos trivial,if_pos (by omega)];rfl
  ·simp only [List.getD_eq_getElem?_getD,List.getElem?_set]
   rw [if_pos trivial,if_pos (by omega)];simp
  ·simp only [List.getD_eq_getElem?_getD,List.getElem?_set]
   rw [if_pos trivial,if_pos (by omega)];rfl
 ·rw [if_neg hk,if_neg hk]
  have hy:=zx1 (r:=addR k sl) (c:=0) h.ok rfl (by omega) (by rw [h.rp];exact hk);have e:ldg1 b (addR k sl)=b:=by unfold ldg1;rw [hy]
  rw [e];exact h
end Go.Proofs.YtannckelmojkoaaGreat
