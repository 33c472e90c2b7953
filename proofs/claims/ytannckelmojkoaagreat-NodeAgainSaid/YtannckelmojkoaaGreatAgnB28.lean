/- Parts of the proof, one behind the other. -/
import Derived.Test.YtannckelmojkoaaGreatAgnB27
import Derived.Deep.LoopGhost
import Derived.Laws.ComplexArith
import Derived.Great.Walk
set_option maxHeartbeats 32000000
set_option maxRecDepth 100000
set_option linter.unusedVariables false
set_option linter.unusedSimpArgs false
namespace Go.Proofs.YtannckelmojkoaaGreat
open Go.RowKit Go.Heap
section
variable {B:Nat} {w0 w W W':World} {ss rs:List Res} {x:Np} {s s':Ns} {l l':Nt}
theorem zyq (h:NdIs B w0 W x s l ss) (k:Nat) (hk:k<s.c.f+1) {i:Nat} (hi:x.is[k]?=some i):Calls Tryz.prog 156 #[ptrV i] W fun e w'=>e= .returned (.int .i64 (doneI (insAt s k)))∧W=w':=by
 have hk':k<s.ins.length:=by rw [h.ok.ins];exact hk
 obtain ⟨j,rr,hj,ha,-⟩:=h.ask k hk';rw [hi] at hj;cases hj
 rw [zay s k hk'];exact zx5 ha
theorem zmr (h:NdIs B w0 W x s l ss) (k:Nat) (hk:k<s.c.f+1) {i:Nat} (hi:x.is[k]?=some i) (seq:Int):Calls Tryz.prog 110 #[ptrV i,.int .i64 seq] W fun e w'=> ∃c:Ct,e= .returned (.tuple #[ctAgg c,.bool (zai (insAt s k) seq).isSome])∧c.cp=(zai (insAt s k) seq).getD noCp∧(∃a1 k1 a2 k2,c.vb= .slice a1 c.rs.length k1∧c.vv= .slice a2 c.vs.length k2)∧
  NdIs B w0 w' x s l (batR c.vb c.rs::redR c.vv 2 c.vs.length (zan c.vs)::ss):=by
 have hk':k<s.ins.length:=by rw [h.ok.ins];exact hk
 obtain ⟨j,rr,hj,ha,g⟩:=h.ask k hk';rw [hi] at hj;cases hj
 rw [zay s k hk'];obtain ⟨y,h1,h2,h3⟩:=ha;rw [←h2];refine (zec h3 h1 seq).mono ?_;rintro e w' ⟨c,he,hc,hn,hb,hv,n1,n2,x',e1,e2,e3⟩;obtain ⟨b1,b2,b3,-⟩:=hb;obtain ⟨v1,v2,v3,-⟩:=hv;exact ⟨c,he,hc,⟨_,_,_,_,b3,v3⟩,g w' (_::_::ss) ⟨x',e1,e2.trans h2,e3.swap.rot⟩⟩
end
theorem zz5 {p:NSt} (ht:p.1.tab=[]) (e:En): ∃o l',zh1 p e=({p.1 with out:=p.1.out++o},l')∧o.length≤1∧l'.length≤p.2.length+1:=by
 obtain ⟨s,l⟩:=p;simp only at ht;have hl:=zgp (l:=l) (m:=repM s.id e.rq.client e.rq.time e.res);unfold zh1;simp only;rw [zoq];generalize sealP l (repM s.id e.rq.client e.rq.time e.res)=sp at*;obtain ⟨o,l2⟩:=sp;have hd: ∀c t,zua ([]:List Td) c t=[]:=fun _ _=>rfl;cases o with
 | none=>exact ⟨[],l2,by simp only [List.append_nil];rw [ht,hd,←ht],by simp,hl⟩
 | some b=>exact ⟨[_],l2,by simp only;rw [ht,hd,←ht],by simp,hl⟩
theorem zpn {p:NSt} (ht:p.1.tab=[]): ∀es:List En,∃o l',es.foldl zh1 p=({p.1 with out:=p.1.out++o},l')∧o.length≤es.length∧l'.length≤p.2.length+es.length:=by
 intro es
 induction es generalizing p with
 | nil=>exact ⟨[],p.2,by simp,by simp,by simp⟩
 | cons e es ih=>
  obtain ⟨o,l',h1,h2,h3⟩:=zz5 ht e;obtain ⟨o2,l2,k1,k2,k3⟩:=ih (p:=zh1 p e) (by rw [h1];exact ht);rw [h1] at k1 k3;simp only at k1 k3;refine ⟨o++o2,l2,?_,by rw [List.length_append,List.length_cons];omega,by rw [List.length_cons];omega⟩;rw [List.foldl_cons,h1,k1,List.append_assoc]
theorem zld {n:Nat} {p:NSt} (h:p.1.run<doneI (insAt p.1 0)):runGo (n+1) p=runGo n (zhs p):=by
 conv=>lhs;unfold runGo
 rw [if_pos h]
abbrev runC (s:Ns):Cp:=(zai (insAt s 0) (s.run+1)).getD noCp
theorem zos (s:Ns) (l:Nt):zhs (s,l)=(runL s.bk (runC s).rs).2.foldl zh1 ({s with run:=s.run+1,bk:=(runL s.bk (runC s).rs).1},l):=by
 unfold zhs;rfl
section
variable {B:Nat} {w0 w W W':World} {ss rs:List Res} {x:Np} {s s':Ns} {l l':Nt}
theorem NdIs.tbAt (h:NdIs B w0 W x s l ss): ∃v,TbAt W x.tb s.c.f s.c.cl v s.tab:=by
 obtain ⟨v,rr,cc,d,-⟩:=h.lens 2 (by omega) (by omega);have hok:=h.ok;have d1:Own B w0 W (blk x.tb (tabOb s.c.f s.c.cl v.tv)::tdR v.tv s.tab::(ss++rr)):=Own.open d;refine ⟨v.tv,d1.blk_out,owns_reads (zal (d1.get 1 rfl)),fun t htm=> ?_⟩;have:=(hok.tab.c t htm).2.2.1;unfold tdC zas;simp [this]
end
structure RunSt (s0:Ns) (l0:Nt) (m:Nat) (p:NSt):Prop where
 go:runGo 16 (s0,l0)=runGo m p
 fuel:16≤(m:Int)+p.1.run
 tab:p.1.tab=[]
 ln:(p.2.length:Int)≤800000000+4*p.1.run
 on:(p.1.out.length:Int)≤800000000+4*p.1.run
 c:p.1.c=s0.c
theorem zqb (s:Ns) (l:Nt) (ht:s.tab=[]): ∃o l',zhs (s,l)=({s with run:=s.run+1,bk:=(runL s.bk (runC s).rs).1,out:=s.out++o},l')∧o.length≤(runC s).rs.length∧l'.length≤l.length+(runC s).rs.length:=by
 rw [zos];obtain ⟨o,l',h1,h2,h3⟩:=zpn (p:=({s with run:=s.run+1,bk:=(runL s.bk (runC s).rs).1},l)) ht (runL s.bk (runC s).rs).2;have h4:(runL s.bk (runC s).rs).2.length≤(runC s).rs.length:=zlk _ _;exact ⟨o,l',h1,by omega,by simp only at h3;omega⟩
theorem RunSt.step {s0 s:Ns} {l0 l:Nt} {m:Nat} (h:RunSt s0 l0 m (s,l)) (h0:s.run<doneI (insAt s 0)) (h1:s.run+1≤16) (hb:(runC s).rs.length≤4): ∃m',m=m'+1∧RunSt s0 l0 m' (zhs (s,l)):=by
 obtain ⟨g1,g2,g3,g4,g5,g6⟩:=h;simp only at g2 g3 g4 g5 g6;obtain ⟨n,rfl⟩: ∃n,m=n+1:=⟨m-1,by omega⟩;obtain ⟨o,l',e1,e2,e3⟩:=zqb s l g3;refine ⟨n,rfl,by rw [g1,zld h0],?_,?_,?_,?_,?_⟩
 ·rw [e1];simp only;omega
 ·rw [e1];exact g3
 ·rw [e1];simp only;omega
 ·rw [e1];simp only [List.length_append];omega
 ·rw [e1];exact g6
section
variable {B:Nat} {w0 w W W':World} {ss rs:List Res} {x:Np} {s s':Ns} {l l':Nt}
theorem NdIs.putStop (h:NdIs B w0 W x s l ss) (v:Bool):NdIs B w0 (W.setCell ⟨x.p,33,none⟩ (.bool v)) x {s with stop:=v} l ss:=h.put 33 _ (fun _=>rfl) {h.ok with} (fun _ c=> {c with}) (fun _=>rfl)
end
section
variable {B:Nat} {w0 w W W':World} {ss rs:List Res} {nt nm rn:Nat} {vp:Value} {vt:Rn} {l:Nt}
end
def Px (l l':Nt):Prop:= ∃t,l'=l++t
theorem Px.refl (l:Nt):Px l l:=⟨[],by simp⟩
theorem Px.trans {a b c:Nt} (h:Px a b) (g:Px b c):Px a c:=by
 obtain ⟨t,rfl⟩:=h;obtain ⟨u,rfl⟩:=g;exact ⟨t++u,by rw [List.append_assoc]⟩
theorem zy6 (l:Nt) (p:Int) (b:Bys):Px l (sealL l p b):=by
 unfold sealL;split
 ·exact .refl l
 ·exact ⟨_,rfl⟩
theorem Px.mem {l l':Nt} (h:Px l l') {x:Int×Bys} (hx:x∈l):x∈l':=by
 obtain ⟨t,rfl⟩:=h;exact List.mem_append_left _ hx
theorem Px.sealN {l l':Nt} (h:Px l l') {p:Int} {b:Bys} (hx:(p,b)∈l):sealN l' p b=sealN l p b:=by
 obtain ⟨t,rfl⟩:=h;unfold Go.Proofs.YtannckelmojkoaaGreat.sealN;rw [List.idxOf_append,if_pos hx]
theorem Px.find {l l':Nt} (h:Px l l') {p:Int} {b:Bys} (hx:(p,b)∈l):findN l' p b=findN l p b:=by
 unfold findN;rw [if_pos hx,if_pos (h.mem hx),h.sealN hx]
theorem Px.len {l l':Nt} (h:Px l l'):l.length≤l'.length:=by
 obtain ⟨t,rfl⟩:=h;simp
theorem Px.sealed {l l':Nt} (h:Px l l') {m:Ms} {sl:Int} (hs:zov l m sl=true):zov l' m sl=true:=by
 unfold zov at hs⊢;cases hb:bodyP m with
 | none=>rw [hb] at hs;simp at hs
 | some b=>
  rw [hb] at hs;simp only [Bool.and_eq_true,decide_eq_true_eq] at hs⊢;exact ⟨h.mem hs.1,by rw [h.find hs.1];exact hs.2⟩
theorem Px.rqSealed {l l':Nt} (h:Px l l') {cl:Int} {r:Rq} (hs:rqSealed l cl r=true):rqSealed l' cl r=true:=by
 unfold Go.Proofs.YtannckelmojkoaaGreat.rqSealed at hs⊢;simp only [Bool.and_eq_true,decide_eq_true_eq] at hs⊢;exact ⟨hs.1,h.mem hs.2.1,by rw [h.find hs.2.1];exact hs.2.2⟩
theorem znn {n:Nat} {p q:Nat→Bool} (h:allR n p=true) (hq: ∀k,k<n→p k=true→q k=true):allR n q=true:=zc7 (fun k hk=>hq k hk (allR_at h k hk))
theorem Px.batch {l l':Nt} (h:Px l l') {most cl:Int} {rs:List Rq} (hs:zd3 l most cl rs=true):zd3 l' most cl rs=true:=by
 unfold zd3 at hs⊢;simp only [Bool.and_eq_true] at hs⊢;refine ⟨hs.1,znn hs.2 (fun k _ hk=> ?_)⟩;unfold ze4 at hk⊢;rw [Bool.and_eq_true] at hk⊢;exact ⟨h.rqSealed hk.1,hk.2⟩
theorem Px.voted {l l':Nt} (h:Px l l') {kind:Int} {c:Cp} {f:Nat} (hs:votedP l kind c f=true):votedP l' kind c f=true:=by
 unfold votedP at hs⊢;rw [Bool.and_eq_true] at hs⊢;exact ⟨hs.1,znn hs.2 (fun k _ hk=>h.sealed hk)⟩
def crtM (kind view inst seq:Int) (rs:List Rq) (k:Int):Ms:=⟨kind,k,view,inst,seq,0,rs,[],[],[]⟩
theorem zox (n:Int):(sgnB n).length≤6:=by have:=(zg0 5 (zigN n)).2;omega
theorem rq_len (r:Rq):(reqB r).length≤36:=by
 have a:=zcv r.client;have b:=zcv r.time;have c:=zcv r.kind;have d:=zox r.key;have e:=zox r.val;have g:=zcv r.sl;unfold reqB;simp only [List.length_append];omega
theorem zhb {n:Int} (h0:0≤n) (h1:n≤1000000000):numOk n=true:=by unfold numOk;simp;omega
structure RqGood (cl:Int) (r:Rq):Prop where
 ok:okReq r cl=true
 cl4:cl≤4
theorem RqGood.w {cl:Int} {r:Rq} (h:RqGood cl r):reqW r=true:=by
 have h1:=h.ok;have h2:=h.cl4;unfold okReq inW zc2 at h1;unfold reqW numOk sgnOk;simp only [Bool.and_eq_true,Bool.or_eq_true,decide_eq_true_eq] at h1⊢;omega
theorem zyy (r:Rq):(listB reqB [r]).length≤42:=by
 have:=rq_len r;have:=zcv ((([r]:List Rq).length:Nat):Int);unfold listB;simp only [List.length_append,List.flatMap_cons,List.flatMap_nil,List.append_nil];omega
theorem zvg {kind view inst seq k:Int} {r:Rq} (hr:reqW r=true) (h1:0≤kind) (h2:kind≤100) (v0:0≤view) (v1:view≤100) (i0:0≤inst) (i1:inst≤100) (s0:0≤seq) (s1:seq≤100) (k0:0≤k) (k1:k≤100):(bodyP (crtM kind view inst seq [r] k)).isSome=true:=by
 have a:=zhb h1 (by omega);have b:=zhb v0 (by omega);have c:=zhb i0 (by omega);have d:=zhb s0 (by omega);have e:=zhb k0 (by omega);have g:sgnOk 0=true:=by decide
 have w:msW (crtM kind view inst seq [r] k)=true:=by
  unfold msW crtM;simp only [a,b,c,d,e,g,listW,hr,List.all_cons,List.all_nil,List.length_cons,List.length_nil];rfl
 have n1:=zcv kind;have n2:=zcv view;have n3:=zcv inst;have n4:=zcv seq;have n5:=zcv k;have n6:=zox 0;have n7:=zyy r;have q1:(listB vtB ([]:Vs)).length=1:=by decide
 have q2:(listB certB ([]:List Cp)).length=1:=by decide
 have q3:(listB partB ([]:List Pa)).length=1:=by decide
 have hlen:(msB (crtM kind view inst seq [r] k)).length≤65530:=by
  unfold msB crtM;simp only [List.length_append];rw [q1,q2,q3];omega
 unfold bodyP;rw [w,if_pos (by simp;omega)];rfl
theorem rqS_ok {cl:Int} {l:Nt} {r:Rq} (h:RqGood cl r) (hn:l.length≤1000000000):RqGood cl (rqS l r)∧rqSealed (rqSL l r) cl (rqS l r)=true:=by
 have hw:reqW {r with sl:=0}=true:=(zs1 h.ok h.cl4).1;have h1:=h.ok;have hs:=zou l (100+r.client) (rqX r);have e1:rqS l r= {r with sl:=sealN l (100+r.client) (rqX r)}:=by unfold rqS;rw [if_pos hw]
 have e2:rqSL l r=sealL l (100+r.client) (rqX r):=by unfold rqSL;rw [if_pos hw]
 have ex:rqX r=rqB0 r:=by unfold rqX;rw [if_pos hw]
 have hok:okReq (rqS l r) cl=true:=by
  rw [e1];unfold okReq inW zc2 at h1⊢;simp only [Bool.and_eq_true,Bool.or_eq_true,decide_eq_true_eq] at h1⊢;refine ⟨⟨⟨h1.1.1.1,?_⟩,h1.1.2⟩,h1.2⟩;omega
 refine ⟨⟨hok,h.cl4⟩,?_⟩;unfold rqSealed;rw [hok,e2];have e3:rqB0 (rqS l r)=rqX r:=by rw [e1,ex];rfl
 have e4:(rqS l r).client=r.client:=by rw [e1]
 have e5:(rqS l r).sl=sealN l (100+r.client) (rqX r):=by rw [e1]
 rw [e3,e4,e5,Bool.true_and,Bool.and_eq_true,decide_eq_true_eq,beq_iff_eq];exact ⟨zfa _ _ _,zg1 _ _ _⟩
section
variable {B:Nat} {w0 w W W':World} {ss rs:List Res} {nt nm rn:Nat} {vp:Value} {vt:Rn} {l:Nt}
abbrev balW (kind view inst seq:Int) (vb:Value) (bs:List Rq) (k:Int):Mm:=⟨kind,k,view,inst,seq,0,vb,bs,.slice none 0 0,[],.slice none 0 0,[],.slice none 0 0,[]⟩
end
section
variable {B:Nat} {w0 W W':World} {ss rs:List Res} {x:Ins}
end
section
variable {B:Nat} {w0 w W W':World} {ss rs:List Res} {x:Np} {s s':Ns} {l l':Nt}
end
section
variable {B:Nat} {w0 w W W':World} {ss rs:List Res} {x:Np} {s s':Ns} {l l':Nt}
end
section
variable {B:Nat} {w0 w W W':World} {ss rs:List Res} {nt nm rn:Nat} {vp:Value} {vt:Rn} {l:Nt}
end
section
variable {B:Nat} {w0 w W W':World} {ss rs:List Res} {nt nm rn:Nat} {vp:Value} {vt:Rn} {l:Nt}
end
abbrev pfX (fm:Int) (c:Ct) (v:Value):Mm:=⟨9,fm,0,0,0,0,.slice none 0 0,[],.slice none 0 0,[],v,[c],.slice none 0 0,[]⟩
section
variable {B:Nat} {w0 w W W':World} {ss rs:List Res} {x:Np} {s s':Ns} {l l':Nt} {rn:Nat} {vp:Value} {vt:Rn}
end
section
variable {f:Nat} {id n u st:Int} {ds:List (Option Cp)} {bk:Lp} {out:List (Int×Bys)} {sp:Bool} {l:Nt}
theorem ad_ins:(newS (stdC f) id).ins.length=f+1:=by unfold newS stdC;simp
end
structure BkOk (cl:Nat) (b:Lp):Prop where
 c:b.clients=cl
 rp:b.rp.length=cl
 st:b.st.length=64
 vs:VsOk (b.st.map Prod.snd)
def ldg1 (b:Lp) (r:Rq):Lp:=(runL b [r]).1
theorem zy8 (b:Lp) (r:Rq):runL b [r]=({(stepL b r).1 with es:=b.es++(stepL b r).2},(stepL b r).2):=by
 unfold runL;simp only;rw [ziw];simp [zgf]
theorem zm7 {cl:Nat} {b:Lp} (h:BkOk cl b) {r:Rq} {c:Nat} (hc:r.client=c) (hlt:c<cl) (ht:(b.rp.getD c (0,0)).1<r.time):
  runL b [r]=(⟨b.clients,b.es++[⟨r,(zbm b.st r).1⟩],(zbm b.st r).2,b.rp.set c (r.time,(zbm b.st r).1)⟩,[⟨r,(zbm b.st r).1⟩]):=by
 obtain ⟨h1,h2,h3,h4⟩:=h;obtain ⟨clients,es,st,rp⟩:=b;simp only at h1 h2 h3 h4 ht;subst h1;have hq:c<rp.length:=by omega
 have e:rp.getD c (0,0)=rp[c]:=by simp [List.getD,hq]
 rw [e] at ht;rw [zy8,zxj h2 hq hc ht]
theorem zy9 {cl:Nat} {b:Lp} (h:BkOk cl b) {r:Rq} {c:Nat} (hc:r.client=c) (hlt:c<cl) (ht: ¬(b.rp.getD c (0,0)).1<r.time):runL b [r]=(b,[]):=by
 obtain ⟨h1,h2,h3,h4⟩:=h;obtain ⟨clients,es,st,rp⟩:=b;simp only at h1 h2 h3 h4 ht;subst h1;have hq:c<rp.length:=by omega
 have e:rp.getD c (0,0)=rp[c]:=by simp [List.getD,hq]
 rw [e] at ht;rw [zy8,stepL_no h2 (.inr (.inr ⟨c,hq,hc,by omega⟩))];simp
theorem zyn {cl:Nat} {b:Lp} (h:BkOk cl b) {r:Rq} {c:Nat} (hc:r.client=c) (hlt:c<cl):BkOk cl (ldg1 b r):=by
 unfold ldg1;by_cases ht:(b.rp.getD c (0,0)).1<r.time
 ·rw [zm7 h hc hlt ht]
  exact ⟨h.c,by simpa using h.rp,(zl8 h.st r).2.2,zno h.st h.vs r⟩
 ·rw [zy9 h hc hlt ht];exact h
section
variable {f:Nat} {id u st:Int} {ds:List (Option Cp)} {bk:Lp} {out:List (Int×Bys)} {sp:Bool} {l:Nt}
end
section
variable {f:Nat} {id u st fm:Int} {ds:List (Option Cp)} {bk:Lp} {out:List (Int×Bys)} {l:Nt}
end
def cpL (cps:List Cp) (j:Nat):Cp:=cps.getD j noCp
def rqL (cps:List Cp) (j:Nat):Rq:=reqAt (cpL cps j).rs 0
structure BkAd (cps:List Cp) (n:Nat) (b:Lp):Prop where
 ok:BkOk 2 b
 es:b.es.length=n
 rq: ∀j,j<n→(b.es[j]?).map En.rq=some (rqL cps j)
 rp: ∀c,c<2→(b.rp.getD c (0,0)).1≤n
theorem BkAd.step {cps:List Cp} {n:Nat} {b:Lp} (h:BkAd cps n b) (hc:(rqL cps n).client=((n%2:Nat):Int)) (ht:(rqL cps n).time=n+1):BkAd cps (n+1) (ldg1 b (rqL cps n)):=by
 have h2:n%2<2:=by omega
 have hy:=zm7 h.ok hc h2 (by have:=h.rp _ h2;omega);have e:ldg1 b (rqL cps n)=⟨b.clients,b.es++[⟨rqL cps n,(zbm b.st (rqL cps n)).1⟩],(zbm b.st (rqL cps n)).2,b.rp.set (n%2) ((rqL cps n).time,(zbm b.st (rqL cps n)).1)⟩:=by unfold ldg1;rw [hy]
 refine ⟨zyn h.ok hc h2,by rw [e];simp [h.es],fun j hj=> ?_,fun c hc2=> ?_⟩
 ·rw [e]
  simp only;by_cases hj2:j<n
  ·rw [List.getElem?_append_left (by rw [h.es];exact hj2)]
   exact h.rq j hj2
  ·have:j=n:=by omega
   subst this;rw [List.getElem?_append_right (by rw [h.es];omega),h.es];simp
 ·rw [e]
  simp only;rw [List.getD_eq_getElem?_getD,List.getElem?_set];have hl:=h.ok.rp;by_cases hcc:n%2=c
  ·rw [if_pos hcc,if_pos (by omega)]
   simp only [Option.getD_some];omega
  ·rw [if_neg hcc]
   have:=h.rp c hc2;rw [List.getD_eq_getElem?_getD] at this;omega
end Go.Proofs.YtannckelmojkoaaGreat
namespace Go.Proofs.YtannckelmojkoaaGreat
open Go.ChangeShapes Go.WideShapes Go.ChangeAt Go.RowKit Go.Deep Go.Heap
structure Op3 where
 kind:Int
 key:Int
 val:Int
def opCells (o:Op3):List Value:=[.int .i64 o.kind,.int .i64 o.key,.int .i64 o.val]
def Opz (w:World) (v:Value) (l:List Op3):Prop:=Reads w v 3 l.length (l.flatMap opCells)
theorem Opz.upd {w w':World} {v:Value} {l:List Op3} (h:Opz w v l) (hu:Upd [] w w'):Opz w' v l:=Reads.upd (M:=[]) h hu (by simp)
section
variable {H:Type} {enc:TypeId×Value→H} {W:World} {base:Nat} {spare:Nat→Bool} {held:Bool}
end
end Go.Proofs.YtannckelmojkoaaGreat
namespace Go.Proofs.YtannckelmojkoaaGreat
open Go.RowKit Go.Heap
section
variable {B:Nat} {w0 W W':World} {ss:List Res} {x:Lg}
end
section
variable {B:Nat} {w0 w W W':World} {ss rs:List Res} {x:Np} {s s':Ns} {l l':Nt}
end
theorem own_pf {B:Nat} {w0 W:World} {rs:List Res} {cts:List Ct} {c:Ct} (h:Own B w0 W rs) (fm:Int) (k:Nat) (e:rs[k]?=some (ctsR cts)) (hc:c∈cts):Own B w0 (W.alloc (ctO c.view c.inst c.seq c.vb c.vv)) (mmR (pfX fm c (.slice (some ⟨W.heap.size,0,none⟩) 1 1)) rs):=by
 have h1:=zb3 2 (zb3 6 h);have h2:Own B w0 W (ctsR [c]::_):=h1.mkCts (fun c' hc'=>by
  rw [List.mem_singleton] at hc';subst hc';exact cts_fr h1 (k+2) (by simpa using e) c' hc)
 have h3:=h2.alloc (ctO c.view c.inst c.seq c.vb c.vv);have h4:Own B w0 (W.alloc (ctO c.view c.inst c.seq c.vb c.vv)) (redR (.slice (some ⟨W.heap.size,0,none⟩) 1 1) 5 1 ([c].flatMap zar)::_):=h3.red ⟨_,_,rfl,by omega,by unfold maxLen;omega,rfl,(fun e=>by cases e),fun _=>⟨W.heap.size,0,rfl,by simp,fun j hj=>by
  rw [Nat.zero_add,zab (heap_alloc_new W (ctO c.view c.inst c.seq c.vb c.vv))];simp [zar]⟩⟩ (fun k hk hm=>by
  simp [blkIf,blkOf] at hk;subst hk;exact h2.fresh (Nat.le_refl _) hm)
 have h5:Own B w0 _ (ptsR []::_):=h4.mkPts (by simp);exact zb3 4 h5
theorem NdIs.prf {B:Nat} {w0 W:World} {x:Np} {s:Ns} {l:Nt} {ss:List Res} {cts:List Ct} {c:Ct} (h:NdIs B w0 W x s l ss) (fm:Int) (k:Nat) (e:ss[k]?=some (ctsR cts)) (hc:c∈cts):NdIs B w0 (W.alloc (ctO c.view c.inst c.seq c.vb c.vv)) x s l (mmR (pfX fm c (.slice (some ⟨W.heap.size,0,none⟩) 1 1)) ss):=by
 obtain ⟨r,hs,hk⟩:=h.side;exact hk _ (mmR _ ss) (own_pf hs fm k (by rw [List.getElem?_append_left (List.getElem?_eq_some_iff.1 e).1];exact e) hc)
theorem NdIs.more {B:Nat} {w0 W:World} {x:Np} {s:Ns} {l l1 l2:Nt} {ss:List Res} {rn:Nat} {vp:Value} {vt:Rn} (h:NdIs B w0 W x s l (rnR rn vp vt l1 ss)) (hl:Px l1 l2):NdIs B w0 W x s l (rnR rn vp vt l2 ss):=by
 obtain ⟨t,rfl⟩:=hl;exact h.onSide (fun r hr=>rn_more (ss:=ss++[r]) hr (fun x hx=>List.mem_append_left _ hx))
section
variable {B:Nat} {w0 W:World} {x:Np} {l:Nt} {ss:List Res} {f:Nat} {id n u st:Int} {ds:List (Option Cp)} {bk:Lp} {o:List (Int×Bys)} {sp:Bool}
end
theorem nd_upd {W w:World} {x:Np} {s:Ns} {l:Nt} {ss:List Res} (h:NdIs W.heap.size W w x s l ss):Upd [] W w:=by
 obtain ⟨r,hs,-⟩:=h.side;exact Upd.of_below hs.below
abbrev stdO (f:Nat):Obj:= .cells (cfA (stdC f)) 30 (0,0)
section
variable {B:Nat} {w0 W:World} {ss:List Res} {y:Lg}
end
def cmtN (s:Ns) (n:Nat):Nat:=(List.range n).countP fun (j:Nat)=>(zai (insAt s 0) ((j:Int)+1)).isSome
section
variable {B:Nat} {w0 W:World} {ss:List Res} {x:Np} {s:Ns} {l:Nt}
end
structure BkPs (n:Nat) (last:Int) (b:Lp):Prop where
 ok:BkOk 2 b
 es:b.es.length=n
 rp:(b.rp.getD 0 (0,0)).1=last
 st:(b.st.getD 1 (false,0)).2=n
 has:(b.st.getD 1 (false,0)).1=true∨n=0
def addR (k sl:Int):Rq:=⟨0,k,3,1,1,sl⟩
theorem BkPs.get {n:Nat} {last:Int} {b:Lp} (h:BkPs n last b):(if (b.st.getD 1 (false,0)).1 then (b.st.getD 1 (false,0)).2 else 0)=n:=by
 rcases h.has with h1 | h1
 ·rw [h1,if_pos rfl,h.st]
 ·have:=h.st
  split<;>omega
theorem zqz {st:List (Bool×Int)} {k sl:Int} {n:Nat} (h:(st.getD 1 (false,0)).2=n) (hn:n≤1000):zbm st (addR k sl)=((n:Int)+1,st.set 1 (true,(n:Int)+1)):=by
 unfold zbm addR;simp only [show (1:Int).toNat=1 from rfl,h];rw [if_neg (by omega),if_neg (by omega),if_neg (by omega),if_pos trivial,if_neg (by omega)]
theorem BkPs.step {n:Nat} {last k sl:Int} {b:Lp} (h:BkPs n last b) (hn:n≤1000):BkPs (if last<k then n+1 else n) (if last<k then k else last) (ldg1 b (addR k sl)):=by
 have hrp:=h.ok.rp;have hst:=h.ok.st;by_cases hk:last<k
 ·rw [if_pos hk,if_pos hk]
  have hy:=zm7 (r:=addR k sl) (c:=0) h.ok rfl (by omega) (by rw [h.rp];exact hk);have e:ldg1 b (addR k sl)=⟨b.clients,b.es++[⟨addR k sl,(zbm b.st (addR k sl)).1⟩],(zbm b.st (addR k sl)).2,b.rp.set 0 (k,(zbm b.st (addR k sl)).1)⟩:=by unfold ldg1;rw [hy];rfl
  have ea:=zqz (k:=k) (sl:=sl) h.st hn;have hok:=zyn (r:=addR k sl) (c:=0) h.ok rfl (by omega);rw [e] at hok⊢;rw [ea] at hok⊢;refine ⟨hok,by simp [h.es],?_,?_,.inl ?_⟩
  ·simp only [List.getD_eq_getElem?_getD,List.getElem?_set]
   rw [if_pos trivial,if_pos (by omega)];rfl
  ·simp only [List.getD_eq_getElem?_getD,List.getElem?_set]
   rw [if_pos trivial,if_pos (by omega)];simp
  ·simp only [List.getD_eq_getElem?_getD,List.getElem?_set]
   rw [if_pos trivial,if_pos (by omega)];rfl
 ·rw [if_neg hk,if_neg hk]
  have hy:=zy9 (r:=addR k sl) (c:=0) h.ok rfl (by omega) (by rw [h.rp];exact hk);have e:ldg1 b (addR k sl)=b:=by unfold ldg1;rw [hy]
  rw [e];exact h
end Go.Proofs.YtannckelmojkoaaGreat
namespace Go.Heap
open Ieee
theorem fl_lp:double.leastPlace= -1074:=by decide
theorem fl_bin:double.binade=4503599627370496:=by decide
theorem fl_inf:double.infRung=9218868437227405312:=by decide
theorem fl_sw:double.signWeight=9223372036854775808:=by decide
theorem fl_word (r:Nat):double.word false r=r:=by unfold Format.word;rw [if_neg Bool.false_ne_true]
theorem zvj {n:Nat} (h0:n≠0) (hn:n<9007199254740992):n.log2≤52:=by
 have:=(Nat.log2_lt (k:=53) h0).2 hn;omega
theorem zz7 (way:Toward) (neg:Bool) (n d:Nat) (hd:d≤(n*2^d).log2+2):way.cut neg (n*2^d) d=n:=by
 unfold Toward.cut;rw [Nat.min_eq_left hd,Nat.one_shiftLeft];have hp:0<2^d:=Nat.two_pow_pos _;have h1:n*2^d/2^d=n:=Nat.mul_div_cancel _ hp;have h2:n*2^d%2^d=0:=Nat.mul_mod_left _ _;simp only [h1,h2];cases way<;>simp<;>omega
theorem zkh {n:Nat} (h0:n≠0) (k:Nat):(n*2^k).log2=n.log2+k:=by
 have h1:2^n.log2≤n:=Nat.log2_self_le h0;have h2:n<2^(n.log2+1):=Nat.lt_log2_self;have hz:n*2^k≠0:=Nat.mul_ne_zero h0 (Nat.pos_iff_ne_zero.1 (Nat.two_pow_pos k));refine Nat.le_antisymm ?_ ?_
 ·have:(n*2^k).log2<n.log2+k+1:=(Nat.log2_lt hz).2 (by
   rw [show n.log2+k+1=(n.log2+1)+k by omega,Nat.pow_add];exact Nat.mul_lt_mul_of_pos_right h2 (Nat.two_pow_pos k))
  omega
 ·refine (Nat.le_log2 hz).2 ?_
  rw [Nat.pow_add];exact Nat.mul_le_mul_right _ h1
def fw (n:Nat):Nat:=if n=0 then 0 else (n.log2+1022)*4503599627370496+n*2^(52-n.log2)
theorem zyh {n:Nat} (h0:n≠0) (hn:n<9007199254740992):4503599627370496≤n*2^(52-n.log2)∧n*2^(52-n.log2)<9007199254740992:=by
 have hl:=zvj h0 hn;have h1:2^n.log2≤n:=Nat.log2_self_le h0;have h2:n<2^(n.log2+1):=Nat.lt_log2_self;have e1:4503599627370496=2^n.log2*2^(52-n.log2):=by rw [←Nat.pow_add,show n.log2+(52-n.log2)=52 by omega]
 have e2:9007199254740992=2^(n.log2+1)*2^(52-n.log2):=by rw [←Nat.pow_add,show n.log2+1+(52-n.log2)=53 by omega]
 rw [e1,e2];exact ⟨Nat.mul_le_mul_right _ h1,Nat.mul_lt_mul_of_pos_right h2 (Nat.two_pow_pos _)⟩
theorem zyi {n:Nat} (hn:n<9007199254740992) (k:Nat):double.nearest false (n*2^k) (-(k:Int))=fw n:=by
 unfold fw;by_cases h0:n=0
 ·subst h0;rw [Nat.zero_mul,if_pos rfl];unfold Format.nearest;rw [if_pos rfl];rfl
 ·rw [if_neg h0]
  have hl:=zvj h0 hn;have hz:n*2^k≠0:=Nat.mul_ne_zero h0 (Nat.pos_iff_ne_zero.1 (Nat.two_pow_pos k));obtain ⟨k1,k2⟩:=zyh h0 hn;have hlm:=zkh h0 k;have hlast:max (-(k:Int)+((n*2^k).log2:Nat)-(double.fractionBits:Nat)) double.leastPlace=(n.log2:Int)-52:=by
   rw [hlm,fl_lp,show (double.fractionBits:Nat)=52 from rfl];omega
  unfold Format.nearest;rw [if_neg hz];simp only [hlast];have hkept:Toward.even.cut false ((n*2^k)<<<(-(k:Int)-((n.log2:Int)-52)).toNat) ((n.log2:Int)-52- -(k:Int)).toNat=n*2^(52-n.log2):=by
   by_cases hc:k≤52-n.log2
   ·rw [show ((n.log2:Int)-52- -(k:Int)).toNat=0 by omega,show (-(k:Int)-((n.log2:Int)-52)).toNat=52-n.log2-k by omega,Nat.shiftLeft_eq,Nat.mul_assoc,←Nat.pow_add,show k+(52-n.log2-k)=52-n.log2 by omega]
    have:=zz7 .even false (n*2^(52-n.log2)) 0 (by omega)
    simpa using this
   ·rw [show (-(k:Int)-((n.log2:Int)-52)).toNat=0 by omega,show ((n.log2:Int)-52- -(k:Int)).toNat=k+n.log2-52 by omega,Nat.shiftLeft_zero]
    have e:n*2^k=n*2^(52-n.log2)*2^(k+n.log2-52):=by rw [Nat.mul_assoc,←Nat.pow_add];congr 2;omega
    have hb:k+n.log2-52≤(n*2^(52-n.log2)*2^(k+n.log2-52)).log2+2:=by rw [←e,hlm];omega
    rw [e];exact zz7 _ _ _ _ hb
  rw [hkept,fl_word,fl_lp,show ((n.log2:Int)-52- -1074).toNat=n.log2+1022 by omega,fl_bin,fl_inf];generalize n*2^(52-n.log2)=q at*;generalize n.log2=L at*;exact Nat.min_eq_left (by omega)
theorem zyj {n:Nat} (h0:n≠0) (hn:n<9007199254740992):double.read (fw n)= .number false (n*2^(52-n.log2)) (-((52-n.log2:Nat):Int)):=by
 have hl:=zvj h0 hn;obtain ⟨k1,k2⟩:=zyh h0 hn;unfold fw;rw [if_neg h0];generalize hk:n*2^(52-n.log2)=q at*;generalize n.log2=L at*;unfold Format.read;simp only [fl_sw,fl_bin,fl_inf,fl_lp];have hm:((L+1022)*4503599627370496+q)%4503599627370496=q-4503599627370496:=by omega
 have hd:((L+1022)*4503599627370496+q)/4503599627370496=L+1023:=by omega
 rw [Nat.mod_eq_of_lt (by omega),Nat.div_eq_of_lt (by omega),if_neg (by omega),if_pos (by omega),hm,hd];have e1:4503599627370496+(q-4503599627370496)=q:=by omega
 have e2:(-1074+((L+1023-1:Nat):Int))= -((52-L:Nat):Int):=by omega
 rw [e1,e2];rfl
theorem zrq:double.read (fw 0)= .number false 0 (-1074):=by decide
theorem zyg {n:Nat} (hn:n<9007199254740992): ∃k:Nat,double.read (fw n)= .number false (n*2^k) (-(k:Int)):=by
 by_cases h0:n=0
 ·subst h0;obtain ⟨k,hk⟩: ∃k:Nat,k=1074:=⟨_,rfl⟩;exact ⟨k,by rw [Nat.zero_mul,zrq,hk];rfl⟩
 ·exact ⟨_,zyj h0 hn⟩
theorem fl_add {a b:Nat} (h:a+b<9007199254740992):double.add (fw a) (fw b)=some (fw (a+b)):=by
 obtain ⟨i,hi⟩:=zyg (n:=a) (by omega);obtain ⟨j,hj⟩:=zyg (n:=b) (by omega);unfold Format.add;rw [hi,hj];unfold Datum.sum;simp only [Option.map_some];have hs: ∀(m k:Nat),signed false m k=((m*2^k:Nat):Int):=fun m k=>by unfold signed;rw [if_neg (by simp),Nat.shiftLeft_eq]
 have key: ∀i j:Nat,j≤i→(signed false (a*2^i) (-(i:Int)-min (-(i:Int)) (-(j:Int))).toNat+signed false (b*2^j) (-(j:Int)-min (-(i:Int)) (-(j:Int))).toNat)=(((a+b)*2^i:Nat):Int)∧min (-(i:Int)) (-(j:Int))= -(i:Int):=by
  intro i j hij;have hm:min (-(i:Int)) (-(j:Int))= -(i:Int):=by omega
  refine ⟨?_,hm⟩;rw [hm,hs,hs,show (-(i:Int)- -(i:Int)).toNat=0 by omega,show (-(j:Int)- -(i:Int)).toNat=i-j by omega,Nat.mul_assoc b,←Nat.pow_add,show j+(i-j)=i by omega,Nat.pow_zero,Nat.mul_one,Nat.add_mul];exact (Int.natCast_add _ _).symm
 have fin: ∀k:Nat,double.write (.number (if (((a+b)*2^k:Nat):Int)=0 then (false&&false) else decide ((((a+b)*2^k:Nat):Int)<0)) (((a+b)*2^k:Nat):Int).natAbs (-(k:Int)))=fw (a+b):=by
  intro k;have hf:(if (((a+b)*2^k:Nat):Int)=0 then (false&&false) else decide ((((a+b)*2^k:Nat):Int)<0))=false:=by
   split
   ·rfl
   ·simp only [decide_eq_false_iff_not];omega
  rw [hf,Int.natAbs_natCast];exact zyi (by omega) k
 by_cases hij:j≤i
 ·obtain ⟨e1,e2⟩:=key i j hij
  rw [e1,e2,fin]
 ·have e:=key j i (by omega)
  have: ∀i j:Nat,i≤j→(signed false (a*2^i) (-(i:Int)-min (-(i:Int)) (-(j:Int))).toNat+signed false (b*2^j) (-(j:Int)-min (-(i:Int)) (-(j:Int))).toNat)=(((a+b)*2^j:Nat):Int)∧min (-(i:Int)) (-(j:Int))= -(j:Int):=by
   intro i j hij;have hm:min (-(i:Int)) (-(j:Int))= -(j:Int):=by omega
   refine ⟨?_,hm⟩;rw [hm,hs,hs,show (-(j:Int)- -(j:Int)).toNat=0 by omega,show (-(i:Int)- -(j:Int)).toNat=j-i by omega,Nat.mul_assoc a,←Nat.pow_add,show i+(j-i)=j by omega,Nat.pow_zero,Nat.mul_one,Nat.add_mul];exact (Int.natCast_add _ _).symm
  obtain ⟨e1,e2⟩:=this i j (by omega);rw [e1,e2,fin]
theorem fl_int {n:Nat} (hn:n<9007199254740992):(double.read (fw n)).toInt .zero=some (n:Int):=by
 by_cases h0:n=0
 ·subst h0;rw [zrq];decide
 ·rw [zyj h0 hn]
  have hl:=zvj h0 hn;unfold Datum.toInt Datum.integral;simp only;rw [show (-((52-n.log2:Nat):Int)).toNat=0 by omega,show (- -((52-n.log2:Nat):Int)).toNat=52-n.log2 by omega,Nat.shiftLeft_zero,zz7 _ _ _ _ (by rw [zkh h0];omega)];unfold signed;simp
end Go.Heap
namespace Go
open Go.Heap
theorem ze7 {n:Nat} (hn:n<9007199254740992):FloatKind.f64.nearest (n:Int)=fw n:=by
 unfold FloatKind.nearest FloatKind.encode;rw [show decide ((n:Int)<0)=false by simp,Int.natAbs_natCast];have:=zyi hn 0;rw [Nat.pow_zero,Nat.mul_one] at this;exact this
theorem fl_sum {a b:Int} (ha:0≤a) (hb:0≤b) (h:a+b<9007199254740992):floatBits .add .f64 (FloatKind.f64.nearest a) (FloatKind.f64.nearest b)=some (FloatKind.f64.nearest (a+b)):=by
 obtain ⟨a,rfl⟩:=Int.eq_ofNat_of_zero_le ha;obtain ⟨b,rfl⟩:=Int.eq_ofNat_of_zero_le hb;rw [ze7 (by omega),ze7 (by omega),←Int.natCast_add,ze7 (by omega)];exact fl_add (by omega)
theorem fl_csum {a b c d:Int} (ha:0≤a) (hb:0≤b) (hc:0≤c) (hd:0≤d) (h1:a+c<9007199254740992) (h2:b+d<9007199254740992):cSumBits .add .f64 (FloatKind.f64.nearest a) (FloatKind.f64.nearest b) (FloatKind.f64.nearest c) (FloatKind.f64.nearest d)=some (FloatKind.f64.nearest (a+c),FloatKind.f64.nearest (b+d)):=by
 unfold cSumBits;rw [fl_sum ha hc h1,fl_sum hb hd h2];rfl
theorem zrr {a:Int} (ha:0≤a) (h:a<9007199254740992):floatToIntVal .f64 (FloatKind.f64.nearest a) .i64=some a:=by
 obtain ⟨a,rfl⟩:=Int.eq_ofNat_of_zero_le ha;rw [ze7 (by omega)];unfold floatToIntVal FloatKind.decode;rw [show FloatKind.f64.format=Ieee.double from rfl,fl_int (by omega)];simp only;rw [if_pos ⟨by rw [show IntKind.i64.min= -9223372036854775808 by decide];omega,by rw [show IntKind.i64.max=9223372036854775807 by decide];omega⟩]
end Go
namespace Go.Proofs.YtannckelmojkoaaGreat
open Go.RowKit Go.Heap
def zvq (k:Nat) (t:Int) (z:List (Int×Int)):List (Int×Int):=if 0≤t∧t≤1048576 then z.modify k fun z=>(z.1+1,z.2+t) else z
section
variable {B:Nat} {w0 w W W':World} {ss rs:List Res} {x:Np} {s s':Ns} {l l':Nt} {m g cap:Nat} {z:List (Int×Int)}
end
end Go.Proofs.YtannckelmojkoaaGreat
namespace Go.Proofs.YtannckelmojkoaaGreat
open Go.RowKit Go.Heap
def zvr (s:Ns) (k:Nat) (rs:List Rq):List (Int×Int):=rs.foldl (fun z r=>match zbd s.tab r with | some t=>zvq k (s.now-t) z | none=>z) s.mt
theorem zvs (k:Nat) (t:Int) (s:Ns):gaugeS k t s= {s with mt:=zvq k t s.mt}:=by
 unfold gaugeS zvq;split<;>rfl
theorem zpp (k:Nat) (s:Ns) (r:Rq):zmi k s r= {s with mt:=match zbd s.tab r with | some t=>zvq k (s.now-t) s.mt | none=>s.mt}:=by
 unfold zmi;cases zbd s.tab r with
 | none=>rfl
 | some t=>exact zvs _ _ _
theorem zr2 (k:Nat) (rs:List Rq) (s:Ns):zr1 k s rs= {s with mt:=zvr s k rs}:=by
 unfold zr1 zvr
 induction rs generalizing s with
 | nil=>rfl
 | cons r rs ih=>rw [List.foldl_cons,ih,zpp,List.foldl_cons]
theorem zvh (p:NSt) (e:En): ∃o l',zh1 p e=({p.1 with out:=p.1.out++o,tab:=zua p.1.tab e.rq.client e.rq.time},l')∧o.length≤1∧l'.length≤p.2.length+1:=by
 obtain ⟨s,l⟩:=p;have hl:=zgp (l:=l) (m:=repM s.id e.rq.client e.rq.time e.res);unfold zh1;simp only;rw [zoq];generalize sealP l (repM s.id e.rq.client e.rq.time e.res)=sp at*;obtain ⟨o,l2⟩:=sp;cases o with
 | none=>exact ⟨[],l2,by simp only [List.append_nil],by simp,hl⟩
 | some b=>exact ⟨[_],l2,rfl,by simp,hl⟩
theorem zpo (es:List En): ∀p:NSt,∃o l' t',es.foldl zh1 p=({p.1 with out:=p.1.out++o,tab:=t'},l')∧o.length≤es.length∧l'.length≤p.2.length+es.length:=by
 induction es with
 | nil=>intro p;exact ⟨[],p.2,p.1.tab,by simp,by simp,by simp⟩
 | cons e es ih=>
  intro p;obtain ⟨o,l',h1,h2,h3⟩:=zvh p e;obtain ⟨o2,l2,t2,k1,k2,k3⟩:=ih (zh1 p e);rw [h1] at k1 k3;simp only at k1 k3;refine ⟨o++o2,l2,t2,?_,by rw [List.length_append,List.length_cons];omega,by rw [List.length_cons];omega⟩;rw [List.foldl_cons,h1,k1,List.append_assoc]
structure RunG (s0:Ns) (l0:Nt) (m:Nat) (p:NSt):Prop where
 go:runGo 16 (s0,l0)=runGo m p
 fuel:16≤(m:Int)+p.1.run
 ln:(p.2.length:Int)≤800000000+4*p.1.run
 on:(p.1.out.length:Int)≤800000000+4*p.1.run
theorem zht (s:Ns) (l:Nt): ∃o l' t',zhs (s,l)=({s with run:=s.run+1,bk:=(runL s.bk (runC s).rs).1,out:=s.out++o,tab:=t'},l')∧o.length≤(runC s).rs.length∧l'.length≤l.length+(runC s).rs.length:=by
 rw [zos];obtain ⟨o,l',t',h1,h2,h3⟩:=zpo (runL s.bk (runC s).rs).2 ({s with run:=s.run+1,bk:=(runL s.bk (runC s).rs).1},l);have h4:(runL s.bk (runC s).rs).2.length≤(runC s).rs.length:=zlk _ _;exact ⟨o,l',t',h1,by omega,by simp only at h3;omega⟩
theorem RunG.step {s0 s:Ns} {l0 l:Nt} {m:Nat} (h:RunG s0 l0 m (s,l)) (h0:s.run<doneI (insAt s 0)) (h1:s.run+1≤16) (hb:(runC s).rs.length≤4): ∃m',m=m'+1∧RunG s0 l0 m' (zhs (s,l)):=by
 obtain ⟨g1,g2,g4,g5⟩:=h;simp only at g2 g4 g5;obtain ⟨n,rfl⟩: ∃n,m=n+1:=⟨m-1,by omega⟩;obtain ⟨o,l',t',e1,e2,e3⟩:=zht s l;refine ⟨n,rfl,by rw [g1,zld h0],?_,?_,?_⟩
 ·rw [e1];simp only;omega
 ·rw [e1];simp only;omega
 ·rw [e1];simp only [List.length_append];omega
theorem flat_in' {α β:Type} (g:α→List β) (n:Nat): ∀(l:List α) (_: ∀a∈l,(g a).length=n) (k j:Nat) (hk:k<l.length),j<n→(l.flatMap g)[k*n+j]?=(g l[k])[j]?
 | [],_,k,j,hk,_=>by simp at hk
 | a::l,hg,0,j,hk,hj=>by
  rw [List.flatMap_cons,List.getElem?_append_left (by rw [hg a (by simp)];omega)];simp
 | a::l,hg,k+1,j,hk,hj=>by
  have ha:=hg a (by simp);rw [List.flatMap_cons,List.getElem?_append_right (by rw [ha,Nat.succ_mul];omega),ha];rw [show (k+1)*n+j-n=k*n+j by rw [Nat.succ_mul];omega];rw [flat_in' g n l (fun b hb=>hg b (by simp [hb])) k j (by simpa using hk) hj];simp
theorem zoo {α:Type} {w:World} {b o n:Nat} {g:α→List Value} {l:List α} (hc: ∀j,j<l.length*n→w.cell? ⟨b,o+j,none⟩=(l.flatMap g)[j]?) (hg: ∀a∈l,(g a).length=n) (k:Nat) (hk:k<l.length):w.rangeAt b (o+k*n) (g l[k]):=fun j v hj=>by
 have hjn:j<n:=by rw [←hg _ (List.getElem_mem hk)];exact (List.getElem?_eq_some_iff.1 hj).1
 have h1:(k+1)*n≤l.length*n:=Nat.mul_le_mul_right _ hk;rw [Nat.succ_mul] at h1;rw [Nat.add_assoc,hc (k*n+j) (by omega),flat_in' g n l hg k j hk hjn];exact hj
theorem by13 {l:List Bool} (h:l.length=13): ∃b0 b1 b2 b3 b4 b5 b6 b7 b8 b9 b10 b11 b12,l=[b0,b1,b2,b3,b4,b5,b6,b7,b8,b9,b10,b11,b12]:=by
 match l,h with
 | [b0,b1,b2,b3,b4,b5,b6,b7,b8,b9,b10,b11,b12],_=>exact ⟨b0,b1,b2,b3,b4,b5,b6,b7,b8,b9,b10,b11,b12,rfl⟩
abbrev tdLit (r:Rq) (b0 b1 b2 b3 b4 b5 b6 b7 b8 b9 b10 b11 b12:Bool) (rd:Bool) (sn:Int):Array Value:=#[.int .i64 r.client,.int .i64 r.time,.int .i64 r.kind,.int .i64 r.key,.int .i64 r.val,.int .i64 r.sl,.bool b0,.bool b1,.bool b2,.bool b3,.bool b4,.bool b5,.bool b6,.bool b7,.bool b8,.bool b9,.bool b10,.bool b11,.bool b12,.bool rd,.int .i64 sn]
theorem td_lit {t:Td} (h:t.by_.length=13): ∃b0 b1 b2 b3 b4 b5 b6 b7 b8 b9 b10 b11 b12,tdC t=(tdLit t.r b0 b1 b2 b3 b4 b5 b6 b7 b8 b9 b10 b11 b12 t.ready t.since).toList:=by
 obtain ⟨b0,b1,b2,b3,b4,b5,b6,b7,b8,b9,b10,b11,b12,e⟩:=by13 h;exact ⟨b0,b1,b2,b3,b4,b5,b6,b7,b8,b9,b10,b11,b12,by unfold tdC;rw [e];rfl⟩
theorem Tryz.infoTold:(Tryz.prog.info? 314).map (fun i=>(i.zero,i.size,i.bytes))=some (some (.agg #[.int .i64 0,.int .i64 0,.int .i64 0,.int .i64 0,.int .i64 0,.int .i64 0,.bool false,.bool false,.bool false,.bool false,.bool false,.bool false,.bool false,.bool false,.bool false,.bool false,.bool false,.bool false,.bool false,.bool false,.int .i64 0]),21,72):=by kernel_rfl
section
variable {B:Nat} {w0 W:World} {ss:List Res} {tb f:Nat} {cl:Int} {v:Value} {l:List Td}
abbrev tdZ:Array Value:=#[.int .i64 0,.int .i64 0,.int .i64 0,.int .i64 0,.int .i64 0,.int .i64 0,.bool false,.bool false,.bool false,.bool false,.bool false,.bool false,.bool false,.bool false,.bool false,.bool false,.bool false,.bool false,.bool false,.bool false,.int .i64 0]
structure TdCs (t:Td) (cs:List Value):Prop where
 n:cs.length=21
 one: ∀v∈cs,v.oneCell'=true
 c0:cs[0]?=some (.int .i64 t.r.client)
 c1:cs[1]?=some (.int .i64 t.r.time)
theorem td_cs {t:Td} (h:t.by_.length=13):TdCs t (tdC t):=by
 obtain ⟨b0,b1,b2,b3,b4,b5,b6,b7,b8,b9,b10,b11,b12,e⟩:=td_lit h;rw [e];refine ⟨rfl,fun v hv=> ?_,rfl,rfl⟩;simp only [tdLit,List.mem_cons,List.not_mem_nil,or_false] at hv;rcases hv with rfl | rfl | rfl | rfl | rfl | rfl | rfl | rfl | rfl | rfl | rfl | rfl | rfl | rfl | rfl | rfl | rfl | rfl | rfl | rfl | rfl<;>rfl
end
end Go.Proofs.YtannckelmojkoaaGreat
namespace Go.Proofs.YtannckelmojkoaaGreat
open Go.RowKit Go.Heap
section
variable {B:Nat} {w0 W W':World} {ss rs:List Res} {x:Ins}
end
end Go.Proofs.YtannckelmojkoaaGreat
namespace Go.Proofs.YtannckelmojkoaaGreat
open Go.RowKit Go.Heap
theorem zfg (p:NSt) (m:Ms): ∃o:List (Int×Bys),sendS p m=({p.1 with out:=p.1.out++o},(sendS p m).2)∧o.length≤3*p.1.c.f+1∧(sendS p m).2.length≤p.2.length+1:=by
 have h:=zgp (l:=p.2) (m:=zl0 m p.1.id);unfold sendS;generalize sealP p.2 (zl0 m p.1.id)=q at*;obtain ⟨o,l2⟩:=q;cases o with
 | none=>exact ⟨[],by simp only [List.append_nil],by simp,h⟩
 | some b=>exact ⟨_,rfl,by rw [List.length_map];exact zik _ _,h⟩
theorem zq1 (v:Value) (rs:List Rq):batR v rs=redR v 6 rs.length (rs.flatMap zas):=rfl
section
variable {B:Nat} {w0 w W W':World} {ss rs:List Res} {x:Np} {s s':Ns} {l l':Nt} {k i:Nat} {vb:Value} {bs:List Rq}
theorem nd_vote (h:NdIs B w0 W x s l (batR vb bs::ss)) (hk:k<s.c.f+1) (hi:x.is[k]?=some i) (hb:bs.length≤4) (kind seq node sl:Int):
  Calls Tryz.prog 236 #[ptrV i,.int .i64 kind,.int .i64 seq,.int .i64 node,.int .i64 sl,vb] W fun e w'=>e= .returned (.bool (voteB (insAt s k) kind seq node))∧NdIs B w0 w' x (zbc s k (voteI (insAt s k) kind seq node sl bs)) l (batR vb bs::ss):=by
 have hk':k<s.ins.length:=by rw [h.ok.ins];exact hk
 obtain ⟨r,hs,-⟩:=h.side;have hbt:=zgw (hs.get 0 rfl);obtain ⟨j,rr,hj,ha,g⟩:=h.inst k hk';rw [hi] at hj;cases hj
 rw [zay s k hk'];refine (ai_vote ha kind seq node sl vb bs hbt (by omega)).mono ?_;rintro e w' ⟨he,h2⟩;exact ⟨he,g w' _ _ (zn3 hb) h2⟩
theorem nd_pre (h:NdIs B w0 W x s l (batR vb bs::ss)) (hk:k<s.c.f+1) (hi:x.is[k]?=some i) (hb:bs.length≤4) (seq:Int):
  Calls Tryz.prog 159 #[ptrV i,.int .i64 seq,vb] W fun e w'=>e= .returned (.bool (preB (insAt s k) seq))∧NdIs B w0 w' x (zbc s k (preI (insAt s k) seq bs)) l (batR vb bs::ss):=by
 have hk':k<s.ins.length:=by rw [h.ok.ins];exact hk
 obtain ⟨r,hs,-⟩:=h.side;have hbt:=zgw (hs.get 0 rfl);obtain ⟨j,rr,hj,ha,g⟩:=h.inst k hk';rw [hi] at hj;cases hj
 rw [zay s k hk'];refine (ai_pre ha seq vb bs hbt (by omega)).mono ?_;rintro e w' ⟨he,h2⟩;exact ⟨he,g w' _ _ (zr9 hb) h2⟩
structure ToldC (r:Option Cp) (c:Ct):Prop where
 cp:c.cp=r.getD noCp
 vb: ∃a k,c.vb= .slice a c.rs.length k
 vv: ∃a k,c.vv= .slice a c.vs.length k
 vn:c.vs.length≤100000
theorem told_c {r:Option Cp} {c:Ct} (h:Told W W' r c):ToldC r c:=by
 obtain ⟨h1,⟨-,h2⟩,⟨a1,k1,e1,-⟩,⟨a2,k2,e2,-⟩,-,-⟩:=h;exact ⟨h1,⟨a1,k1,e1⟩,⟨a2,k2,e2⟩,h2⟩
theorem zpz (h:NdIs B w0 W x s l ss) (hk:k<s.c.f+1) (hi:x.is[k]?=some i) (seq:Int):
  Calls Tryz.prog 255 #[ptrV i,.int .i64 seq] W fun e w'=> ∃c:Ct,e= .returned (.tuple #[ctAgg c,.bool (prepI (insAt s k) seq).isSome])∧ToldC (prepI (insAt s k) seq) c∧NdIs B w0 w' x (zbc s k (zbf (insAt s k) seq)) l (batR c.vb c.rs::redR c.vv 2 c.vs.length (zan c.vs)::ss):=by
 have hk':k<s.ins.length:=by rw [h.ok.ins];exact hk
 have hsm:=(h.ok.insk k hk').2.2.2;obtain ⟨j,rr,hj,ha,g⟩:=h.inst k hk';rw [hi] at hj;cases hj
 rw [zay s k hk'];refine (zl7 ha seq).mono ?_;rintro e w' ⟨c,he,hc,h2⟩;obtain ⟨y,y1,y2,y3⟩:=h2;exact ⟨c,he,told_c hc,g w' _ (_::_::ss) (zf1 hsm) ⟨y,y1,y2,y3.rot'.swap.rot⟩⟩
theorem zsk (h:NdIs B w0 W x s l ss) (hk:k<s.c.f+1) (hi:x.is[k]?=some i) (seq:Int):
  Calls Tryz.prog 256 #[ptrV i,.int .i64 seq] W fun e w'=> ∃c:Ct,e= .returned (.tuple #[ctAgg c,.bool (commI (insAt s k) seq).isSome])∧ToldC (commI (insAt s k) seq) c∧NdIs B w0 w' x (zbc s k (zbg (insAt s k) seq)) l (batR c.vb c.rs::redR c.vv 2 c.vs.length (zan c.vs)::ss):=by
 have hk':k<s.ins.length:=by rw [h.ok.ins];exact hk
 have hsm:=(h.ok.insk k hk').2.2.2;obtain ⟨j,rr,hj,ha,g⟩:=h.inst k hk';rw [hi] at hj;cases hj
 rw [zay s k hk'];refine (zpd ha seq).mono ?_;rintro e w' ⟨c,he,hc,h2⟩;obtain ⟨y,y1,y2,y3⟩:=h2;exact ⟨c,he,told_c hc,g w' _ (_::_::ss) (zg4 hsm) ⟨y,y1,y2,y3.rot'.swap.rot⟩⟩
theorem zn5 (h:NdIs B w0 W x s l ss) (hk:k<s.c.f+1) (hi:x.is[k]?=some i) (seq:Int):
  Calls Tryz.prog 220 #[ptrV i,.int .i64 seq] W fun e w'=> ∃a c,e= .returned (.tuple #[.slice a (zau (insAt s k) seq).1.length c,.bool (zau (insAt s k) seq).2])∧NdIs B w0 w' x s l (batR (.slice a (zau (insAt s k) seq).1.length c) (zau (insAt s k) seq).1::ss):=by
 have hk':k<s.ins.length:=by rw [h.ok.ins];exact hk
 obtain ⟨j,rr,hj,ha,g⟩:=h.inst k hk';rw [hi] at hj;cases hj
 rw [zay s k hk'];refine (znm ha seq).mono ?_;rintro e w' ⟨u,he,hu,hb,hn⟩;obtain ⟨a,c,rfl⟩: ∃a c,u= .slice a (zau s.ins[k] seq).1.length c:=let ⟨a,c,e,_⟩:=hb;⟨a,c,e⟩;obtain ⟨r,hs,hback⟩:=h.side;refine ⟨a,c,he,hback w' (_::ss) ?_⟩;exact own_bat (hs.upd0 hu) hb (fun q hq=> .inr ⟨Nat.le_trans hs.below.size (hn q (zd4 hq)),fun hm=>by have:=hs.lt q hm;have:=hn q (zd4 hq);omega⟩)
theorem nd_next (h:NdIs B w0 W x s l ss) (hk:k<s.c.f+1) (hi:x.is[k]?=some i):Calls Tryz.prog 154 #[ptrV i] W fun e w'=>e= .returned (.int .i64 (nextI (insAt s k)))∧Upd [] W w':=by
 have hk':k<s.ins.length:=by rw [h.ok.ins];exact hk
 obtain ⟨j,rr,hj,ha,-⟩:=h.ask k hk';rw [hi] at hj;cases hj
 rw [zay s k hk'];exact zx6 ha
theorem nd_used (h:NdIs B w0 W x s l ss) (hk:k<s.c.f+1) (hi:x.is[k]?=some i) (r:Rq):Calls Tryz.prog 158 #[ptrV i,rqAgg r] W fun e w'=>e= .returned (.bool (usedI (insAt s k) r))∧Upd [] W w':=by
 have hk':k<s.ins.length:=by rw [h.ok.ins];exact hk
 obtain ⟨j,rr,hj,ha,-⟩:=h.ask k hk';rw [hi] at hj;cases hj
 rw [zay s k hk'];exact ai_used ha r
end
end Go.Proofs.YtannckelmojkoaaGreat
namespace Go.Proofs.YtannckelmojkoaaGreat
open Go.RowKit Go.Heap
theorem zuc: ∀l:List Td,(∀t∈l,0≤t.r.client∧t.r.client<4)→l.length≤l.countP (fun t=>t.r.client==0)+l.countP (fun t=>t.r.client==1)+l.countP (fun t=>t.r.client==2)+l.countP (fun t=>t.r.client==3)
 | [],_=>by simp
 | t::l,h=>by
  have ih:=zuc l (fun t ht=>h t (by simp [ht]));obtain ⟨h1,h2⟩:=h t (by simp);simp only [List.countP_cons,List.length_cons];rcases (by omega:t.r.client=0∨t.r.client=1∨t.r.client=2∨t.r.client=3) with e | e | e | e<;>rw [e]<;>simp<;>omega
theorem zga {cl:Int} {l:List Td} (h:TabOk cl l) (hc:cl≤4):l.length≤16:=by
 have:=zuc l (fun t ht=>by have:=h.c t ht;omega);have h0:=h.n 0;have h1:=h.n 1;have h2:=h.n 2;have h3:=h.n 3;omega
theorem zqm {cl:Int} {l:List Td} {r:Rq} {t:Int} (h:TabOk cl l) (e:zbd l r=some t):0≤t∧t≤1048576:=by
 unfold zbd at e;cases hg:l[tabK l r]? with
 | none=>rw [hg] at e;simp at e
 | some q=>
  rw [hg] at e;simp only at e;split at e
  ·simp only [Option.some.injEq] at e
   have:=h.c q (List.mem_of_getElem? hg);subst e;exact ⟨this.2.2.2.1,this.2.2.2.2⟩
  ·simp at e
section
variable {B:Nat} {w0 w W W':World} {ss rs:List Res} {x:Np} {s s':Ns} {l l':Nt}
end
end Go.Proofs.YtannckelmojkoaaGreat
namespace Go.Proofs.YtannckelmojkoaaGreat
open Go.RowKit Go.Heap
section
variable {B:Nat} {w0 w W W':World} {ss rs:List Res} {x:Np} {s s':Ns} {l l':Nt}
end
end Go.Proofs.YtannckelmojkoaaGreat
