/- Parts of the proof, one behind the other. -/
import Derived.Test.YtannckelmojkoaaGreatPrpB32
set_option maxHeartbeats 32000000
set_option maxRecDepth 100000
set_option linter.unusedVariables false
set_option linter.unusedSimpArgs false
namespace Go.Proofs.YtannckelmojkoaaGreat
open Go.RowKit Go.Heap
section
variable {B:Nat} {w0 w W W':World} {ss rs:List Res} {x:Np} {s s':Ns} {l l':Nt} {rn:Nat} {vp vb:Value} {vt:Rn} {f id j n:Nat} {u:Int} {r:Rq} {h:Nat→Bool} {t:Td} {done tab tab':List Td} {out out':List (Int×Bys)}
abbrev prgB (r:Rq) (j:Nat):Bys:=msB (crtM 2 0 0 0 [r] (j:Int))
theorem prg_form {f:Nat} {r:Rq} (hq:okReq r 2=true) (hj:j≤3*f):formP f 2 (crtM 2 0 0 0 [r] (j:Int))=true:=by
 have hr:reqAt [r] 0=r:=rfl;have hb:allR 1 (fun j=>okReq (reqAt [r] j) 2)=true:=zc8 (fun j hj=>by
  have:j=0:=by omega
  subst this;rw [hr];exact hq)
 unfold formP crtM formK zbr inW bareP zbh inW zeros;simp [hb];omega
theorem zqx (h:NdIs B w0 W x (prS f id tab out u) l (mmR (balW 2 0 0 0 vb [r] (j:Int)) (rnR rn vp vt l ss))) (hf1:1≤f) (hf2:f≤4) (hq:RqGood 2 r) (hj:j≤3*f) (hn:l.length≤100000) (ho:out.length≤100000) (hu:u≤100000)
  (hv:zbw (prgW r j) (prS f id tab out u,sealL l (j:Int) (prgB r j))=(0,(prS f id tab' out' u,l'))) (hp:Px (sealL l (j:Int) (prgB r j)) l'):
  Calls Tryz.prog 23 #[ptrV x.p,.agg (twA x.nt rn),.agg (mmA (balW 2 0 0 0 vb [r] (j:Int)))] W fun e w'=>e= .returned (.tuple #[])∧ ∃vp' vt',NdIs B w0 w' x (prS f id tab' out' (u+1)) l' (mmR (balW 2 0 0 0 vb [r] (j:Int)) (rnR rn vp' vt' l' ss)):=by
 have hb:=zpy (kind:=2) (inst:=0) (seq:=0) (k:=(j:Int)) (rs:=[r]) (fun a ha=>by rw [List.mem_singleton.1 ha];exact hq.w) (by simp) (by omega) (by omega) (by omega) (by omega) (by omega) (by omega) (by omega) (by omega);have hll:=(zge l (j:Int) (prgB r j)).2;have key:=zut (m:=balW 2 0 0 0 vb [r] (j:Int)) (b:=prgB r j) (v:=0) (p:=(prS f id tab' out' u,l')) h ⟨by simp,by simp,by simp,by simp⟩ (by omega) (by show (0:Int)≤(j:Int);omega) (by show (j:Int)≤100;omega) hb (zpz _ _ _ _ _ _ (by simp)) (by show formP f 2 (crtM 2 0 0 0 [r] (j:Int))=true;exact prg_form hq.ok hj) rfl rfl (fun mm hmm=>by
  have e1:mm.kind=2:=congrArg Ms.kind hmm;have e2:mm.fm=(j:Int):=congrArg Ms.fm hmm;have e3:mm.rs=[r]:=congrArg Ms.rs hmm;refine zvi (.inr e1) (fun W2 ss2 h2=> ?_);have h3:=zro h2 (by rw [e3];rfl) e1 (by rw [e2];show (0:Int)≤(j:Int)∧(j:Int)≤3*(f:Int);omega) (by show (sealL l (j:Int) (prgB r j)).length≤_;omega) (by show out.length≤_;omega);rw [hmm] at h3;have h4:zbw (balW 2 0 0 0 vb [r] (j:Int)).ms (prS f id tab out u,sealL l (j:Int) (prgB r j))=(0,(prS f id tab' out' u,l')):=hv;rw [show (balW 2 0 0 0 vb [r] (j:Int)).fm=(j:Int) from rfl] at h3;rw [h4] at h3;exact h3) (.inl rfl) (by show ([]:List _).length≤_;simp) (by show u≤_;omega) (by show (0:Int)≤_;omega) (by show (0:Int)≤_;omega) (by show (0:Int)≤_;omega)
 refine key.mono ?_;rintro e w' ⟨he,vp',vt',h5⟩;have h6:=(h5.perm (ss':=rnR rn vp' vt' (sealL l (j:Int) (prgB r j)) (mmR (balW 2 0 0 0 vb [r] (j:Int)) ss)) ((List.perm_append_comm (l₁:=[_,_,_,_,_,_]) (l₂:=[_,_,_])).append_right ss)).more hp;exact ⟨he,vp',vt',h6.perm ((List.perm_append_comm (l₁:=[_,_,_]) (l₂:=[_,_,_,_,_,_])).append_right ss)⟩
structure ToldT (f id:Nat) (r:Rq) (n:Nat) (i:Nat) (t:Td):Prop where
 h: ∃h:Nat→Bool,TdN f r h (n+1) t∧h id=true∧ ∀k,i≤k→k≠id→h k=false
def TabG (f id:Nat) (r:Rq) (n i:Nat) (done tab:List Td):Prop:=if n=0 then tab=done else∃t,tab=done++[t]∧ToldT f id r n i t
theorem TabG.skip {i:Nat} (h:TabG f id r n i done tab):TabG f id r n (i+1) done tab:=by
 unfold TabG at h⊢;split
 ·rename_i e;rw [if_pos e] at h;exact h
 ·rename_i e
  rw [if_neg e] at h;obtain ⟨t,e1,⟨g,h1,h2,h3⟩⟩:=h;exact ⟨t,e1,⟨g,h1,h2,fun k a b=>h3 k (by omega) b⟩⟩
theorem zuu (h:NdIs B w0 W x (prS f id tab out u) l (mmR (balW 2 0 0 0 vb [r] (j:Int)) (rnR rn vp vt l ss))) (hf1:1≤f) (hf2:f≤4) (hid:id≤3*f) (hq:RqGood 2 r) (hs:rqSealed l 2 r=true) (ht:1≤r.time) (hc0:0≤r.client) (hc1:r.client<2) (hj:j≤3*f) (hne:j≠id) (hd: ∀t∈done,cmpRq t.r r<0) (hdl:done.length<4) (hT:TabG f id r n j done tab) (hn:l.length≤100000) (ho:out.length≤100000) (hu:u≤100000):
  Calls Tryz.prog 23 #[ptrV x.p,.agg (twA x.nt rn),.agg (mmA (balW 2 0 0 0 vb [r] (j:Int)))] W fun e w'=>e= .returned (.tuple #[])∧ ∃tab' out' l' vp' vt',TabG f id r (n+1) (j+1) done tab'∧Px l l'∧l'.length≤l.length+2∧out'.length≤out.length+13∧NdIs B w0 w' x (prS f id tab' out' (u+1)) l' (mmR (balW 2 0 0 0 vb [r] (j:Int)) (rnR rn vp' vt' l' ss)):=by
 have hp1:=znu l (j:Int) (prgB r j);have hl1:=(zge l (j:Int) (prgB r j)).2;have hs1:=hp1.rqSealed hs;unfold TabG at hT;by_cases hz:n=0
 ·rw [if_pos hz] at hT
  subst hT hz;obtain ⟨t,o,l',e1,e2,e3,e4,e5⟩:=zv8 (u:=u) (out:=out) (l:=sealL l (j:Int) (prgB r j)) (f:=f) (id:=id) (m:=j) hs1 ht hc0 hc1 hf2 hid hj hne hd hdl;refine (zqx h hf1 hf2 hq hj hn ho hu e1 e4).mono ?_;rintro e w' ⟨he,vp',vt',h2⟩;refine ⟨he,_,_,l',vp',vt',?_,hp1.trans e4,by omega,by rw [List.length_append];omega,h2⟩;unfold TabG;rw [if_neg (by omega)];refine ⟨t,rfl,⟨_,e2,by unfold hAdd;rw [if_neg (fun e=>hne e.symm),if_pos rfl],fun k a b=> ?_⟩⟩;unfold hAdd;rw [if_neg (by omega),if_neg b]
 ·rw [if_neg hz] at hT
  obtain ⟨t,rfl,⟨g,h1,h2,h3⟩⟩:=hT;obtain ⟨t',e1,e2⟩:=req_next (u:=u) (out:=out) (l:=sealL l (j:Int) (prgB r j)) (f:=f) (id:=id) (m:=j) h1 hs1 ht hc0 hc1 hf2 hid hj h2 (h3 j (Nat.le_refl _) hne) hd;refine (zqx h hf1 hf2 hq hj hn ho hu e1 (.refl _)).mono ?_;rintro e w' ⟨he,vp',vt',h4⟩;refine ⟨he,_,_,_,vp',vt',?_,hp1,by omega,by omega,h4⟩;unfold TabG;rw [if_neg (by omega)];refine ⟨t',rfl,⟨_,e2,?_,fun k a b=> ?_⟩⟩
  ·unfold hAdd
   rw [if_neg (fun e=>hne e.symm)];exact h2
  ·unfold hAdd
   rw [if_neg (by omega)];exact h3 k (by omega) b
end
structure SumR (l:Nt) (r:Rq):Prop where
 client:r.client=1
 kind:r.kind=5
 key:r.key=0
 val:r.val=0
 time:1≤r.time
 good:RqGood 2 r
 s:rqSealed l 2 r=true
theorem SumR.px {l l':Nt} {r:Rq} (h:SumR l r) (hp:Px l l'):SumR l' r:=⟨h.client,h.kind,h.key,h.val,h.time,h.good,hp.rqSealed h.s⟩
theorem sum_new {l:Nt} {t:Int} (h1:1≤t) (h2:t≤50) (hn:l.length≤1000000):SumR (rqSL l ⟨1,t,5,0,0,0⟩) (rqS l ⟨1,t,5,0,0,0⟩):=by
 have hg:RqGood 2 ⟨1,t,5,0,0,0⟩:=⟨by unfold okReq inW zcr;simp;omega,by omega⟩;obtain ⟨a,b⟩:=rqS_ok (l:=l) hg (by omega);have e: ∃sl,rqS l ⟨1,t,5,0,0,0⟩=⟨1,t,5,0,0,sl⟩:=by
  unfold rqS;split
  ·exact ⟨_,rfl⟩
  ·exact ⟨0,rfl⟩
 obtain ⟨sl,e⟩:=e;rw [e] at a b⊢;exact ⟨rfl,rfl,rfl,rfl,h1,a,b⟩
theorem zxl {l:Nt} {rs:List Rq} (h: ∀r∈rs,SumR l r):Fam rs:=by
 intro a ha b hb;have h1:=h a ha;have h2:=h b hb;refine ⟨h1.client.trans h2.client.symm,h1.kind.trans h2.kind.symm,h1.key.trans h2.key.symm,h1.val.trans h2.val.symm,fun ht=> ?_⟩;have s1:=h1.s;have s2:=h2.s;unfold rqSealed at s1 s2;simp only [Bool.and_eq_true,beq_iff_eq] at s1 s2;obtain ⟨c1,k1,y1,v1⟩:=(⟨h1.client,h1.kind,h1.key,h1.val⟩:_∧_∧_∧_);obtain ⟨c2,k2,y2,v2⟩:=(⟨h2.client,h2.kind,h2.key,h2.val⟩:_∧_∧_∧_);obtain ⟨ac,at_,ak,ay,av,as_⟩:=a;obtain ⟨bc,bt,bk,bY,bv,bs⟩:=b;simp only at c1 k1 y1 v1 c2 k2 y2 v2 ht;subst c1 k1 y1 v1 c2 k2 y2 v2 ht;have e1:findN l (100+1) (rqB0 ⟨1,at_,5,0,0,0⟩)=as_:=s1.2.2;have e2:findN l (100+1) (rqB0 ⟨1,at_,5,0,0,0⟩)=bs:=s2.2.2;rw [e1.symm.trans e2]
section
variable {f id k n:Nat} {u:Int} {r:Rq} {rs:List Rq} {done tab tab':List Td} {out:List (Int×Bys)} {l l':Nt}
def DoneT (f:Nat) (rs:List Rq) (k i:Nat) (tab:List Td):Prop:=
 if k=0 then tab=[] else tab.length=i∧ ∀m (hm:m<tab.length),∃h,TdN f (reqAt rs m) h (k+1) tab[m]
theorem DoneT.zero (f:Nat) (rs:List Rq) (k:Nat):DoneT f rs k 0 []:=by
 unfold DoneT;split
 ·rfl
 ·exact ⟨rfl,fun m hm=>absurd hm (by simp)⟩
theorem DoneT.len {i:Nat} (h:DoneT f rs k i tab):tab.length≤i:=by
 unfold DoneT at h;split at h
 ·rw [h];simp
 ·omega
theorem DoneT.lt {i:Nat} (h:DoneT f rs k i tab) (hR:RiseT rs) (hF:Fam rs) (hi:i<rs.length): ∀t∈tab,cmpRq t.r (reqAt rs i)<0:=by
 unfold DoneT at h;split at h
 ·rw [h];intro t ht;cases ht
 ·intro t ht
  obtain ⟨m,hm,rfl⟩:=List.mem_iff_getElem.1 ht;obtain ⟨g,hg⟩:=h.2 m hm;have hml:m<rs.length:=by omega
  have hat: ∀j (hj:j<rs.length),reqAt rs j=rs[j]:=fun j hj=>by
   unfold reqAt;rw [List.getD_eq_getElem?_getD,List.getElem?_eq_getElem hj];rfl
  rw [hg.r,hat m hml,hat i hi];exact (zxk hF (List.getElem_mem hml) (List.getElem_mem hi)).2 (List.pairwise_iff_getElem.1 hR m i hml hi (by omega))
theorem DoneT.next {i j:Nat} (h:DoneT f rs k i done) (hT:TabG f id (reqAt rs i) k j done tab):DoneT f rs k (i+1) tab:=by
 unfold DoneT at h⊢;unfold TabG at hT;by_cases hk:k=0
 ·rw [if_pos hk] at h hT⊢
  rw [hT,h]
 ·rw [if_neg hk] at h hT⊢
  obtain ⟨t,rfl,⟨g,h1,-⟩⟩:=hT;obtain ⟨h2,h3⟩:=h;refine ⟨by simp [h2],fun m hm=> ?_⟩;by_cases hmi:m<done.length
  ·obtain ⟨g2,h4⟩:=h3 m hmi
   exact ⟨g2,by rw [List.getElem_append_left hmi];exact h4⟩
  ·have:m=done.length:=by simp at hm;omega
   subst this;refine ⟨g,?_⟩;rw [List.getElem_append_right (Nat.le_refl _)];simp only [Nat.sub_self,List.getElem_cons_zero];rw [h2];exact h1
theorem DoneT.start {i:Nat} (done:List Td):TabG f id (reqAt rs i) 0 0 done done:=by
 unfold TabG;rw [if_pos rfl]
theorem DoneT.ready (h:DoneT f rs k rs.length tab):zai tab=(if f≤k∧0<k then rs else [])∧ ∀t∈tab,t.since=0:=by
 unfold DoneT at h;by_cases hk:k=0
 ·rw [if_pos hk] at h
  subst h;rw [if_neg (by omega)];exact ⟨rfl,fun t ht=>by cases ht⟩
 ·rw [if_neg hk] at h
  obtain ⟨h1,h2⟩:=h;have hr: ∀t∈tab,t.ready=decide (f+1≤k+1)∧t.since=0:=fun t ht=>by
   obtain ⟨m,hm,rfl⟩:=List.mem_iff_getElem.1 ht;obtain ⟨g,hg⟩:=h2 m hm;exact ⟨hg.rd,hg.sc⟩
  refine ⟨?_,fun t ht=>(hr t ht).2⟩;unfold zai;by_cases hf:f≤k
  ·rw [if_pos ⟨hf,by omega⟩]
   have e:tab.filter (·.ready)=tab:=List.filter_eq_self.2 (fun t ht=>by rw [(hr t ht).1,decide_eq_true (by omega)]);rw [e];refine List.ext_getElem (by simpa using h1) (fun m a b=> ?_);rw [List.getElem_map];obtain ⟨g,hg⟩:=h2 m (by simpa using a);rw [hg.r];unfold reqAt;rw [List.getD_eq_getElem?_getD,List.getElem?_eq_getElem b];rfl
  ·rw [if_neg (by omega)]
   have e:tab.filter (·.ready)=[]:=List.filter_eq_nil_iff.2 (fun t ht=>by rw [(hr t ht).1];simp;omega);rw [e];rfl
theorem prS_on {out:List (Int×Bys)}:OnS (prS f (id:Int) tab out u):=fun k hk=>by rw [pp_ins (by exact hk)];rfl
theorem up_on {out:List (Int×Bys)}:OnS {prS f (id:Int) tab out u with now:=1}:=fun k hk=>by
 show (insAt (prS f (id:Int) tab out u) k).on=true;exact prS_on k hk
theorem up_is {out:List (Int×Bys)}:zeh (prS f (id:Int) tab out u,l)=({prS f (id:Int) tab out u with now:=1},l):=rfl
theorem up_ins {out:List (Int×Bys)} (hk:k<f+1):insAt {prS f (id:Int) tab out u with now:=1} k=newI f (k:Int) 4:=by
 show insAt (prS f (id:Int) tab out u) k=_;exact pp_ins hk
theorem up_len {out:List (Int×Bys)}:({prS f (id:Int) tab out u with now:=1}:Ns).ins.length=f+1:=by
 show (newS (stdC f) (id:Int)).ins.length=f+1;have e:(newS (stdC f) (id:Int)).ins=(List.range (f+1)).map fun (k:Nat)=>newI f (k:Int) 4:=rfl;rw [e];simp
structure ProT (f id:Nat) (b:List Rq) (l:Nt) (q:NSt):Prop where
 o: ∃(b3 b4:Bys) (sl3 sl4:Int),q.1.out=((zaz (3*f+1) (id:Int)).map fun k=>(k,b3))++((zaz (3*f+1) (id:Int)).map fun k=>(k,b4))∧openP q.2 f 2 b3=some (crtM 3 0 id 1 b id,sl3)∧openP q.2 f 2 b4=some (crtM 4 0 id 1 b id,sl4)
 px:Px l q.2
 n:q.2.length≤l.length+2
theorem zo9 {p:NSt} {k:Nat} (h:zai p.1.tab=[]):zaw p k=p:=by
 unfold zaw;simp only [h,pickB,List.foldl_nil,List.isEmpty_nil,Bool.true_or,if_true,ite_self]
theorem zye (hf1:1≤f) (hf:f≤4) (hid:id≤3*f) (ht:zai tab=[]∨f<id) (hz: ∀t∈tab,t.since=0):
  (∀k,k<f+1→PrQ (pr1 (zeh (prS f (id:Int) tab [] u,l)) k) k)∧QA (prS f (id:Int) tab [] u,l)∧QT (prS f (id:Int) tab [] u,l)∧(tickS (prS f (id:Int) tab [] u,l)).1.out=[]∧(tickS (prS f (id:Int) tab [] u,l)).1.c=stdC f∧(tickS (prS f (id:Int) tab [] u,l)).2=l∧(tickS (prS f (id:Int) tab [] u,l)).1.stop=false:=by
 obtain ⟨s,hs⟩: ∃s:Ns,s= {prS f (id:Int) tab [] u with now:=1}:=⟨_,rfl⟩;have hno: ∀k,k<f+1→zaw (s,l) k=(s,l):=fun k hk=>by
  rcases ht with h | h
  ·exact zo9 (by rw [hs];exact h)
  ·exact pr_no (.inr (.inl (zfm (f:=f) (id:=id) (by subst hs;rfl) (by subst hs;rfl) (by subst hs;rfl) (by omega) (by omega))))
 have hp: ∀k,k≤f+1→pr1 (s,l) k=(s,l):=fun k hk=>pr1_no k (fun j hj=>hno j (by omega));have h1:tick1 (s,l)=(s,l):=by
  have:=hp (f+1) (Nat.le_refl _);rw [hs] at this⊢;exact this
 obtain ⟨t2,t3,t4,t5,a1,a2,a3⟩:=zn8 (f:=f) (l:=l) s (by subst hs;rfl) hf1 hf (by subst hs;rfl) (by subst hs;rfl) (by subst hs;rfl) (by subst hs;rfl) (by rw [hs];exact hz) (by rw [hs];exact up_on);have e:tickS (prS f (id:Int) tab [] u,l)=(s,l):=by
  rw [zms,if_neg (by show¬(false=true);simp),if_neg (by show¬((1048576:Int)≤0);omega),up_is,←hs,h1,t2,t3,t4,t5]
 refine ⟨fun k hk=> ?_,?_,?_,?_,?_,?_,?_⟩
 ·rw [up_is,←hs,hp k (by omega)]
  rcases ht with h | h
  ·exact .inl (by rw [hs];exact h)
  ·exact .inr (.inl (zfm (f:=f) (id:=id) (by subst hs;rfl) (by subst hs;rfl) (by subst hs;rfl) (by omega) (by omega)))
 ·unfold QA
  rw [up_is,←hs,h1,hs];show¬(1:Int)%2=0;decide
 ·unfold QT
  rw [up_is,←hs,h1,t2,t3,t4];simp only;exact ⟨by rw [a1];rfl,by rw [a2,Bool.and_false],by rw [a3,Bool.and_false]⟩
 ·rw [e,hs];rfl
 ·rw [e,hs];rfl
 ·rw [e]
 ·rw [e];subst hs;rfl
theorem tick_yes (hf1:1≤f) (hf:f≤4) (hid:id≤f) (ht:zai tab=rs) (hne:rs≠[]) (hq: ∀r∈rs,RqGood 2 r) (hz: ∀t∈tab,t.since=0) (hl:l.length≤900000000):
  (∀k,k<f+1→PrQ (pr1 (zeh (prS f (id:Int) tab [] u,l)) k) k)∧QA (prS f (id:Int) tab [] u,l)∧QT (prS f (id:Int) tab [] u,l)∧ProT f id (rs.take 2) l (tickS (prS f (id:Int) tab [] u,l))∧(tickS (prS f (id:Int) tab [] u,l)).1.c=stdC f:=by
 obtain ⟨s,hs⟩: ∃s:Ns,s= {prS f (id:Int) tab [] u with now:=1}:=⟨_,rfl⟩;have hsc:s.c=stdC f:=by subst hs;rfl
 have hsv:s.view=0:=by subst hs;rfl
 have hsi:s.id=(id:Int):=by subst hs;rfl
 have hst:s.tab=tab:=by subst hs;rfl
 have hso:OnS s:=by rw [hs];exact up_on
 have hsn:s.now=1:=by subst hs;rfl
 obtain ⟨q,b3,b4,sl3,sl4,e1,e2,⟨c1,c2,c3,c4,c5,c6,c7,c8,c9⟩,e4,e5,e6,e7,e8⟩:=pro_go (l:=l) (rs:=rs) s hl hsc hsv hsi (by subst hs;rfl) (by rw [hs];exact up_ins (by omega)) (by rw [hs,up_len];omega) hf1 hf hid (by rw [hst];exact ht) hne hq hso;have hno1: ∀k,k<id→zaw (s,l) k=(s,l):=fun k hk=>pr_no (.inr (.inl (zfm (f:=f) (id:=id) (congrArg Cf.f hsc) hsv hsi (by omega) (by omega))));have hno2: ∀k,id<k→k<f+1→zaw q k=q:=fun k a b=>pr_no (.inr (.inl (zfm (f:=f) (id:=id) (congrArg Cf.f (c1.trans hsc)) c2 c3 (by omega) (by omega))));have hp1: ∀k,k≤id→pr1 (s,l) k=(s,l):=fun k hk=>pr1_no k (fun j hj=>hno1 j (by omega));have hp2: ∀n,id+1+n≤f+1→pr1 (s,l) (id+1+n)=q:=fun n hn=>pr1_one (n:=n) hno1 e1 (fun k a b=>hno2 k a (by omega));have h1:tick1 (s,l)=q:=by
  have:=hp2 (f-id) (by omega);have e:id+1+(f-id)=s.c.f+1:=by rw [hsc];show id+1+(f-id)=f+1;omega
  rw [e] at this;exact this
 have hqe:(q.1,q.2)=q:=rfl;obtain ⟨t2,t3,t4,t5,a1,a2,a3⟩:=zn8 (f:=f) (l:=q.2) q.1 (by rw [c1,hsc]) hf1 hf (by rw [c5,hsn]) (by rw [c6,hs];rfl) (by rw [c7,hs];rfl) (by rw [c8,hs];rfl) (by rw [c4,hst];exact hz) c9;rw [hqe] at t2 t3 t4 t5;have e:tickS (prS f (id:Int) tab [] u,l)=q:=by
  rw [zms,if_neg (by show¬(false=true);simp),if_neg (by show¬((1048576:Int)≤0);omega),up_is,←hs,h1,t2,t3,t4,t5]
 refine ⟨fun k hk=> ?_,?_,?_,?_,?_⟩
 ·rw [up_is,←hs]
  by_cases hki:k<id
  ·rw [hp1 k (by omega)]
   exact .inr (.inl (zfm (f:=f) (id:=id) (congrArg Cf.f hsc) hsv hsi (by omega) (by omega)))
  ·by_cases hke:k=id
   ·subst hke
    rw [hp1 k (Nat.le_refl _)];refine .inr (.inr ?_);have hin:insAt s k=newI f (k:Int) 4:=by rw [hs];exact up_ins (by omega)
    have hpk:pickB (insAt s k) s.c.bt (zai s.tab)=rs.take 2:=by
     rw [hin,hsc,hst,ht];exact picksK rs
    have hnx:((nextI (insAt s k):Nat):Int)=1:=by rw [hin,nextK];rfl
    simp only;rw [hpk,hnx,hsv];exact e2
   ·obtain ⟨n,rfl⟩: ∃n,k=id+1+n:=⟨k-id-1,by omega⟩
    rw [hp2 n (by omega)];exact .inr (.inl (zfm (f:=f) (id:=id) (congrArg Cf.f (c1.trans hsc)) c2 c3 (by omega) (by omega)))
 ·unfold QA
  rw [up_is,←hs,h1,c5,c1,hsn,hsc];show¬(1:Int)%2=0;decide
 ·unfold QT
  rw [up_is,←hs,h1,t2,t3,t4];exact ⟨by rw [a1];rfl,by rw [a2,Bool.and_false],by rw [a3,Bool.and_false]⟩
 ·rw [e]
  exact ⟨⟨b3,b4,sl3,sl4,e4,e5,e6⟩,e7,e8⟩
 ·rw [e,c1,hsc]
end
structure EndP (f id:Nat) (b:List Rq) (g:Bool) (l:Nt) (out:List (Int×Bys)):Prop where
 n:out.length=if g then 6*f else 0
 o: ∀(j:Nat) (o:Int×Bys),out[j]?=some o→g=true∧ ∃sl,openP l f 2 o.2=some (crtM (if j<3*f then 3 else 4) 0 id 1 b id,sl)
theorem EndP.nil (f id:Nat) (b:List Rq) (l:Nt):EndP f id b false l []:=⟨rfl,fun j o h=>by simp at h⟩
theorem ProT.e {f id:Nat} {b:List Rq} {l:Nt} {q:NSt} (h:ProT f id b l q) (hid:id≤3*f):EndP f id b true q.2 q.1.out:=by
 obtain ⟨b3,b4,sl3,sl4,e1,e2,e3⟩:=h.o;have hl:=other_is hid;unfold zrz at hl;refine ⟨?_,fun j o hj=>⟨rfl,?_⟩⟩
 ·rw [e1]
  simp only [List.length_append,List.length_map,hl,if_true];omega
 ·rw [e1,List.getElem?_append] at hj
  rw [List.length_map,hl] at hj;by_cases hlt:j<3*f
  ·rw [if_pos hlt,List.getElem?_map] at hj
   rw [if_pos hlt];cases hp:(zaz (3*f+1) (id:Int))[j]? with
   | none=>rw [hp] at hj;simp at hj
   | some p=>
    rw [hp] at hj;simp only [Option.map_some,Option.some.injEq] at hj;subst hj;exact ⟨sl3,e2⟩
  ·rw [if_neg hlt,List.getElem?_map] at hj
   rw [if_neg hlt];cases hp:(zaz (3*f+1) (id:Int))[j-3*f]? with
   | none=>rw [hp] at hj;simp at hj
   | some p=>
    rw [hp] at hj;simp only [Option.map_some,Option.some.injEq] at hj;subst hj;exact ⟨sl4,e3⟩
section
variable {B:Nat} {w0 w W W':World} {ss rs:List Res} {x:Np} {s:Ns} {l L:Nt} {f id k:Nat} {u:Int} {R b:List Rq} {tab:List Td} {g:Bool}
theorem pt_pp {out:List (Int×Bys)}:PtOk (prS f (id:Int) tab out u):=fun q hq c hc=>by
 have h2:q∈List.replicate (3*f+1) ((0,noPa):Int×Pa):=hq;have:q=(0,noPa):=List.eq_of_mem_replicate h2;subst this;cases hc
theorem pp_tick (h:NdIs B w0 W x (prS f (id:Int) tab [] u) L ss) (hf1:1≤f) (hf:f≤4) (hid:id≤3*f) (hD:DoneT f R k R.length tab) (hR: ∀r∈R,RqGood 2 r) (hn:L.length≤100000)
  (hg:g=(decide (f≤k∧0<k∧0<R.length)&&decide (id≤f))):
  Calls Tryz.prog 33 #[ptrV x.p] W fun e w'=>e= .returned (.tuple #[])∧ ∃s' l',EndP f id (R.take 2) g l' s'.out∧s'.c=stdC f∧NdIs B w0 w' x s' l' ss:=by
 obtain ⟨hrd,hsi⟩:=hD.ready;by_cases hgo:g=true
 ·have h2:=hgo
  rw [hg] at h2;simp only [Bool.and_eq_true,decide_eq_true_eq] at h2;obtain ⟨⟨g1,g2,g3⟩,g4⟩:=h2;rw [if_pos ⟨g1,g2⟩] at hrd;obtain ⟨q1,q2,q3,q4,q5⟩:=tick_yes (u:=u) (l:=L) hf1 hf g4 hrd (fun e=>by rw [e] at g3;simp at g3) hR hsi (by omega);refine (zl0 (.inl q1) (.inl q2) (.inl q3) h pt_pp (by omega) (by show ([]:List (Int×Bys)).length≤_;simp)).mono ?_;rintro e w' ⟨he,hN,-⟩;refine ⟨he,_,_,?_,q5,hN⟩;rw [hgo];exact q4.e (by omega)
 ·have hgf:g=false:=by simpa using hgo
  have hno:zai tab=[]∨f<id:=by
   rw [hg] at hgf;simp only [Bool.and_eq_false_iff,decide_eq_false_iff_not] at hgf;rcases hgf with h1 | h1
   ·left
    rw [hrd];split
    ·rename_i h2
     have:R.length=0:=by
      by_cases h3:0<R.length
      ·exact absurd ⟨h2.1,h2.2,h3⟩ h1
      ·omega
     exact List.eq_nil_of_length_eq_zero this
    ·rfl
   ·right;omega
  obtain ⟨q1,q2,q3,q4,q5,q6⟩:=zye (u:=u) (l:=L) (id:=id) hf1 hf hid hno hsi;refine (zl0 (.inl q1) (.inl q2) (.inl q3) h pt_pp (by omega) (by show ([]:List (Int×Bys)).length≤_;simp)).mono ?_;rintro e w' ⟨he,hN,-⟩;refine ⟨he,_,_,?_,q5,hN⟩;rw [q4,hgf];exact EndP.nil _ _ _ _
abbrev kW (f:Nat) (g:Bool):Int:=if g then 3*(f:Int) else 0
def ksP (f:Nat) (g:Bool):List Int:=if g then List.replicate (3*f) 3++List.replicate (3*f) 4 else []
theorem zzj (f:Nat) (g:Bool):zu3 (ksP f g)=[0,0,0,kW f g,kW f g,0,0,0,0,0,0]:=by
 unfold zu3 ksP;cases g with
 | false=>rfl
 | true=>
  rw [if_pos rfl,zhw];have e4:=zfj 3 (3*f) (List.replicate 11 0) (by simp);rw [show ((3:Nat):Int)=3 from rfl] at e4;rw [e4];have e1:(List.replicate 11 (0:Int)).set 3 ((List.replicate 11 (0:Int)).getD 3 0+((3*f:Nat):Int))=[0,0,0,3*(f:Int),0,0,0,0,0,0,0]:=by
   show [0,0,0,0+((3*f:Nat):Int),0,0,0,0,0,0,0]=_;have:0+((3*f:Nat):Int)=3*(f:Int):=by omega
   rw [this]
  rw [e1];have e5:=zfj 4 (3*f) [0,0,0,3*(f:Int),0,0,0,0,0,0,0] (by simp);rw [show ((4:Nat):Int)=4 from rfl] at e5;rw [e5];show [0,0,0,3*(f:Int),0+((3*f:Nat):Int),0,0,0,0,0,0]=_;have:0+((3*f:Nat):Int)=3*(f:Int):=by omega
  rw [this];rfl
theorem EndP.at {os:List Sd} {out:List (Int×Bys)} (h:EndP f id b g l out) (ho:os.map Sd.p=out) (j:Nat) (hj:j<os.length):g=true∧ ∃sl,openP l f 2 os[j].b=some (crtM (if j<3*f then 3 else 4) 0 id 1 b id,sl):=by
 have e1:out[j]?=some (Sd.p os[j]):=by rw [←ho,List.getElem?_map,List.getElem?_eq_getElem hj];rfl
 exact h.o j _ e1
theorem EndP.len {os:List Sd} {out:List (Int×Bys)} (h:EndP f id b g l out) (ho:os.map Sd.p=out):os.length=if g then 6*f else 0:=by
 rw [←h.n,←ho,List.length_map]
theorem pp_kinds {oa:Option Addr} {k:Nat} {os:List Sd} {out:List (Int×Bys)} (hE:EndP f id b g l out) (hc:s.c=stdC f) (hf:f≤4) (hos:os.map Sd.p=out) (h:NdIs B w0 W x s l (redR (.slice oa os.length k) 2 os.length (os.flatMap sdC)::sdsR os::ss)):
  Calls Tryz.prog 39 #[.slice oa os.length k,.agg #[.int .i64 f,.int .i64 2,.int .i64 2,.int .i64 4,.int .i64 64,.int .i64 8,.int .i64 8,.int .i64 8,.int .i64 1,.int .i64 2,.int .i64 12,.int .i64 8,.int .i64 6,.int .i64 2,.int .i64 6],ptrV x.nt] W fun e w'=>e= .returned (.agg #[.int .i64 0,.int .i64 0,.int .i64 0,.int .i64 (kW f g),.int .i64 (kW f g),.int .i64 0,.int .i64 0,.int .i64 0,.int .i64 0,.int .i64 0,.int .i64 0])∧NdIs B w0 w' x s l (redR (.slice oa os.length k) 2 os.length (os.flatMap sdC)::sdsR os::ss):=by
 have hl:=hE.len hos;have hlk:(ksP f g).length=os.length:=by
  rw [hl];unfold ksP;cases g with
  | false=>rfl
  | true=>simp;omega
 have hlen:os.length≤1000000000:=by
  rw [hl];cases g<;>simp
  omega
 have h1:=zu4 (s:=s) (l:=l) (os:=os) (ks:=ksP f g) hlk (fun j hj hj2=>by
  obtain ⟨hg,sl,e2⟩:=hE.at hos j hj;refine ⟨_,sl,by rw [hc];exact e2,?_⟩;have hkk:(ksP f g)[j]=if j<3*f then 3 else 4:=by
   unfold ksP;simp only [hg,if_true];rw [List.getElem_append];simp only [List.length_replicate];split
   ·rw [List.getElem_replicate]
   ·rw [List.getElem_replicate]
  rw [hkk];refine ⟨rfl,?_⟩;split<;>omega) hlen h
 rw [zzj,hc] at h1;exact h1
end
section
variable {B:Nat} {w0 W:World} {x:Np} {ss:List Res} {l:Nt}
theorem wk_tick (h:NdIs B w0 W x (prS 1 ((0:Nat):Int) [] [] 0) [] ss):
  Calls Tryz.prog 33 #[ptrV x.p] W fun e w'=>e= .returned (.tuple #[])∧ ∃s' l',s'.out=[]∧s'.stop=false∧NdIs B w0 w' x s' l' ss:=by
 obtain ⟨q1,q2,q3,q4,-,-,q7⟩:=zye (f:=1) (id:=0) (tab:=[]) (u:=0) (l:=[]) (by omega) (by omega) (by omega) (.inl rfl) (fun t ht=>by cases ht);refine (zl0 (.inl q1) (.inl q2) (.inl q3) h pt_pp (by simp) (by show ([]:List (Int×Bys)).length≤_;simp)).mono ?_;rintro e w' ⟨he,hN,-⟩;exact ⟨he,_,_,q4,q7,hN⟩
variable {s:Ns}
theorem zrp (h:NdIs B w0 W x s l ss):Calls Tryz.prog 52 #[ptrV x.p] W fun e w'=>e= .returned (.bool s.stop)∧W=w':=by
 have c:=h.cell 33 rfl (by decide);clear h;go_enter Tryz.func52,Tryz.ntmps52
 go_wp2_with fail
 go_ret
 exact ⟨rfl,rfl⟩
end
theorem zhi (W:World):Calls Tryz.prog 19 #[] W fun e w'=>e= .returned (.bool true)∧Upd [] W w':=by
 have HN:=zq (zj6 (Own.start (Below.refl W.heap.size W) (Nat.le_refl _)));have HS:Hid (∀w,Calls Tryz.prog 46 #[.int .i64 1] w fun e w'=>e= .returned (.agg (cfA (stdC 1)))∧Upd [] w w'):=zq (fun w=>stdAny 1 w);go_enter Tryz.func19,Tryz.ntmps19
 go_wp2_with fail
 refine HN.out.mono ?_;rintro e w1 ⟨nt,nm,rfl,h1⟩;have H1:=zq h1;clear h1 HN
 go_wp2_with fail
 with_reducible refine (HS.out _).mono ?_
 rintro e w2 ⟨rfl,hu⟩;have H2:=zq (H1.out.upd0 hu);clear hu H1 HS;have HX:=zq (znf (zn2 (f:=1) (by omega) (by omega)) 0 nt (by omega) (by show (0:Int)≤3*((1:Nat):Int);omega) H2.out)
 go_wp2_with fail
 refine HX.out.mono ?_;rintro e w3 ⟨x,v,rfl,hxn,hv,h3⟩;obtain ⟨y,hy⟩: ∃y:Np,y= {x with nm:=nm}:=⟨_,rfl⟩;have H3:Hid (NdIs W.heap.size W w3 y (prS 1 ((0:Nat):Int) [] [] 0) [] []):=zq (by
  rw [hy];have k1:Own W.heap.size W w3 [nsR x (newS (stdC 1) 0) v,blk nt (noB nm),ntR nm []]:=(zr3 (h3.front 2 rfl rfl)).back 2 (by simp) rfl;show NdIs W.heap.size W w3 {x with nm:=nm} (newS (stdC 1) 0) [] [];exact zxt (c:=stdC 1) (id:=0) (zn2 (f:=1) (by omega) (by omega)) (by omega) (by show (0:Int)≤3*((1:Nat):Int);omega) hxn hv k1)
 have hp:x.p=y.p:=by rw [hy]
 rw [hp];clear hxn hv h3 hy hp H2 HX;have HV:Hid (Calls Tryz.prog 24 #[ptrV y.p] w3 fun e w'=>e= .returned (.int .i64 0)∧w3=w'):=zq (zvj H3.out);have HI:Hid (Calls Tryz.prog 25 #[ptrV y.p,.int .i64 0] w3 fun e w'=>e= .returned (.bool true)∧Upd [] w3 w'):=zq (zis H3.out)
 go_wp2_with fail
 with_reducible refine HV.out.mono ?_
 rintro e w' ⟨rfl,rfl⟩
 go_wp2_with fail
 with_reducible refine HI.out.mono ?_
 rintro e w4 ⟨rfl,hu⟩;have H4:=zq (H3.out.upd0 hu);clear hu HV HI H3;have HW:Hid (Calls Tryz.prog 40 #[ptrV y.p] w4 fun e w'=>e= .returned (.int .i64 (-1))∧w4=w'):=zq (zrs H4.out)
 go_wp2_with fail
 with_reducible refine HW.out.mono ?_
 rintro e w' ⟨rfl,rfl⟩;have HT:=zq (wk_tick H4.out);clear HW H4
 go_wp2_with fail
 with_reducible refine HT.out.mono ?_
 rintro e w5 ⟨rfl,s2,l2,ho,hst,h5⟩;have HO:=zq (zl2 h5);clear h5 HT
 go_wp2_with fail
 with_reducible refine HO.out.mono ?_
 rintro e w6 ⟨a,k,os,rfl,hos,h6⟩;rw [ho] at hos;have hos2:os=[]:=by simpa using hos
 subst hos2;have HU:Hid (Upd [] W w6):=zq (nd_upd h6);have HP:Hid (Calls Tryz.prog 52 #[ptrV y.p] w6 fun e w'=>e= .returned (.bool false)∧w6=w'):=zq ((zrp h6).mono (fun e w' ⟨he,hw⟩=>⟨by rw [he];exact congrArg (fun b=>Ending.returned (.bool b)) hst,hw⟩));clear h6 HO hos ho hst
 go_wp2_with fail
 with_reducible refine HP.out.mono ?_
 rintro e w' ⟨rfl,rfl⟩
 go_wp2_with fail
 go_ret
 exact ⟨rfl,HU.out⟩
end Go.Proofs.YtannckelmojkoaaGreat
