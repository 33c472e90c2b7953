/- Parts of the proof, one behind the other. -/
import Derived.Test.YtannckelmojkoaaGreatVwsB15
import Derived.Maps.OwnSet
import Derived.Maps.OwnOps
import Derived.DeepKeys4
set_option maxHeartbeats 32000000
set_option maxRecDepth 100000
set_option linter.unusedVariables false
set_option linter.unusedSimpArgs false
namespace Go.Proofs.YtannckelmojkoaaGreat
open Go.RowKit Go.Heap Go.Maps
theorem Tryz.keyrow:(194:TypeId)<Tryz.prog.types.size:=of_decide_eq_true (by kernel_rfl)
theorem Tryz.keyat:Tryz.prog.keyTypeAt 2 194=true:=by kernel_rfl
theorem Tryz.keylaw:Keyed Tryz.prog 194:=Keyed.of_law (deep_law_laid Tryz.laidOut (m:=2) (by omega) Tryz.keyrow Tryz.keyat (by rw [Tryz.ukey]))
abbrev klit (p:Int) (s:ByteArray):Lit:= .string (keyBytes [.int .i64 p,.string s.data.toList])
theorem txt_size (b:Bys):(txt b).size=b.length:=by
 have h:(txt b).data.toList.length=b.length:=by
  unfold txt;rw [strOfNums_data];simp
 simpa using h
theorem Tryz.tysz: ∃m,Tryz.prog.types.size=m+1:=Nat.exists_eq_add_one.2 (of_decide_eq_true (by kernel_rfl))
theorem Tryz.keyt:Tryz.prog.keyType 194=true:=by kernel_rfl
theorem Tryz.keyc:Tryz.prog.cellsOf 194=2:=by kernel_rfl
theorem Tryz.intc:Tryz.prog.cellsOf 3=1:=by kernel_rfl
theorem Tryz.strc:Tryz.prog.cellsOf 9=1:=by kernel_rfl
theorem key_of {p:Int} {s:ByteArray} (hp:(Lit.int .i64 p).wf=true) (hs:s.size≤maxLen):keyOf Tryz.prog 194 (nkey p s)=some (klit p s):=by
 obtain ⟨m,hm⟩:=Tryz.tysz;obtain ⟨a1,a2,a3⟩:=Tryz.kf0;obtain ⟨b1,b2,b3⟩:=Tryz.kf1;have hk:=Tryz.kf;have hu:=Tryz.ukey;have h1:=Tryz.keyt;have h2:=Tryz.keyc;have h3:=Tryz.intc;have h4:=Tryz.strc;have h5:=Tryz.pk1;have h6:=Tryz.pk2;rw [hk] at hu;generalize (Tryz.prog.fieldsOf 194)[0]! =f0 at*;generalize (Tryz.prog.fieldsOf 194)[1]! =f1 at*;clear hk;have he:m+1=m+1:=rfl;obtain ⟨m',hm'⟩: ∃m',m=m'+1:=by
  have:(1:Nat)<Tryz.prog.types.size:=of_decide_eq_true (by kernel_rfl);exact ⟨m-1,by omega⟩
 generalize Tryz.prog=P at*;unfold keyOf;simp only [hu];rw [if_pos (by simp [h1,nkey,Value.formed,hu,h2]),hm,hm'];unfold Program.keyLits;simp only [hu,nkey,Value.cells];rw [if_pos (by simp [h2,a1,b1])];unfold Program.keyLits;simp [a2,a3,b2,b3,h3,h4,h5,h6,hp,hs]
theorem zrb {p:Int} {s:ByteArray}:WideAt.IsKeyLit (klit p s):=trivial
structure SOk (x:Int×Bys):Prop where
 p1: -9223372036854775808≤x.1
 p2:x.1≤9223372036854775807
 b: ∀c∈x.2,c<256
 n:x.2.length≤100000
theorem SOk.wf {x:Int×Bys} (h:SOk x):(Lit.int .i64 x.1).wf=true:=WalkArith.wf_i64 ⟨h.p1,by have:=h.p2;omega⟩
theorem SOk.key {x:Int×Bys} (h:SOk x):keyOf Tryz.prog 194 (nkey x.1 (txt x.2))=some (klit x.1 (txt x.2)):=
 key_of h.wf (by rw [txt_size];have:=h.n;unfold maxLen;omega)
theorem zl5 {x y:Int×Bys} (hx:SOk x) (hy:SOk y) (h:klit x.1 (txt x.2)=klit y.1 (txt y.2)):x=y:=by
 have h1:=hx.key;rw [h] at h1;have h2:=Tryz.keylaw.inj h1 hy.key;unfold nkey at h2;simp only [Value.agg.injEq] at h2;have h3:=congrArg Array.toList h2;simp only [List.cons.injEq,Value.int.injEq,true_and,Value.string.injEq,and_true] at h3;exact Prod.ext h3.1 (zx8 hx.b hy.b h3.2)
def ntF:Nt→Nat→DataW Unit→DataW Unit
 | [],_,D=>D
 | x::l,i,D=>ntF l (i+1) (D.put (klit x.1 (txt x.2)) (.lit (.int .i64 ((i:Int)+1))))
abbrev NtD (l:Nt):DataW Unit:=ntF l 0 (.map [])
def NtOk (l:Nt):Prop:=l.Nodup∧ ∀x∈l,SOk x
theorem zrx (x:Int×Bys): ∀(l:Nt) (i:Nat) (D:DataW Unit),ntF (l++[x]) i D=(ntF l i D).put (klit x.1 (txt x.2)) (.lit (.int .i64 ((i+l.length:Nat)+1)))
 | [],i,D=>rfl
 | y::l,i,D=>by
  show ntF (l++[x]) (i+1) _=_;rw [zrx x l (i+1)];rw [List.length_cons,show i+1+l.length=i+(l.length+1) by omega];rfl
theorem zxi {x:Int×Bys} (hx:SOk x): ∀(l:Nt) (i:Nat) (D:DataW Unit),(∀y∈l,SOk y)→IsMap D→has (ntF l i D) (klit x.1 (txt x.2))=(has D (klit x.1 (txt x.2)) || decide (x∈l))
 | [],i,D,_,_=>by simp [ntF]
 | y::l,i,D,h,hD=>by
  show has (ntF l (i+1) _) _=_;rw [zxi hx l (i+1) _ (fun z hz=>h z (by simp [hz])) (hD.put _ _)];by_cases e:x=y
  ·subst e
   rw [has_put_same hD zrb];simp
  ·rw [has_put_other (fun e2=>e (zl5 hx (h y (by simp)) e2))];simp [e]
theorem zrw {x:Int×Bys} (hx:SOk x) (z:DataW Unit): ∀(l:Nt) (i:Nat) (D:DataW Unit),(∀y∈l,SOk y)→x∉l→(ntF l i D).atKey (klit x.1 (txt x.2)) z=D.atKey (klit x.1 (txt x.2)) z
 | [],i,D,_,_=>rfl
 | y::l,i,D,h,hn=>by
  show (ntF l (i+1) _).atKey _ z=_;rw [zrw hx z l (i+1) _ (fun z hz=>h z (by simp [hz])) (fun hm=>hn (by simp [hm]))];exact atKey_put_other (fun e2=>hn (by rw [zl5 hx (h y (by simp)) e2];simp)) _ _
theorem ntF_at {x:Int×Bys} (hx:SOk x) (z:DataW Unit): ∀(l:Nt) (i:Nat) (D:DataW Unit),(∀y∈l,SOk y)→l.Nodup→IsMap D→x∈l→(ntF l i D).atKey (klit x.1 (txt x.2)) z= .lit (.int .i64 ((i+l.idxOf x:Nat)+1))
 | [],i,D,_,_,_,hm=>by simp at hm
 | y::l,i,D,h,hn,hD,hm=>by
  show (ntF l (i+1) _).atKey _ z=_;rw [List.nodup_cons] at hn;by_cases e:y=x
  ·subst e
   rw [zrw hx z l (i+1) _ (fun z hz=>h z (by simp [hz])) hn.1,atKey_put_same hD zrb,List.idxOf_cons_self];rfl
  ·have hm':x∈l:=by
    rcases List.mem_cons.1 hm with h | h
    ·exact absurd h.symm e
    ·exact h
   rw [ntF_at hx z l (i+1) _ (fun z hz=>h z (by simp [hz])) hn.2 (hD.put _ _) hm',show (y::l).idxOf x=l.idxOf x+1 by rw [List.idxOf_cons,show (y==x)=false from beq_eq_false_iff_ne.2 e];rfl,show i+1+l.idxOf x=i+(l.idxOf x+1) by omega]
def sealN (l:Nt) (p:Int) (b:Bys):Int:=(l.idxOf (p,b):Int)+1
def findN (l:Nt) (p:Int) (b:Bys):Int:=if (p,b)∈l then sealN l p b else 0
def sealL (l:Nt) (p:Int) (b:Bys):Nt:=if (p,b)∈l then l else l++[(p,b)]
theorem ze5 {l:Nt} {p:Int} {b:Bys} (h:NtOk l) (hx:SOk (p,b)):NtOk (sealL l p b):=by
 unfold sealL;split
 ·exact h
 ·rename_i hn
  refine ⟨?_,fun x hx'=> ?_⟩
  ·rw [List.nodup_append]
   exact ⟨h.1,by simp,fun a ha c hc e=>by simp at hc;subst hc;subst e;exact hn ha⟩
  ·rcases List.mem_append.1 hx' with h1 | h1
   ·exact h.2 x h1
   ·simp at h1;subst h1;exact hx
theorem zet (l:Nt) (p:Int) (b:Bys):l.length≤(sealL l p b).length∧(sealL l p b).length≤l.length+1:=by
 unfold sealL;split<;>simp
theorem zjw (l:Nt) (p:Int) (b:Bys):1≤sealN l p b∧sealN l p b≤(l.length:Int)+1:=by
 unfold sealN;have:l.idxOf (p,b)≤l.length:=List.idxOf_le_length;omega
def ntR (nm:Nat) (l:Nt):Res where
 M:=[nm]
 Q:=fun w D=>w.ownsMap Tryz.prog 194 (plainElem Tryz.prog 3) nm l.length (NtD l)∧D=[]
 dep:=fun ⟨⟨es,ck,h,h2⟩,e⟩ hk _=>⟨⟨es,ck,(hk _ (by simp)).trans h,h2⟩,e⟩
 lt:=fun ⟨h,e⟩ k hk=>by subst e;simp at hk;subst hk;exact h.lt
 sep:=fun ⟨_,e⟩ k _ hn=>by rw [e] at hn;simp at hn
section
variable {B:Nat} {w0 w W W':World} {ss rs:List Res} {p nt nm:Nat} {l:Nt} {A:List Nat}
theorem znw (h:(ntR nm l).At w A):w.ownsMap Tryz.prog 194 (plainElem Tryz.prog 3) nm l.length (NtD l):=let ⟨_,h,_⟩:=h;h.1
theorem zr9 (h:Own B w0 W (blk nm (.map #[] 0)::ss)):Own B w0 W (ntR nm []::ss):=by
 refine h.alter (r':=ntR nm []) ?_ (fun k hk=>hk);obtain ⟨D,⟨h1,rfl⟩,h2,h3⟩:=h.head;exact ⟨[],⟨⟨#[],0,h1,⟨by simp,MapKept.stamped_empty 0,by simp⟩,Nat.zero_le _,rfl⟩,rfl⟩,by simp,h3⟩
theorem zxj (h:w.ownsMap Tryz.prog 194 (plainElem Tryz.prog 3) nm l.length (NtD l)) (hl:NtOk l) {party:Int} {bs:Bys} (hx:SOk (party,bs)):
  (Instr.lookup 150 (.map (some nm)) (nkey party (txt bs)) true).run Tryz.prog w= .ok (.tuple #[.int .i64 (findN l party bs),.bool (decide ((party,bs)∈l))]) w:=by
 have hz:(zeroValue 3).run Tryz.prog w= .ok (.int .i64 0) w:=by kernel_rfl
 obtain ⟨v,ps,hrun,hv⟩:=h.look_ok Tryz.keylaw Tryz.umap hz (plainElem_int Tryz.pk1 (by decide)) hx.key;have hh:=zxi hx l 0 (.map []) hl.2 isMap_empty;have e0:has (.map []:DataW Unit) (klit party (txt bs))=false:=rfl;simp only at hh;rw [e0,Bool.false_or] at hh;rw [hrun,hh];obtain ⟨c,rfl,hc,-⟩:=plainElem_int_inv Tryz.pk1 hv;have hc:=congrArg Prod.fst hc;simp only at hc;have:c=findN l party bs:=by
  unfold findN;by_cases hm:(party,bs)∈l
  ·rw [if_pos hm]
   rw [show NtD l=ntF l 0 (.map []) from rfl,ntF_at hx _ l 0 _ hl.2 hl.1 isMap_empty hm] at hc;simp only [DataW.lit.injEq,Lit.int.injEq,true_and,Nat.zero_add] at hc;unfold sealN;omega
  ·rw [if_neg hm]
   rw [show NtD l=ntF l 0 (.map []) from rfl,zrw hx _ l 0 _ hl.2 hm] at hc;have e1:(DataW.map []:DataW Unit).atKey (klit party (txt bs)) (.lit (.int .i64 0))= .lit (.int .i64 0):=atKey_of_not_has e0 _;rw [e1] at hc;simp only [DataW.lit.injEq,Lit.int.injEq,true_and] at hc;exact hc.symm
 rw [this]
theorem nt_size (hl:NtOk l):Maps.size (NtD l)=l.length:=by
 have: ∀(l:Nt) (i:Nat) (D:DataW Unit),(∀y∈l,SOk y)→l.Nodup→Tidy D→(∀y∈l,has D (klit y.1 (txt y.2))=false)→Maps.size (ntF l i D)=Maps.size D+l.length:=by
  intro l
  induction l with
  | nil=>intros;rfl
  | cons x l ih=>
   intro i D h hn hD hf;rw [List.nodup_cons] at hn;show Maps.size (ntF l (i+1) _)=_;rw [ih _ _ (fun z hz=>h z (by simp [hz])) hn.2 (hD.put zrb _) (fun y hy=> ?_),size_put hD,hf x (by simp)]
   ·simp;omega
   ·rw [has_put_other (fun e2=>hn.1 (by rw [←zl5 (h y (by simp [hy])) (h x (by simp)) e2];exact hy))]
    exact hf y (by simp [hy])
 have h1:=this l 0 (.map []) hl.2 hl.1 tidy_empty (fun _ _=>rfl)
 simpa [Maps.size] using h1
def NtAt (w:World) (nt nm:Nat) (l:Nt):Prop:=w.heap[nt]?=some (noB nm)∧w.ownsMap Tryz.prog 194 (plainElem Tryz.prog 3) nm l.length (NtD l)
theorem NtAt.keep {w w':World} {nt nm:Nat} {l:Nt} (h:NtAt w nt nm l) (h1:w'.heap[nt]?=w.heap[nt]?) (h2:w'.heap[nm]?=w.heap[nm]?):NtAt w' nt nm l:=
 ⟨h1.trans h.1,let ⟨es,ck,h3,h4⟩:=h.2;⟨es,ck,h2.trans h3,h4⟩⟩
theorem NtAt.upd {w w':World} {nt nm:Nat} {l:Nt} (h:NtAt w nt nm l) (hu:Upd [] w w'):NtAt w' nt nm l:=h.keep (hu.block nt (block_lt h.1) (by simp)) (hu.block nm h.2.lt (by simp))
theorem nt_at (h:Own B w0 W rs) (i j:Nat) (e1:rs[i]?=some (blk nt (noB nm))) (e2:rs[j]?=some (ntR nm l)):NtAt W nt nm l:=⟨h.blkAt i e1,znw (h.get j e2)⟩
theorem zyt {party:Int} {bv:Value} {bs:Bys} (h:NtAt W nt nm l) (hl:NtOk l) (hx:SOk (party,bs)) (hb:Byt W bv bs):
  Calls Tryz.prog 147 #[.pointer (some ⟨nt,0,none⟩),.int .i64 party,bv] W fun e w'=>e= .returned (.tuple #[.int .i64 (findN l party bs),.bool (decide ((party,bs)∈l))])∧Upd [] W w':=by
 have hcv: ∀n,(convert 60 9 bv).run Tryz.prog (W.drewN n)= .ok (.string (txt bs)) (W.drewN n):=fun n=>zjs (hb.upd ((Upd.refl _ _).drewN n));have hm:=h.2;have hlk: ∀n,(Instr.lookup 150 (.map (some nm)) (.agg #[.int .i64 party,.string (txt bs)]) true).run Tryz.prog (W.drewN n)= .ok (.tuple #[.int .i64 (findN l party bs),.bool (decide ((party,bs)∈l))]) (W.drewN n):=fun n=>zxj (w:=W.drewN n) hm hl hx;have c0:W.cell? ⟨nt,0,none⟩=some (.map (some nm)):=by rw [zac h.1];rfl
 clear hm h;obtain ⟨ao,cap,rfl,-,-⟩:=zcl hb;clear hb;generalize findN l party bs=c at*;generalize decide ((party,bs)∈l)=d at*;go_enter Tryz.func147,Tryz.ntmps147
 go_wp2_with fail
 go_quiet (fail)
 go_wp2_with fail
 go_ret2
 exact ⟨rfl,(Upd.refl _ _).drewN _⟩
theorem zgj {party sl:Int} {bv:Value} {bs:Bys} (h:NtAt W nt nm l) (hl:NtOk l) (hx:SOk (party,bs)) (hb:Byt W bv bs):
  Calls Tryz.prog 77 #[.pointer (some ⟨nt,0,none⟩),.int .i64 party,bv,.int .i64 sl] W fun e w'=>e= .returned (.bool (decide ((party,bs)∈l)&&(findN l party bs==sl)))∧Upd [] W w':=by
 have HF:=zq (zyt h hl hx hb);clear h hb;generalize findN l party bs=c at*;generalize decide ((party,bs)∈l)=d at*;cases d with
 | true=>
  simp only [Bool.true_and];go_enter Tryz.func77,Tryz.ntmps77
  go_wp2_with fail
  refine HF.out.mono ?_;rintro e w1 ⟨rfl,hu⟩
  go_wp2_with fail
  go_ret
  exact ⟨rfl,hu⟩
 | false=>
  simp only [Bool.false_and];go_enter Tryz.func77,Tryz.ntmps77
  go_wp2_with fail
  refine HF.out.mono ?_;rintro e w1 ⟨rfl,hu⟩
  go_wp2_with fail
  go_ret
  exact ⟨rfl,hu⟩
end
end Go.Proofs.YtannckelmojkoaaGreat
namespace Go.Proofs.YtannckelmojkoaaGreat
def encN:Nat→Nat→Bys
 | 0,n=>[n]
 | f+1,n=>if n<128 then [n] else (n%128+128)::encN f (n/128)
abbrev numB (n:Int):Bys:=encN 5 n.toNat
def zigN (n:Int):Nat:=if n<0 then (-2*n-1).toNat else (2*n).toNat
abbrev sgnB (n:Int):Bys:=encN 5 (zigN n)
def numOk (n:Int):Bool:=decide (0≤n)&&decide (n<1099511627776)
def sgnOk (n:Int):Bool:=decide (-549755813888≤n)&&decide (n<549755813888)
theorem zg1: ∀(f n:Nat),1≤(encN f n).length∧(encN f n).length≤f+1
 | 0,n=>by simp [encN]
 | f+1,n=>by
  unfold encN;split
  ·simp
  ·have:=zg1 f (n/128);simp;omega
theorem zgk: ∀(f n:Nat),n<128^(f+1)→ ∀c∈encN f n,c<256
 | 0,n,h=>by simp [encN];omega
 | f+1,n,h=>by
  unfold encN;split
  ·intro c hc;simp at hc;omega
  ·intro c hc
   rcases List.mem_cons.1 hc with h1 | h1
   ·omega
   ·refine zgk f (n/128) ?_ c h1
    rw [Nat.pow_succ] at h;exact (Nat.div_lt_iff_lt_mul (by omega)).2 h
def AtB (b e:Bys) (a:Nat):Prop:= ∀i,i<e.length→b[a+i]?=e[i]?
theorem zbt {b e1 e2:Bys} {a:Nat} (h:AtB b (e1++e2) a):AtB b e1 a∧AtB b e2 (a+e1.length):=by
 refine ⟨fun i hi=> ?_,fun i hi=> ?_⟩
 ·rw [h i (by simp;omega),List.getElem?_append_left hi]
 ·rw [Nat.add_assoc,h (e1.length+i) (by simp;omega),List.getElem?_append_right (by omega),Nat.add_sub_cancel_left]
theorem zlv {b:Bys}: ∀(f m n k a:Nat),AtB b (encN f m) a→m<128^(f+1)→n+m*128^k<topN→(k=0∨0<m)→tkGo b (f+1) n k a=some (n+m*128^k,a+(encN f m).length)
 | 0,m,n,k,a,h,hm,ht,hk=>by
  have h0:=h 0 (by simp [encN]);simp only [encN,Nat.add_zero,List.getElem?_cons_zero] at h0;have hm:m<128:=by simpa using hm
  unfold tkGo;rw [h0];simp only;rw [if_neg (by omega),Nat.mod_eq_of_lt hm,if_neg (by omega)];rfl
 | f+1,m,n,k,a,h,hm,ht,hk=>by
  unfold tkGo;by_cases hlt:m<128
  ·unfold encN at h⊢
   rw [if_pos hlt] at h⊢;have h0:=h 0 (by simp);simp only [Nat.add_zero,List.getElem?_cons_zero] at h0;rw [h0];simp only;rw [if_neg (by omega),Nat.mod_eq_of_lt hlt,if_neg (by omega)];rfl
  ·unfold encN at h⊢
   rw [if_neg hlt] at h⊢;have h0:=h 0 (by simp);simp only [Nat.add_zero,List.getElem?_cons_zero] at h0;rw [h0];simp only;have e1:(m%128+128)%128=m%128:=by omega
   have e2:m%128*128^k+m/128*128^(k+1)=m*128^k:=by
    rw [Nat.pow_succ,Nat.mul_comm (128^k) 128,←Nat.mul_assoc,←Nat.add_mul];congr 1;omega
   rw [if_pos (by omega),e1,zlv f (m/128) (n+m%128*128^k) (k+1) (a+1) (fun i hi=> ?_) ?_ (by rw [Nat.add_assoc,e2];exact ht) (by right;omega)]
   ·rw [Nat.add_assoc,e2,List.length_cons];congr 2;omega
   ·rw [Nat.pow_succ] at hm
    exact (Nat.div_lt_iff_lt_mul (by omega)).2 hm
   ·rw [show a+1+i=a+(i+1) by omega,h (i+1) (by simp;omega)];rfl
theorem zfz {b:Bys} {n:Int} {a:Nat} (h:AtB b (numB n) a) (hn:numOk n=true):rdN b ⟨a,false⟩=(n.toNat,⟨a+(numB n).length,false⟩):=by
 unfold numOk at hn;simp only [Bool.and_eq_true,decide_eq_true_eq] at hn;have h1:=zlv 5 n.toNat 0 0 a h (by simp;omega) (by unfold topN;omega) (.inl rfl);unfold rdN takeN;rw [if_neg (by simp),h1];simp
theorem ze6 {b:Bys} {n:Int} {a:Nat} (h:AtB b (numB n) a) (hn:numOk n=true):takeN b a=some (n.toNat,a+(numB n).length):=by
 unfold numOk at hn;simp only [Bool.and_eq_true,decide_eq_true_eq] at hn;have h1:=zlv 5 n.toNat 0 0 a h (by simp;omega) (by unfold topN;omega) (.inl rfl);unfold takeN;rw [h1];simp
theorem zlk {n:Int} (h:sgnOk n=true):zagN (zigN n)=n∧zigN n<1099511627776:=by
 unfold sgnOk at h;simp only [Bool.and_eq_true,decide_eq_true_eq] at h;unfold zagN zigN;split<;>split<;>omega
theorem rd_sgn {b:Bys} {n:Int} {a:Nat} (h:AtB b (sgnB n) a) (hn:sgnOk n=true):rdS b ⟨a,false⟩=(n,⟨a+(sgnB n).length,false⟩):=by
 obtain ⟨h1,h2⟩:=zlk hn;have h3:=zfz (n:=(zigN n:Int)) (b:=b) (a:=a) (by simpa [numB] using h) (by unfold numOk;simp;omega);unfold rdS;rw [h3];simp [h1,numB,sgnB]
theorem take_sgn {b:Bys} {n:Int} {a:Nat} (h:AtB b (sgnB n) a) (hn:sgnOk n=true):takeS b a=some (n,a+(sgnB n).length):=by
 obtain ⟨h1,h2⟩:=zlk hn;have h3:=ze6 (n:=(zigN n:Int)) (b:=b) (a:=a) (by simpa [numB] using h) (by unfold numOk;simp;omega);unfold takeS;rw [h3];simp [h1,numB,sgnB]
theorem zcy {n:Int} (h:numOk n=true):(n.toNat:Int)=n:=by
 unfold numOk at h;simp only [Bool.and_eq_true,decide_eq_true_eq] at h;omega
def reqB (r:Rq):Bys:=numB r.client++(numB r.time++(numB r.kind++(sgnB r.key++(sgnB r.val++numB r.sl))))
def reqW (r:Rq):Bool:=numOk r.client&&(numOk r.time&&(numOk r.kind&&(sgnOk r.key&&(sgnOk r.val&&numOk r.sl))))
def vtB (v:Int×Int):Bys:=numB v.1++numB v.2
def vtW (v:Int×Int):Bool:=numOk v.1&&numOk v.2
def listB {α:Type} (one:α→Bys) (l:List α):Bys:=numB l.length++l.flatMap one
def listW {α:Type} (one:α→Bool) (l:List α):Bool:=decide (l.length≤256)&&l.all one
def certB (c:Cp):Bys:=numB c.view++(numB c.inst++(numB c.seq++(listB reqB c.rs++listB vtB c.vs)))
def certW (c:Cp):Bool:=numOk c.view&&(numOk c.inst&&(numOk c.seq&&(listW reqW c.rs&&listW vtW c.vs)))
def partB (p:Pa):Bys:=numB p.fm++(listB vtB p.vs++(listB certB p.cs++numB p.sl))
def partW (p:Pa):Bool:=numOk p.fm&&(listW vtW p.vs&&(listW certW p.cs&&numOk p.sl))
def msB (m:Ms):Bys:=numB m.kind++(numB m.fm++(numB m.view++(numB m.inst++(numB m.seq++(sgnB m.res++(listB reqB m.rs++(listB vtB m.vs++(listB certB m.cs++listB partB m.ps))))))))
def msW (m:Ms):Bool:=numOk m.kind&&(numOk m.fm&&(numOk m.view&&(numOk m.inst&&(numOk m.seq&&(sgnOk m.res&&(listW reqW m.rs&&(listW vtW m.vs&&(listW certW m.cs&&listW partW m.ps))))))))
def bodyP (m:Ms):Option Bys:=if msW m&&decide ((msB m).length≤65536) then some (msB m) else none
theorem rd_req {b:Bys} {r:Rq} {a:Nat} (h:AtB b (reqB r) a) (hr:reqW r=true):rdReq b ⟨a,false⟩=(r,⟨a+(reqB r).length,false⟩):=by
 unfold reqW at hr;simp only [Bool.and_eq_true] at hr;obtain ⟨g1,g2,g3,g4,g5,g6⟩:=hr;unfold reqB at h;obtain ⟨h1,h⟩:=zbt h;obtain ⟨h2,h⟩:=zbt h;obtain ⟨h3,h⟩:=zbt h;obtain ⟨h4,h⟩:=zbt h;obtain ⟨h5,h6⟩:=zbt h;unfold rdReq;simp only [zfz h1 g1,zfz h2 g2,zfz h3 g3,rd_sgn h4 g4,rd_sgn h5 g5,zfz h6 g6,zcy g1,zcy g2,zcy g3,zcy g6];simp only [reqB,List.length_append,Nat.add_assoc]
theorem zsq {b:Bys} {v:Int×Int} {a:Nat} (h:AtB b (vtB v) a) (hv:vtW v=true):zb0 b ⟨a,false⟩=(v,⟨a+(vtB v).length,false⟩):=by
 unfold vtW at hv;simp only [Bool.and_eq_true] at hv;unfold vtB at h;obtain ⟨h1,h2⟩:=zbt h;unfold zb0;simp only [zfz h1 hv.1,zfz h2 hv.2,zcy hv.1,zcy hv.2];simp only [vtB,List.length_append,Nat.add_assoc]
theorem rd_go {α:Type} {b:Bys} {one:Rs→α×Rs} {enc:α→Bys} {ok:α→Bool} (hone: ∀x a,AtB b (enc x) a→ok x=true→one ⟨a,false⟩=(x,⟨a+(enc x).length,false⟩)):
  ∀(l acc:List α) (a:Nat),AtB b (l.flatMap enc) a→l.all ok=true→rdGo one l.length acc ⟨a,false⟩=(acc++l,⟨a+(l.flatMap enc).length,false⟩)
 | [],acc,a,_,_=>by simp [rdGo]
 | x::l,acc,a,h,hk=>by
  rw [List.flatMap_cons] at h;obtain ⟨h1,h2⟩:=zbt h;simp only [List.all_cons,Bool.and_eq_true] at hk;rw [List.length_cons,zfi _ _ _ _ rfl,hone x a h1 hk.1];simp only;rw [rd_go hone l (acc++[x]) _ h2 hk.2];simp [Nat.add_assoc]
theorem zk0 {α:Type} {b:Bys} {one:Rs→α×Rs} {enc:α→Bys} {ok:α→Bool} (hone: ∀x a,AtB b (enc x) a→ok x=true→one ⟨a,false⟩=(x,⟨a+(enc x).length,false⟩))
  {l:List α} {a:Nat} (h:AtB b (listB enc l) a) (hk:listW ok l=true):rdL b one ⟨a,false⟩=(l,⟨a+(listB enc l).length,false⟩):=by
 unfold listW at hk;simp only [Bool.and_eq_true,decide_eq_true_eq] at hk;unfold listB at h;obtain ⟨h1,h2⟩:=zbt h;unfold rdL;rw [zfz h1 (by unfold numOk;simp;omega)];simp only [Int.toNat_natCast];rw [if_neg (by omega),rd_go hone l [] _ h2 hk.2];simp [listB,Nat.add_assoc]
theorem zfo {α:Type} {b:Bys} {one:Rs→α×Rs} {enc:α→Bys} {ok:α→Bool} (hone: ∀x a,AtB b (enc x) a→ok x=true→one ⟨a,false⟩=(x,⟨a+(enc x).length,false⟩))
  {l:List α} {a:Nat} (h:AtB b (listB enc l) a) (hk:listW ok l=true):zb3 b one a=some (l,a+(listB enc l).length):=by
 unfold zb3;rw [zk0 hone h hk];simp
theorem zxz {b:Bys} (c:Cp) (a:Nat) (h:AtB b (certB c) a) (hc:certW c=true):zch b ⟨a,false⟩=(c,⟨a+(certB c).length,false⟩):=by
 unfold certW at hc;simp only [Bool.and_eq_true] at hc;obtain ⟨g1,g2,g3,g4,g5⟩:=hc;unfold certB at h;obtain ⟨h1,h⟩:=zbt h;obtain ⟨h2,h⟩:=zbt h;obtain ⟨h3,h⟩:=zbt h;obtain ⟨h4,h5⟩:=zbt h;unfold zch;simp only [zfz h1 g1,zfz h2 g2,zfz h3 g3,zk0 (fun x a=>rd_req) h4 g4,zk0 (fun x a=>zsq) h5 g5,zcy g1,zcy g2,zcy g3];simp only [certB,List.length_append,Nat.add_assoc]
theorem rd_part {b:Bys} (p:Pa) (a:Nat) (h:AtB b (partB p) a) (hp:partW p=true):zcr b ⟨a,false⟩=(p,⟨a+(partB p).length,false⟩):=by
 unfold partW at hp;simp only [Bool.and_eq_true] at hp;obtain ⟨g1,g2,g3,g4⟩:=hp;unfold partB at h;obtain ⟨h1,h⟩:=zbt h;obtain ⟨h2,h⟩:=zbt h;obtain ⟨h3,h4⟩:=zbt h;unfold zcr;simp only [zfz h1 g1,zk0 (fun x a=>zsq) h2 g2,zk0 zxz h3 g3,zfz h4 g4,zcy g1,zcy g4];simp only [partB,List.length_append,Nat.add_assoc]
theorem zsc {m:Ms} (hm:msW m=true) (hl:(msB m).length≤65536):zew (msB m)=some m:=by
 have h:AtB (msB m) (msB m) 0:=fun i hi=>by rw [Nat.zero_add]
 have hlen:(msB m).length=(msB m).length:=rfl;conv at hlen=>rhs;unfold msB;simp only [List.length_append]
 generalize hb:msB m=b at h hl hlen⊢;unfold msW at hm;simp only [Bool.and_eq_true] at hm;obtain ⟨g0,g1,g2,g3,g4,g5,g6,g7,g8,g9⟩:=hm;rw [←hb] at h;unfold msB at h;rw [show numB m.kind++(numB m.fm++(numB m.view++(numB m.inst++(numB m.seq++(sgnB m.res++(listB reqB m.rs++(listB vtB m.vs++(listB certB m.cs++listB partB m.ps))))))))=msB m from rfl,hb] at h;rw [←hb] at h;conv at h=>arg 2;unfold msB
 rw [hb] at h;obtain ⟨h0,h⟩:=zbt h;obtain ⟨h1,h⟩:=zbt h;obtain ⟨h2,h⟩:=zbt h;obtain ⟨h3,h⟩:=zbt h;obtain ⟨h4,h⟩:=zbt h;obtain ⟨h5,h⟩:=zbt h;obtain ⟨h6,h⟩:=zbt h;obtain ⟨h7,h⟩:=zbt h;obtain ⟨h8,h9⟩:=zbt h;unfold zew;rw [if_neg (by omega)];unfold pm0;rw [ze6 h0 g0];simp only;unfold pm1;rw [ze6 h1 g1];simp only;unfold pm2;rw [ze6 h2 g2];simp only;unfold pm3;rw [ze6 h3 g3];simp only;unfold pm4;rw [ze6 h4 g4];simp only;unfold pm5;rw [take_sgn h5 g5];simp only;unfold pm6;rw [zfo (fun x a=>rd_req) h6 g6];simp only;unfold pm7;rw [zfo (fun x a=>zsq) h7 g7];simp only;unfold pm8;rw [zfo zxz h8 g8];simp only;unfold pm9;rw [zfo rd_part h9 g9];simp only;rw [if_pos (by omega),zcy g0,zcy g1,zcy g2,zcy g3,zcy g4]
theorem zqa {m:Ms} {b:Bys} (h:bodyP m=some b):zew b=some m:=by
 unfold bodyP at h;split at h
 ·rename_i hc
  simp only [Bool.and_eq_true,decide_eq_true_eq] at hc;simp only [Option.some.injEq] at h;subst h;exact zsc hc.1 hc.2
 ·cases h
theorem zbs {n:Int} (h:numOk n=true): ∀c∈numB n,c<256:=by
 unfold numOk at h;simp only [Bool.and_eq_true,decide_eq_true_eq] at h;exact zgk 5 _ (by simp;omega)
theorem zmz {n:Int} (h:sgnOk n=true): ∀c∈sgnB n,c<256:=zgk 5 _ (by have:=(zlk h).2;simp;omega)
theorem za5 {a b:Bys} (ha: ∀c∈a,c<256) (hb: ∀c∈b,c<256): ∀c∈a++b,c<256:=fun c hc=>(List.mem_append.1 hc).elim (ha c) (hb c)
theorem zjq {r:Rq} (h:reqW r=true): ∀c∈reqB r,c<256:=by
 unfold reqW at h;simp only [Bool.and_eq_true] at h;obtain ⟨g1,g2,g3,g4,g5,g6⟩:=h;exact za5 (zbs g1) (za5 (zbs g2) (za5 (zbs g3) (za5 (zmz g4) (za5 (zmz g5) (zbs g6)))))
theorem zjz {v:Int×Int} (h:vtW v=true): ∀c∈vtB v,c<256:=by
 unfold vtW at h;simp only [Bool.and_eq_true] at h;exact za5 (zbs h.1) (zbs h.2)
theorem zdm {α:Type} {enc:α→Bys} {ok:α→Bool} (hone: ∀x,ok x=true→ ∀c∈enc x,c<256) {l:List α} (h:listW ok l=true): ∀c∈listB enc l,c<256:=by
 unfold listW at h;simp only [Bool.and_eq_true,decide_eq_true_eq,List.all_eq_true] at h;refine za5 (zbs (by unfold numOk;simp;omega)) (fun c hc=> ?_);obtain ⟨x,hx,hc⟩:=List.mem_flatMap.1 hc;exact hone x (h.2 x hx) c hc
theorem znd {x:Cp} (h:certW x=true): ∀c∈certB x,c<256:=by
 unfold certW at h;simp only [Bool.and_eq_true] at h;obtain ⟨g1,g2,g3,g4,g5⟩:=h;exact za5 (zbs g1) (za5 (zbs g2) (za5 (zbs g3) (za5 (zdm (fun x=>zjq) g4) (zdm (fun x=>zjz) g5))))
theorem zvs {p:Pa} (h:partW p=true): ∀c∈partB p,c<256:=by
 unfold partW at h;simp only [Bool.and_eq_true] at h;obtain ⟨g1,g2,g3,g4⟩:=h;exact za5 (zbs g1) (za5 (zdm (fun x=>zjz) g2) (za5 (zdm (fun x=>znd) g3) (zbs g4)))
theorem ms_byte {m:Ms} (h:msW m=true): ∀c∈msB m,c<256:=by
 unfold msW at h;simp only [Bool.and_eq_true] at h;obtain ⟨g0,g1,g2,g3,g4,g5,g6,g7,g8,g9⟩:=h;exact za5 (zbs g0) (za5 (zbs g1) (za5 (zbs g2) (za5 (zbs g3) (za5 (zbs g4) (za5 (zmz g5) (za5 (zdm (fun x=>zjq) g6) (za5 (zdm (fun x=>zjz) g7) (za5 (zdm (fun x=>znd) g8) (zdm (fun x=>zvs) g9)))))))))
theorem ze9 {m:Ms} {b:Bys} (h:bodyP m=some b):(∀c∈b,c<256)∧b.length≤65536:=by
 unfold bodyP at h;split at h
 ·rename_i hc
  simp only [Bool.and_eq_true,decide_eq_true_eq] at hc;simp only [Option.some.injEq] at h;subst h;exact ⟨ms_byte hc.1,hc.2⟩
 ·cases h
end Go.Proofs.YtannckelmojkoaaGreat
namespace Go.Proofs.YtannckelmojkoaaGreat
open Go.RowKit Go.Heap Go.Maps
section
variable {B:Nat} {w0 w W W':World} {ss rs:List Res} {p nt nm:Nat} {l:Nt} {A:List Nat}
theorem zvl {W':World} {x:Int×Bys} (h:Own B w0 W (ntR nm l::ss)) (ho:W'.ownsMap Tryz.prog 194 (plainElem Tryz.prog 3) nm (l.length+1) ((NtD l).put (klit x.1 (txt x.2)) (.lit (.int .i64 ((l.length:Int)+1))))) (hg:W.grownBy W' (some nm)):Own B w0 W' (ntR nm (l++[x])::ss):=by
 refine h.step (r':=ntR nm (l++[x])) ((Upd.refl _ _).grown hg (fun k hk=> .inl (by cases hk;simp [ntR]))) ⟨[],⟨?_,rfl⟩,by simp,fun k hk=>Nat.lt_of_lt_of_le (h.lt k hk) hg.size⟩ (fun k hk=> .inl hk);rw [show NtD (l++[x])=ntF (l++[x]) 0 (.map []) from rfl,zrx,List.length_append]
 simpa using ho
theorem zmx {party:Int} {bv:Value} {bs:Bys} (h:Own B w0 W (blk nt (noB nm)::ntR nm l::ss)) (hl:NtOk l) (hx:SOk (party,bs)) (hb:Byt W bv bs) (hn:l.length≤1000000000):
  Calls Tryz.prog 131 #[.pointer (some ⟨nt,0,none⟩),.int .i64 party,bv] W fun e w'=>e= .returned (.int .i64 (sealN l party bs))∧Own B w0 w' (blk nt (noB nm)::ntR nm (sealL l party bs)::ss):=by
 have HCV:Hid (∀w,Upd [] W w→(convert 60 9 bv).run Tryz.prog w= .ok (.string (txt bs)) w):=zq (fun w hu=>zjs (hb.upd hu));have hcv:=HCV.out W (Upd.refl _ _);have H:=zq h;have HLK:Hid (∀w,Upd [] W w→(Instr.lookup 150 (.map (some nm)) (.agg #[.int .i64 party,.string (txt bs)]) true).run Tryz.prog w= .ok (.tuple #[.int .i64 (findN l party bs),.bool (decide ((party,bs)∈l))]) w):=zq (fun w hu=>zxj (znw (h.upd0 hu).drop.head) hl hx);obtain ⟨ao,cap,rfl,-,-⟩:=zcl hb;clear hb h;go_enter Tryz.func131,Tryz.ntmps131
 go_wp2_with fail
 have h1:=H.out.box (.cells #[.int .i64 party,.string (txt bs)] 194 (0,0));have hu1:Upd [] W (W.alloc (.cells #[.int .i64 party,.string (txt bs)] 194 (0,0))):=(Upd.refl _ _).alloc _;generalize W.alloc _=w1 at*;generalize W.heap.size=b at*;have x0:w1.cell? ⟨b,0,none⟩=some (.int .i64 party):=zaa (h1.blkAt 0 rfl) 0 rfl;have x1:w1.cell? ⟨b,1,none⟩=some (.string (txt bs)):=zaa (h1.blkAt 0 rfl) 1 rfl;have c0:w1.cell? ⟨nt,0,none⟩=some (.map (some nm)):=zaa (h1.blkAt 1 rfl) 0 rfl;have H1:=zq h1;have hlk: ∀n,(Instr.lookup 150 (.map (some nm)) (.agg #[.int .i64 party,.string (txt bs)]) true).run Tryz.prog (w1.drewN n)= .ok (.tuple #[.int .i64 (findN l party bs),.bool (decide ((party,bs)∈l))]) (w1.drewN n):=fun n=>HLK.out _ (hu1.drewN n);clear h1 HLK HCV hcv;have HU:=zq hu1;clear hu1;by_cases hm:(party,bs)∈l
 ·have e1:findN l party bs=sealN l party bs:=by unfold findN;rw [if_pos hm]
  have e2:sealL l party bs=l:=by unfold sealL;rw [if_pos hm]
  have e3:decide ((party,bs)∈l)=true:=by simp [hm]
  rw [e1,e3] at hlk;have E2:=zq e2;clear e1 e2 e3
  go_quiet (fail)
  go_wp2_with fail
  go_ret
  rw [E2.out];exact ⟨rfl,(H1.out.upd0 ((Upd.refl _ _).drewN _)).drop⟩
 ·have e1:findN l party bs=0:=by unfold findN;rw [if_neg hm]
  have e2:sealL l party bs=l++[(party,bs)]:=by unfold sealL;rw [if_neg hm]
  have e3:decide ((party,bs)∈l)=false:=by simp [hm]
  have e4:sealN l party bs=(l.length:Int)+1:=by
   unfold sealN;rw [List.idxOf_eq_length (by simpa using hm)]
  have hlen: ∀ty n,(Builtin.len_ #[150] ty #[.map (some nm)]).run Tryz.prog (w1.drewN n)= .ok (.int .i64 l.length) (w1.drewN n):=fun ty n=>by
   rw [(znw (H1.out.upd0 ((Upd.refl _ _).drewN n)).drop.drop.head).len Tryz.umap ty,nt_size hl]
  rw [e1,e3] at hlk;have E2:=zq e2;have E4:=zq e4;clear e1 e2 e3 e4
  go_quiet (fail)
  have hlt:(l.length:Int)≤1000000000:=by omega
  go_wp2_with fail
  have hmap: ∀n,((w1.drewN n).drew).ownsMap Tryz.prog 194 (plainElem Tryz.prog 3) nm l.length (NtD l):=fun n=>znw (H1.out.upd0 ((Upd.refl _ _).drewN n).drew).drop.drop.head;have hkey:=hx.key;unfold nkey at hkey;simp only at hkey;have hwf:(Lit.int .i64 ((l.length:Int)+1)).wf=true:=WalkArith.wf_i64 (by omega);refine Mix.wp_text2 (by kernel_rfl) (by kernel_rfl) ?_
  go_wp2_with (first | (at_mapUpdate;refine wpList_mapUpdate_own _ rfl _ _ _ 150 rfl 194 3 Tryz.keylaw Tryz.umap _ nm l.length _ rfl (hmap _) (by unfold maxLen;omega) _ _ _ rfl rfl hkey _ [] (plainElem_int Tryz.pk1 hwf) ?_;intro w2 ho2 hg2) | go_in)
  have H2:=zq (zvl (x:=(party,bs)) (H1.out.upd0 ((Upd.refl _ _).drewN nq).drew).drop.swap ho2 hg2).swap;clear ho2 hg2 hmap
  go_wp2_with fail
  refine ⟨by rfl,?_⟩
  go_wp2_with fail
  go_ret
  rw [E2.out,E4.out];exact ⟨rfl,H2.out⟩
end
end Go.Proofs.YtannckelmojkoaaGreat
namespace Go.Heap
open Go Go.RowKit
section
variable {B:Nat} {w0 w W W':World} {rs ss:List Res} {r:Res} {E sz n m:Nat} {v v':Value} {xs ys:List Value}
theorem Own.front (h:Own B w0 W rs) (k:Nat) (e:rs[k]?=some r) (e2:rs.eraseIdx k=ss):Own B w0 W (r::ss):=by
 obtain ⟨hk,rfl⟩:=List.getElem?_eq_some_iff.1 e;subst e2;exact h.perm (zhj rs k hk)
theorem zih {α:Type} (x:α): ∀(k:Nat) (l:List α),k≤l.length→(x::l).Perm (l.insertIdx k x)
 | 0,l,_=>by simp
 | k+1,[],h=>by simp at h
 | k+1,y::l,h=>by
  rw [List.insertIdx_succ_cons];exact (List.Perm.swap y x l).trans ((zih x k l (by simpa using h)).cons y)
theorem Own.back (h:Own B w0 W (r::ss)) (k:Nat) (hk:k≤ss.length) (e:ss.insertIdx k r=rs):Own B w0 W rs:=by
 subst e;exact h.perm (zih r k ss hk)
section
variable {P:Program} {ops:Array Oper} {rest:List Oper} {o:Oper} {a:Act} {Q:Exit→Act→World→Prop}
theorem za7 (hgd:o.guard=none) (s x:Operand) (t:TypeId)
  (ho:o.op= .call {callee:= .builtin .append,args:=#[s,x],argTypes:=#[t,t]})
  (e:TypeId) (i:TypeInfo) (z:Value) (size bytes:Nat) (ht:P.underlying t=some (.slice e)) (hi:P.info? e=some i) (hz:i.zero=some z)
  (hsize:i.size=size) (hby:i.bytes=bytes) (hzs:z.cells.size=size) (hsz:0<size)
  (hw:Own B w0 W rs) (k:Nat) (v:Value) (n:Nat) (xs:List Value) (hk:rs[k]?=some (ownR e size v n xs)) (hs:a.eval s=v)
  (b:Nat) (cs:Array Value) (T:TypeId) (fz:Nat×Nat) (hx:a.eval x= .slice (some ⟨b,0,none⟩) 1 1) (hb:W.heap[b]?=some (.cells cs T fz)) (hl:cs.size=size) (h1: ∀u∈cs.toList,u.oneCell'=true)
  (h63:n+1≤maxLen) (hbytes:(n+1)*bytes≤140737488355328)
  (h: ∀g cap w',Own B w0 w' (rs.set k (ownR e size (.slice (some ⟨g,0,none⟩) (n+1) cap) (n+1) (xs++cs.toList)))→wpList P ops Q rest (a.put o.dst (.slice (some ⟨g,0,none⟩) (n+1) cap)) w'):wpList P ops Q (o::rest) a W:=by
 refine wpList_append_lies W hgd s x t ho 0 e i z size bytes ht hi hz hsize hby hzs hsz v n xs hs (zam (hw.get k hk)) ⟨b,0,none⟩ 1 1 cs.toList hx (by simp [hl]) (World.news_of_block hb) h1 (by decide) h63 hbytes (Nat.zero_le _) _ rfl ?_;intro g cap w' hown hgrow hat _;exact h g cap w' (hw.growAt k hk hgrow hat hown)
theorem zbx (hgd:o.guard=none) (s x:Operand) (t:TypeId)
  (ho:o.op= .call {callee:= .builtin .append,args:=#[s,x],argTypes:=#[t,t]})
  (e:TypeId) (i:TypeInfo) (z:Value) (size bytes:Nat) (ht:P.underlying t=some (.slice e)) (hi:P.info? e=some i) (hz:i.zero=some z)
  (hsize:i.size=size) (hby:i.bytes=bytes) (hzs:z.cells.size=size) (hsz:0<size)
  (hw:Own B w0 W rs) (k:Nat) (v:Value) (n:Nat) (xs:List Value) (hk:rs[k]?=some (ownR e size v n xs)) (hs:a.eval s=v)
  (u:Value) (m:Nat) (ys:List Value) (hx:a.eval x=u) (hr:Reads W u size m ys) (h1: ∀u∈ys,u.oneCell'=true) (h63:n+m≤maxLen) (hbytes:(n+m)*bytes≤140737488355328)
  (h: ∀ao' cap' w',Own B w0 w' (rs.set k (ownR e size (.slice ao' (n+m) cap') (n+m) (xs++ys)))→wpList P ops Q rest (a.put o.dst (.slice ao' (n+m) cap')) w'):wpList P ops Q (o::rest) a W:=by
 obtain ⟨hlt,hke⟩:=List.getElem?_eq_some_iff.1 hk;have h2:Own B w0 W (ownR e size v n xs::rs.eraseIdx k):=hke ▸ hw.perm (zhj rs k hlt);refine zd6 hgd s x t ho e i z size bytes ht hi hz hsize hby hzs hsz v n xs hs h2 u m ys hx hr h1 h63 hbytes ?_;intro v' w' h3;obtain ⟨ao',cap',rfl⟩: ∃ao' cap',v'= .slice ao' (n+m) cap':=by
  rcases (zam h3.head).2 with ⟨h5,h6⟩ | ⟨g,cap,cur,h5,-⟩
  ·exact ⟨none,0,by rw [h6];exact h5⟩
  ·exact ⟨_,_,h5⟩
 exact h ao' cap' w' (h3.perm (zjj rs k hlt _).symm)
end
end
end Go.Heap
namespace Go.Proofs.YtannckelmojkoaaGreat
open Go.RowKit Go.Heap
theorem Tryz.infoU8:(Tryz.prog.info? 5).map (fun i=>(i.zero,i.size,i.bytes))=some (some (.int .u8 0),1,1):=by kernel_rfl
abbrev bysC (b:Bys):List Value:=b.map fun c:Nat=>Value.int .u8 (c:Int)
abbrev bysR (v:Value) (b:Bys):Res:=ownR 5 1 v b.length (bysC b)
def numX (n:Int):Bys:=if numOk n then numB n else []
def zigX (n:Int):Int:=if sgnOk n then (zigN n:Int) else 0
def sgnX (n:Int):Bys:=if sgnOk n then sgnB n else []
theorem zni {f n:Nat} (h:128≤n):encN (f+1) n=(n%128+128)::encN f (n/128):=by
 conv=>lhs;unfold encN
 rw [if_neg (by omega)]
theorem znh {f n:Nat} (h:n<128):encN f n=[n]:=by
 cases f with
 | zero=>rfl
 | succ f=>unfold encN;rw [if_pos h]
theorem zfs (b:Bys): ∀u∈bysC b,u.oneCell'=true:=by
 intro u hu;obtain ⟨c,-,rfl⟩:=List.mem_map.1 hu;rfl
theorem u8_in {x:Int} (h0:0≤x) (h1:x<256):IntKind.u8.wrap x=x:=by
 unfold IntKind.wrap;simp [IntKind.bits,IntKind.signed];omega
section
variable {B:Nat} {w0 w W W':World} {ss rs:List Res}
theorem zea (n:Int) (h:Own B w0 W ss):Calls Tryz.prog 274 #[.int .i64 n] W fun e w'=> ∃v,e= .returned (.tuple #[v,.bool (numOk n)])∧Own B w0 w' (bysR v (numX n)::ss):=by
 obtain ⟨i0,hi,hz0,hz1,hz2⟩:=info_parts Tryz.infoU8;by_cases h1:n<0
 ·have HE:Hid (numOk n=false∧Own B w0 W (bysR (.slice none 0 0) (numX n)::ss)):=zq (by
   have e:numOk n=false:=by unfold numOk;simp;omega
   refine ⟨e,?_⟩;unfold numX;rw [e];exact h.row0)
  clear h;go_enter Tryz.func274,Tryz.ntmps274
  go_wp2_with fail
  go_ret2
  rw [HE.out.1];exact ⟨_,rfl,HE.out.2⟩
 by_cases h2:1099511627776≤n
 ·have h1':decide (n<0)=false:=by simp;omega
  have HE:Hid (numOk n=false∧Own B w0 W (bysR (.slice none 0 0) (numX n)::ss)):=zq (by
   have e:numOk n=false:=by unfold numOk;simp;omega
   refine ⟨e,?_⟩;unfold numX;rw [e];exact h.row0)
  clear h h1;go_enter Tryz.func274,Tryz.ntmps274
  go_wp2_with fail
  go_ret2
  rw [HE.out.1];exact ⟨_,rfl,HE.out.2⟩
 have h1':decide (n<0)=false:=by simp;omega
 have h2':decide (1099511627776≤n)=false:=by simp;omega
 obtain ⟨m0,rfl⟩: ∃m:Nat,n=m:=⟨n.toNat,by omega⟩;have hm0:m0<128^(5+1):=by omega
 have HE:Hid (numOk (m0:Int)=true∧numX (m0:Int)=encN 5 m0):=zq (by
  have e:numOk (m0:Int)=true:=by unfold numOk;simp;omega
  unfold numX;rw [e];exact ⟨rfl,by simp [numB]⟩)
 have H:=zq (h.row0 (E:=5) (sz:=1));clear h h1 h2;go_enter Tryz.func274,Tryz.ntmps274
 go_wp2_with fail
 go_loopw [0,4] (fun nv v wr=> ∃(m f:Nat) (acc:Bys),nv= .int .i64 m∧m<128^(f+1)∧f≤5∧acc.length≤10-f∧acc++encN f m=encN 5 m0∧Hid (Own B w0 wr (bysR v acc::ss))) (fun nv _ _=>(intOf nv).toNat)
 case atStart=>exact ⟨m0,5,[],rfl,hm0,by omega,by simp,rfl,H⟩
 case round=>
  clear H hm0;obtain ⟨m,f,acc,rfl,hm,hf,ha,hacc,H⟩:=hrel;have hmI:(m:Int)<4398046511104:=by
   have:m<128^6:=Nat.lt_of_lt_of_le hm (Nat.pow_le_pow_right (by omega) (by omega));omega
  by_cases hlt:m<128
  ·have hd:decide (128≤(m:Int))=false:=by simp;omega
   have hw:IntKind.u8.wrap (m:Int)=(m:Int):=u8_in (by omega) (by omega);have HA:=zq (H.out.alloc (.cells #[.int .u8 (m:Int)] 5 (0,0)));have HN:=zq (heap_alloc_new wr (.cells #[.int .u8 (m:Int)] 5 (0,0)));have ha2:acc.length≤10:=by omega
   rw [znh hlt] at hacc;have HX:Hid (numX (m0:Int)=acc++[m]):=zq (HE.out.2.trans hacc.symm);have HK:=zq HE.out.1;clear hacc H HE hm ha hmI
   go_wp2_with (first | (at_builtin;refine za7 rfl (.tmp 22) (.tmp 25) 60 rfl 5 i0 (.int .u8 0) 1 1 Tryz.underlying60 hi hz0 hz1 hz2 rfl (by decide) HA.out 0 u4 acc.length (bysC acc) rfl rfl wr.heap.size #[.int .u8 (m:Int)] 5 (0,0) rfl HN.out rfl (by simp [Value.oneCell']) (by unfold maxLen;omega) (by omega) ?_;intro g cap w1 h1) | go_in)
   have H1:=zq h1;clear h1
   go_wp2_with fail
   go_ret2
   rw [HK.out,HX.out];exact ⟨_,rfl,by have:=H1.out;simpa [bysR,bysC] using this⟩
  ·have hd:128≤(m:Int):=by omega
   have e1:(m:Int).tmod 128=((m%128:Nat):Int):=by rw [Int.tmod_eq_emod_of_nonneg (by omega)];omega
   have e2:(m:Int).tdiv 128=((m/128:Nat):Int):=by rw [Int.tdiv_eq_ediv_of_nonneg (by omega)];omega
   have hlo:m%128<128:=by omega
   generalize hr:m%128=r at*;generalize hq:m/128=q at*;have hw:IntKind.u8.wrap ((r:Int)+128)=((r+128:Nat):Int):=by rw [u8_in (by omega) (by omega)];omega
   have HA:=zq (H.out.alloc (.cells #[.int .u8 ((r:Int)+128)] 5 (0,0)));have HN:=zq (heap_alloc_new wr (.cells #[.int .u8 ((r:Int)+128)] 5 (0,0)));have ha2:acc.length≤10:=by omega
   go_wp2_with (first | (at_builtin;refine za7 rfl (.tmp 13) (.tmp 18) 60 rfl 5 i0 (.int .u8 0) 1 1 Tryz.underlying60 hi hz0 hz1 hz2 rfl (by decide) HA.out 0 u4 acc.length (bysC acc) rfl rfl wr.heap.size #[.int .u8 ((r:Int)+128)] 5 (0,0) rfl HN.out rfl (by simp [Value.oneCell']) (by unfold maxLen;omega) (by omega) ?_;intro g cap w1 h1) | go_in)
   have H1:=zq h1;clear h1 HA HN H
   go_wp2_with fail
   go_roundw
   case rel=>
    obtain ⟨f',rfl⟩: ∃f',f=f'+1:=by
     cases f with
     | zero=>simp at hm;omega
     | succ f=>exact ⟨f,rfl⟩
    refine ⟨q,f',acc++[r+128],rfl,?_,by omega,by simp;omega,?_,zq ?_⟩
    ·rw [Nat.pow_succ] at hm;rw [←hq];exact (Nat.div_lt_iff_lt_mul (by omega)).2 hm
    ·rw [←hacc,zni (by omega:128≤m),hr,hq];simp
    ·have:=H1.out
     simpa [bysR,bysC] using this
   case measure=>simp [intOf];omega
theorem zig_any (n:Int):Calls Tryz.prog 294 #[.int .i64 n] W fun e w'=>e= .returned (.int .i64 (zigX n))∧W=w':=by
 by_cases h1:n< -549755813888
 ·have HE:Hid (zigX n=0):=zq (by unfold zigX;rw [show sgnOk n=false by unfold sgnOk;simp;omega];rfl)
  go_enter Tryz.func294,Tryz.ntmps294
  go_wp2_with fail
  go_ret
  rw [HE.out];exact ⟨rfl,rfl⟩
 have h1':decide (n< -549755813888)=false:=by simp;omega
 by_cases h2:549755813888≤n
 ·have HE:Hid (zigX n=0):=zq (by unfold zigX;rw [show sgnOk n=false by unfold sgnOk;simp;omega];rfl)
  go_enter Tryz.func294,Tryz.ntmps294
  go_wp2_with fail
  go_ret
  rw [HE.out];exact ⟨rfl,rfl⟩
 have h2':decide (549755813888≤n)=false:=by simp;omega
 have hk:sgnOk n=true:=by unfold sgnOk;simp;omega
 by_cases h3:n<0
 ·have HE:Hid (zigX n= -2*n-1):=zq (by unfold zigX zigN;rw [hk,if_pos rfl,if_pos h3];omega)
  clear hk;go_enter Tryz.func294,Tryz.ntmps294
  go_wp2_with fail
  go_ret
  rw [HE.out];exact ⟨rfl,rfl⟩
 ·have h3':decide (n<0)=false:=by simp;omega
  have HE:Hid (zigX n=2*n):=zq (by unfold zigX zigN;rw [hk,if_pos rfl,if_neg h3];omega);clear hk;go_enter Tryz.func294,Tryz.ntmps294
  go_wp2_with fail
  go_ret
  rw [HE.out];exact ⟨rfl,rfl⟩
theorem zqn (n:Int) (h:Own B w0 W ss):Calls Tryz.prog 275 #[.int .i64 n] W fun e w'=> ∃v,e= .returned (.tuple #[v,.bool (sgnOk n)])∧Own B w0 w' (bysR v (sgnX n)::ss):=by
 by_cases h1:n< -549755813888
 ·have HE:Hid (sgnOk n=false∧Own B w0 W (bysR (.slice none 0 0) (sgnX n)::ss)):=zq (by
   have e:sgnOk n=false:=by unfold sgnOk;simp;omega
   refine ⟨e,?_⟩;unfold sgnX;rw [e];exact h.row0)
  clear h;go_enter Tryz.func275,Tryz.ntmps275
  go_wp2_with fail
  go_ret2
  rw [HE.out.1];exact ⟨_,rfl,HE.out.2⟩
 have h1':decide (n< -549755813888)=false:=by simp;omega
 by_cases h2:549755813888≤n
 ·have HE:Hid (sgnOk n=false∧Own B w0 W (bysR (.slice none 0 0) (sgnX n)::ss)):=zq (by
   have e:sgnOk n=false:=by unfold sgnOk;simp;omega
   refine ⟨e,?_⟩;unfold sgnX;rw [e];exact h.row0)
  clear h h1;go_enter Tryz.func275,Tryz.ntmps275
  go_wp2_with fail
  go_ret2
  rw [HE.out.1];exact ⟨_,rfl,HE.out.2⟩
 have h2':decide (549755813888≤n)=false:=by simp;omega
 have hk:sgnOk n=true:=by unfold sgnOk;simp;omega
 have HZ:=zq (zig_any (W:=W) n);rw [show zigX n=(zigN n:Int) by unfold zigX;rw [hk,if_pos rfl]] at HZ;have hn:numOk (zigN n:Int)=true:=by have:=(zlk hk).2;unfold numOk;simp;omega
 have HN:=zq (zea (zigN n:Int) h);rw [hn,show numX (zigN n:Int)=sgnX n by unfold numX sgnX;rw [hn,hk];simp [numB,sgnB]] at HN;rw [hk];clear h hk hn;generalize (zigN n:Int)=z at*;go_enter Tryz.func275,Tryz.ntmps275
 go_wp2_with fail
 refine HZ.out.mono ?_;rintro e w' ⟨rfl,rfl⟩
 go_wp2_with fail
 refine HN.out.mono ?_;rintro e w' ⟨v,rfl,ho⟩;have HO:=zq ho;clear ho HN HZ
 go_wp2_with fail
 go_ret2
 exact ⟨_,rfl,HO.out⟩
end
end Go.Proofs.YtannckelmojkoaaGreat
