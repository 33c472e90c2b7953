/- Parts of the proof, one behind the other. -/
import Derived.Test.YtannckelmojkoaaGreatVwsB7
import Derived.Deep.MidRow
set_option maxHeartbeats 32000000
set_option maxRecDepth 100000
set_option linter.unusedVariables false
set_option linter.unusedSimpArgs false
namespace Go.Held
open Go Go.Mix
section
variable {P:Program} {ops:Array Oper} {Q:Exit→Act→World→Prop} {S T:World→Prop}
def Cond (S:World→Prop) (c:Nat) (w w':World):Prop:=if c=0 then True else if c=4 then S w' else w'=w
theorem zub {c:Nat} {w:World} (hS:c=4→S w):Cond S c w w:=by
 unfold Cond;by_cases h0:c=0
 ·rw [if_pos h0];trivial
 ·rw [if_neg h0]
  by_cases h4:c=4
  ·rw [if_pos h4];exact hS h4
  ·rw [if_neg h4]
def Gives (P:Program) (ops:Array Oper) (S:World→Prop) (c:Nat) (o:Oper) (v:Value) (a:Act) (w:World):Prop:=
 (Region.wanted o (yielded ops a.tmps)=true∧ ∀w',Cond S c w w'→(execOp a.eval o).run P w'= .ok (.value v) w')∨
 (Region.wanted o (yielded ops a.tmps)=false∧v=undef)
def quiet (c:Nat):Bool:=c==0 || c==1 || c==4
def after (S:World→Prop) (c:Nat):World→Prop:=if c=3 then fun _=>True else S
def step (P:Program) (ops:Array Oper) (S:World→Prop) (c:Nat) (o:Oper) (K:Act→World→Prop) (a:Act) (w:World):Prop:=
 if quiet c then∃v,Gives P ops S c o v a w∧K (a.put o.dst v) w else
  if Region.wanted o (yielded ops a.tmps) then o.wp P a w (fun a' w'=>after S c w'∧K a' w') NoQ else K (a.put o.dst undef) w
theorem zeu {c:Nat} {o:Oper} {K K':Act→World→Prop} (h: ∀a w,K a w→K' a w) {a:Act} {w:World} (hh:step P ops S c o K a w):step P ops S c o K' a w:=by
 unfold step at*;split
 ·rename_i hc;rw [if_pos hc] at hh;obtain ⟨v,h1,h2⟩:=hh;exact ⟨v,h1,h _ _ h2⟩
 ·rename_i hc
  rw [if_neg hc] at hh;split
  ·rename_i hw;rw [if_pos hw] at hh;exact Oper.wp_post (fun a w ⟨h1,h2⟩=>⟨h1,h a w h2⟩) hh
  ·rename_i hw;rw [if_neg hw] at hh;exact h _ _ hh
theorem zec {c:Nat} {o:Oper} {v:Value} {a a':Act} {w:World} (he:execOp a'.eval o=execOp a.eval o) (hw:Region.wanted o (yielded ops a'.tmps)=Region.wanted o (yielded ops a.tmps)):
  Gives P ops S c o v a' w↔Gives P ops S c o v a w:=by
 unfold Gives;rw [he,hw]
theorem zcb {c:Nat} {o:Oper} (hs: ∀cs b,o.op≠ .select cs b) {v:Value} {a:Act} {dst:Option Tmp} {u:Value} {w:World} (h: ∀d,dst=some d→d∉o.looksAt ops):
  Gives P ops S c o v (a.put dst u) w↔Gives P ops S c o v a w:=
 zec (execOp_put o hs a dst u h) (wanted_put o a dst u h)
theorem zcn {c:Nat} (hc:c=0∨c=4) {o:Oper} {v:Value} {a:Act} {w w':World} (h:Gives P ops S c o v a w):Gives P ops S c o v a w':=by
 unfold Gives Cond at*;rcases hc with rfl | rfl<;>exact h
theorem zi4 {c:Nat} {o:Oper} {v u:Value} {a:Act} {w w':World} (hS:Cond S c w w') (h1:Gives P ops S c o v a w) (h2:Gives P ops S c o u a w):v=u:=by
 rcases h1 with ⟨a1,b1⟩ | ⟨a1,b1⟩<;>rcases h2 with ⟨a2,b2⟩ | ⟨a2,b2⟩
 ·have:=(b1 w' hS).symm.trans (b2 w' hS);simpa using this
 ·rw [a1] at a2;cases a2
 ·rw [a1] at a2;cases a2
 ·rw [b1,b2]
theorem zb5 {c:Nat} {o:Oper} {v:Value} {a:Act} {ds:List Deferred} {w:World}:Gives P ops S c o v ({a with defers:=ds}:Act) w↔Gives P ops S c o v a w:=
 zec (by rw [zh9]) rfl
def Loud (P:Program) (ops:Array Oper) (T:World→Prop) (o:Oper) (K:Act→World→Prop) (a:Act) (w:World):Prop:=
 if Region.wanted o (yielded ops a.tmps) then o.wp P a w (fun a' w'=>T w'∧K a' w') NoQ else K (a.put o.dst undef) w
theorem zma {o:Oper} {K:Act→World→Prop} {a:Act} {w:World} (h:Loud P ops T o K a w): ∃ds x w',((Region.wanted o (yielded ops a.tmps)=true∧T w')∨w'=w)∧K (({a with defers:=ds}:Act).put o.dst x) w':=by
 unfold Loud at h;split at h
 ·rename_i hw
  unfold Oper.wp at h;generalize (execOp a.eval o).run P w=r at h;cases r with
  | ok n w'=>
   cases n<;>simp only [Oper.upon] at h
   case value v=>exact ⟨a.defers,v,w',.inl ⟨hw,h.1⟩,h.2⟩
   case skip=>exact ⟨a.defers,undef,w',.inl ⟨hw,h.1⟩,h.2⟩
   case defer d=>exact ⟨d::a.defers,undef,w',.inl ⟨hw,h.1⟩,h.2⟩
   case enter f args=>
    obtain ⟨e,w'',_,he,_⟩:=h [];cases e with
    | returned v=>exact ⟨a.defers,v,w'',.inl ⟨hw,he.1⟩,he.2⟩
    | panicked ch=>exact he.elim
    | outgrown=>obtain ⟨_,_,hq⟩:=he;exact hq.elim
   case row row args=>
    obtain ⟨v,w'',he,_⟩:=h default [];exact ⟨a.defers,v,w'',.inl ⟨hw,he.1⟩,he.2⟩
  | halt x w'=>cases x<;>simp only [Oper.upon] at h;exact h.elim
 ·exact ⟨a.defers,undef,w,.inr rfl,h⟩
theorem zg8 {c:Nat} (hc:c=0∨c=4) (hT: ∀w w',T w'→Cond S c w w') {o p:Oper} (hap:o.apart ops p=true) (hso: ∀cs b,o.op≠ .select cs b) (hsp: ∀cs b,p.op≠ .select cs b) {K:Act→World→Prop} {a:Act} {w:World} (hS0:Cond S c w w)
  (h:Loud P ops T p (fun a' w'=> ∃v,Gives P ops S c o v a' w'∧K (a'.put o.dst v) w') a w): ∃v,Gives P ops S c o v a w∧Loud P ops T p K (a.put o.dst v) w:=by
 obtain ⟨h1,h2,h3⟩:=Oper.apart_spec hap;obtain ⟨ds,x,w',_,v,hv,_⟩:=zma h;rw [zcb hso h3,zb5] at hv;have hv:Gives P ops S c o v a w:=zcn hc hv;refine ⟨v,hv,?_⟩;have keep: ∀(ds:List Deferred) (u:Value) (w':World),Cond S c w w'→(∃v',Gives P ops S c o v' (({a with defers:=ds}:Act).put p.dst u) w'∧K ((({a with defers:=ds}:Act).put p.dst u).put o.dst v') w')→
   K ((({a with defers:=ds}:Act).put p.dst u).put o.dst v) w':=by
  rintro ds u w' hS ⟨v',h4,h5⟩;rw [zcb hso h3,zb5] at h4;have:v=v':=zi4 hS (w:=w) hv (zcn hc h4);rw [this];exact h5
 unfold Loud at*;rw [wanted_put p a o.dst v h1];split
 ·rename_i hw
  rw [if_pos hw] at h;unfold Oper.wp at*;rw [execOp_put p hsp a o.dst v h1];generalize (execOp a.eval p).run P w=r at*;cases r with
  | ok n w'=>
   cases n<;>simp only [Oper.upon] at h⊢
   case value u=>exact ⟨h.1,by rw [Act.put_comm a v u h2];exact keep a.defers u w' (hT w w' h.1) h.2⟩
   case skip=>exact ⟨h.1,by rw [Act.put_comm a v undef h2];exact keep a.defers undef w' (hT w w' h.1) h.2⟩
   case defer d=>
    refine ⟨h.1,?_⟩;rw [Act.put_defers,Act.put_comm _ v undef h2];exact keep _ undef w' (hT w w' h.1) h.2
   case enter f args=>
    refine Calls.mono h fun e w'' he=> ?_;cases e with
    | returned u=>exact ⟨he.1,by rw [Act.put_comm a v u h2];exact keep a.defers u w'' (hT w w'' he.1) he.2⟩
    | panicked ch=>exact he.elim
    | outgrown=>obtain ⟨_,_,hq⟩:=he;exact hq.elim
   case row row args=>exact Rows.mono h fun u w'' he=>⟨he.1,by rw [Act.put_comm a v u h2];exact keep a.defers u w'' (hT w w'' he.1) he.2⟩
  | halt x w'=>cases x<;>simp only [Oper.upon] at h;exact h.elim
 ·rename_i hw
  rw [if_neg hw] at h;rw [Act.put_comm a v undef h2];exact keep a.defers undef w hS0 h
theorem zhn {c:Nat} (hc:c=0∨c=4) {o p:Oper} (hap:o.apart ops p=true) (hso: ∀cs b,o.op≠ .select cs b) (hsp: ∀cs b,p.op≠ .select cs b) {K:Act→World→Prop} {a:Act} {w:World} {v:Value}
  (hv:Gives P ops S c o v a w) (h:Loud P ops T p K (a.put o.dst v) w):Loud P ops T p (fun a' w'=> ∃v,Gives P ops S c o v a' w'∧K (a'.put o.dst v) w') a w:=by
 obtain ⟨h1,h2,h3⟩:=Oper.apart_spec hap;have keep: ∀(ds:List Deferred) (u:Value) (w':World),K ((({a with defers:=ds}:Act).put p.dst u).put o.dst v) w'→
   (∃v',Gives P ops S c o v' (({a with defers:=ds}:Act).put p.dst u) w'∧K ((({a with defers:=ds}:Act).put p.dst u).put o.dst v') w'):=by
  intro ds u w' hk;refine ⟨v,?_,hk⟩;rw [zcb hso h3,zb5];exact zcn hc hv
 unfold Loud at*;rw [wanted_put p a o.dst v h1] at h;split
 ·rename_i hw
  rw [if_pos hw] at h;unfold Oper.wp at*;rw [execOp_put p hsp a o.dst v h1] at h;generalize (execOp a.eval p).run P w=r at*;cases r with
  | ok n w'=>
   cases n<;>simp only [Oper.upon] at h⊢
   case value u=>exact ⟨h.1,keep a.defers u w' (by have:=h.2;rw [Act.put_comm a v u h2] at this;exact this)⟩
   case skip=>exact ⟨h.1,keep a.defers undef w' (by have:=h.2;rw [Act.put_comm a v undef h2] at this;exact this)⟩
   case defer d=>
    refine ⟨h.1,keep _ undef w' ?_⟩;have:=h.2;rw [Act.put_defers,Act.put_comm _ v undef h2] at this;exact this
   case enter f args=>
    refine Calls.mono h fun e w'' he=> ?_;cases e with
    | returned u=>exact ⟨he.1,keep a.defers u w'' (by have:=he.2;rw [Act.put_comm a v u h2] at this;exact this)⟩
    | panicked ch=>exact he.elim
    | outgrown=>obtain ⟨_,_,hq⟩:=he;exact hq.elim
   case row row args=>exact Rows.mono h fun u w'' he=>⟨he.1,keep a.defers u w'' (by have:=he.2;rw [Act.put_comm a v u h2] at this;exact this)⟩
  | halt x w'=>cases x<;>simp only [Oper.upon] at h;exact h.elim
 ·rename_i hw
  rw [if_neg hw] at h;exact keep a.defers undef w (by rw [Act.put_comm a v undef h2] at h;exact h)
def zef (c d:Nat):Bool:=(quiet c&&quiet d) || c==0 || d==0 || (c==4&&d==2) || (c==2&&d==4)
theorem zc0 {c:Nat} (hc:quiet c=true) {o:Oper} {K:Act→World→Prop} {a:Act} {w:World}:step P ops S c o K a w↔ ∃v,Gives P ops S c o v a w∧K (a.put o.dst v) w:=by unfold step;rw [if_pos hc]
theorem zgr {c:Nat} (hc:quiet c=false) {o:Oper} {K:Act→World→Prop} {a:Act} {w:World}:step P ops S c o K a w↔Loud P ops (after S c) o K a w:=by unfold step Loud;rw [if_neg (by simp [hc])]
theorem swap {c d:Nat} {o p:Oper} (hcd:zef c d=true) (hap:o.apart ops p=true) (hso: ∀cs b,o.op≠ .select cs b) (hsp: ∀cs b,p.op≠ .select cs b) {K:Act→World→Prop} {a:Act} {w:World} (hS:c=4→S w)
  (h:step P ops S d p (fun a' w'=>step P ops S c o K a' w') a w):step P ops S c o (fun a' w'=>step P ops S d p K a' w') a w:=by
 obtain ⟨h1,h2,h3⟩:=Oper.apart_spec hap;have hap':p.apart ops o=true:=by
  simp only [Oper.apart,Bool.and_eq_true] at hap⊢;refine ⟨?_,?_⟩
  ·cases hpd:p.dst with
   | none=>rfl
   | some e=>
    simp only [Bool.and_eq_true,Bool.not_eq_true',bne_iff_ne,ne_eq];refine ⟨?_,fun he=>h2 e he (by rw [hpd])⟩;have:=h3 e hpd
    simpa using this
  ·cases hod:o.dst with
   | none=>rfl
   | some e=>have:=h1 e hod;simpa using this
 cases hd:quiet d
 ·cases hc:quiet c
  ·exfalso
   unfold zef quiet at*;simp only [Bool.or_eq_false_iff,beq_eq_false_iff_ne,ne_eq,Bool.or_eq_true,Bool.and_eq_true,beq_iff_eq] at*;omega
  ·have hc04:c=0∨(c=4∧d=2):=by
    unfold zef quiet at*;simp only [Bool.or_eq_false_iff,beq_eq_false_iff_ne,ne_eq,Bool.or_eq_true,Bool.and_eq_true,beq_iff_eq] at*;omega
   rw [zgr hd] at h;rw [zc0 hc];have h':Loud P ops (after S d) p (fun a' w'=> ∃v,Gives P ops S c o v a' w'∧K (a'.put o.dst v) w') a w:=by
    simpa only [zc0 hc] using h
   have:=zg8 (S:=S) (T:=after S d) (c:=c) (by omega) (fun w w' hT=>by
    unfold Cond;rcases hc04 with rfl | ⟨rfl,rfl⟩
    ·simp
    ·simpa [after] using hT) hap hso hsp (by
    unfold Cond;rcases hc04 with rfl | ⟨rfl,rfl⟩
    ·simp
    ·simpa using hS rfl) h'
   obtain ⟨v,q1,q2⟩:=this;exact ⟨v,q1,(zgr hd).2 q2⟩
 ·cases hc:quiet c
  ·have hd04:d=0∨(d=4∧c=2):=by
    unfold zef quiet at*;simp only [Bool.or_eq_false_iff,beq_eq_false_iff_ne,ne_eq,Bool.or_eq_true,Bool.and_eq_true,beq_iff_eq] at*;omega
   rw [zc0 hd] at h;obtain ⟨v,hv,hl⟩:=h;rw [zgr hc] at hl⊢;have:=zhn (S:=S) (T:=after S c) (c:=d) (by omega) hap' hsp hso hv hl;unfold Loud at this⊢;simp only [zc0 hd];exact this
  ·rw [zc0 hd] at h
   obtain ⟨v,hv,hl⟩:=h;rw [zc0 hc] at hl⊢;obtain ⟨u,hu,hk⟩:=hl;rw [zcb hso h3] at hu;refine ⟨u,hu,(zc0 hd).2 ⟨v,?_,?_⟩⟩
   ·rw [zcb hsp h1];exact hv
   ·rw [Act.put_comm a u v h2];exact hk
def mix (P:Program) (ops:Array Oper) (S:World→Prop) (Q:Exit→Act→World→Prop) (c:Nat→Nat):List Nat→Act→World→Prop
 | [],a,w=>Q .normal a w
 | i::R,a,w=> ∃o,ops[i]?=some o∧step P ops S (c i) o (mix P ops S Q c R) a w
def zh5 (ops:Array Oper) (c:Nat→Nat) (i j:Nat):Bool:=
 match ops[i]?,ops[j]? with
 | some o,some p=>zef (c i) (c j)&&o.apart ops p
 | _,_=>false
theorem zs4 {c:Nat} {o:Oper} {K:Act→World→Prop} {a:Act} {w:World} (hS:S w) (hc:c≠3) (h:step P ops S c o K a w):step P ops S c o (fun a' w'=>S w'∧K a' w') a w:=by
 unfold step at*;split
 ·rename_i hq;rw [if_pos hq] at h;obtain ⟨v,h1,h2⟩:=h;exact ⟨v,h1,hS,h2⟩
 ·rename_i hq
  rw [if_neg hq] at h;split
  ·rename_i hw
   rw [if_pos hw] at h;exact Oper.wp_post (fun a' w' ⟨h1,h2⟩=>⟨h1,by simpa [after,hc] using h1,h2⟩) h
  ·rename_i hw;rw [if_neg hw] at h;exact ⟨hS,h⟩
theorem pull (c:Nat→Nat) (hsel:Region.noSelect ops=true): ∀(R:List Nat) (i:Nat) (a:Act) (w:World),R.Pairwise (· < ·)→i∈R→(∀j∈R,j<i→zh5 ops c i j=true)→(c i=4→S w)→
  mix P ops S Q c R a w→ ∃o,ops[i]?=some o∧step P ops S (c i) o (mix P ops S Q c (R.erase i)) a w:=by
 intro R
 induction R with
 | nil=>intro i a w _ hi;cases hi
 | cons j R ih=>
  intro i a w hs hi hp hS h;by_cases hji:j=i
  ·subst hji
   simp only [List.erase_cons_head];exact h
  ·have hi':i∈R:=by
    rcases List.mem_cons.1 hi with e | e
    ·exact absurd e.symm hji
    ·exact e
   have hlt:j<i:=(List.pairwise_cons.1 hs).1 i hi';have hpij:=hp j (by simp) hlt;obtain ⟨p,hpj,hst⟩:=h;unfold zh5 at hpij;rw [hpj] at hpij;cases hoi:ops[i]? with
   | none=>rw [hoi] at hpij;cases hpij
   | some o=>
    rw [hoi] at hpij;simp only [Bool.and_eq_true] at hpij;refine ⟨o,rfl,?_⟩;rw [List.erase_cons_tail (by simpa using hji)];have key: ∀a' w',(c i=4→S w')→mix P ops S Q c R a' w'→step P ops S (c i) o (mix P ops S Q c (R.erase i)) a' w':=fun a' w' hS' hm=>by
     obtain ⟨o',ho',hst'⟩:=ih i a' w' (List.pairwise_cons.1 hs).2 hi' (fun k hk=>hp k (by simp [hk])) hS' hm;rw [hoi] at ho';cases ho'
     exact hst'
    have h2:step P ops S (c j) p (fun a' w'=>step P ops S (c i) o (mix P ops S Q c (R.erase i)) a' w') a w:=by
     by_cases h4:c i=4
     ·have hc3:c j≠3:=fun e=>by
       have:=hpij.1;rw [h4,e] at this
       revert this;decide
      exact zeu (fun a' w' hm=>key a' w' (fun _=>hm.1) hm.2) (zs4 (hS h4) hc3 hst)
     ·exact zeu (fun a' w' hm=>key a' w' (fun e=>absurd e h4) hm) hst
    refine zeu (fun a' w' hm=>⟨p,hpj,hm⟩) (swap hpij.1 hpij.2 (fun cs b=>Region.noSelect_spec hsel i o cs b hoi) (fun cs b=>Region.noSelect_spec hsel j p cs b hpj) hS h2)
theorem zwe {c:Nat} {i:Nat} {o:Oper} (ho:ops[i]?=some o) {K:Act→World→Prop} {a:Act} {w:World} (hS:c=4→S w) (h:step P ops S c o K a w):wpOp P ops Q i (fun a' w'=>(c≠3→S w→S w')∧K a' w') a w:=by
 unfold step at h;unfold wpOp;simp only [ho];split at h
 ·obtain ⟨v,hv,hk⟩:=h
  rcases hv with ⟨h1,h2⟩ | ⟨h1,rfl⟩
  ·rw [if_pos h1]
   refine .inl ?_;unfold Oper.wp;rw [h2 w (zub hS)];exact ⟨fun _ h=>h,hk⟩
  ·rw [if_neg (by simp [h1])]
   exact ⟨fun _ h=>h,hk⟩
 ·split at h
  ·rename_i hw
   rw [if_pos hw];exact .inl (Oper.wp_post (fun a' w' h=>⟨fun hc _=>by simpa [after,hc] using h.1,h.2⟩) h)
  ·rename_i hw
   rw [if_neg hw];exact ⟨fun _ h=>h,h⟩
def zcf (ops:Array Oper) (c:Nat→Nat):Bool:=
 let m:=masks ops.toList #[]
 Region.noSelect ops&&
 (List.range ops.size).all fun i=>
  ((ops[i]?).map fun o=>o.after.toList.all fun e=> !Region.binds .any e || decide (e.on<i)).getD false&&
  (List.range i).all fun j=>((m.getD i 0).testBit j || zh5 ops c i j)&& !(c i==4&&c j==3)
theorem zeg {c:Nat→Nat} (h:zcf ops c=true):Region.noSelect ops=true∧(∀i o,ops[i]?=some o→ ∀e∈o.after,Region.binds .any e=true→e.on<i)∧
  ∀i j,i<ops.size→j<i→(Anc ops i j∨zh5 ops c i j=true)∧ ¬(c i=4∧c j=3):=by
 simp only [zcf,Bool.and_eq_true,List.all_eq_true,List.mem_range] at h;obtain ⟨h1,h2⟩:=h;refine ⟨h1,fun i o ho e he hb=> ?_,fun i j hi hj=> ?_⟩
 ·have:=(h2 i (Array.getElem?_eq_some_iff.1 ho).1).1
  rw [ho] at this;simp only [Option.map_some,Option.getD_some,List.all_eq_true,Bool.or_eq_true,Bool.not_eq_true',decide_eq_true_eq] at this;rcases this e (by simpa using he) with h | h
  ·rw [hb] at h;cases h
  ·exact h
 ·have:=(h2 i hi).2 j hj
  obtain ⟨ha,hb⟩:=this;refine ⟨?_,fun ⟨e1,e2⟩=>by simp [e1,e2] at hb⟩;rw [Bool.or_eq_true] at ha;rcases ha with h | h
  ·exact .inl (znq ops.toList [] #[] (by simp) (by simp) (fun k j h=>by simp at h) i j h)
  ·exact .inr h
theorem zja {c:Nat→Nat} (hok:zcf ops c=true): ∀(fuel:Nat) (R:List Nat) (listed:Array Bool) (a:Act) (w:World),R.length≤fuel→R.Pairwise (· < ·)→listed.size=ops.size→
  (∀k,k∈R↔k<ops.size∧listed.getD k false=false)→Closed ops listed→(S w∨ ∀k∈R,c k≠4)→mix P ops S Q c R a w→wpAny P .any ops Q fuel listed a w:=by
 obtain ⟨hsel,hdep,hpair⟩:=zeg hok;have hgd: ∀(listed:Array Bool) (k:Nat),listed.size=ops.size→k<ops.size→listed.getD k true=listed.getD k false:=by
  intro l k hs hk;have:k<l.size:=by omega
  simp [this]
 intro fuel
 induction fuel with
 | zero=>
  intro R listed a w hf _ hs hR _ _ h;have:R=[]:=List.eq_nil_of_length_eq_zero (by omega);subst this;refine ⟨?_,h⟩;cases hr:Region.ready .any ops listed with
  | nil=>rfl
  | cons x xs=>
   have hx:x∈Region.ready .any ops listed:=by rw [hr];simp
   obtain ⟨hx1,o,ho,_⟩:=mem_ready.1 hx;have hlt:=(Array.getElem?_eq_some_iff.1 ho).1;rw [hgd _ _ hs hlt] at hx1;have:=(hR x).2 ⟨hlt,hx1⟩;cases this
 | succ fuel ih=>
  intro R listed a w hf hsort hs hR hcl hS h;refine ⟨fun hr=> ?_,fun i hi=> ?_⟩
  ·cases R with
   | nil=>exact h
   | cons r R=>
    exfalso;obtain ⟨hlt,hun⟩:=(hR r).1 (by simp);have hro:ops[r]?=some ops[r]:=Array.getElem?_eq_getElem hlt;have hmem:r∈Region.ready .any ops listed:=by
     rw [mem_ready];refine ⟨by rw [hgd _ _ hs hlt];exact hun,ops[r],hro,fun e he hb=> ?_⟩;have hlt2:=hdep r _ hro e he hb;cases hl:listed.getD e.on false with
     | true=>rfl
     | false=>
      have hin:=(hR e.on).2 ⟨by omega,hl⟩;rcases List.mem_cons.1 hin with h1 | h1
      ·omega
      ·have:=(List.pairwise_cons.1 hsort).1 _ h1;omega
    rw [hr] at hmem;cases hmem
  ·obtain ⟨hi1,o,ho,hall⟩:=mem_ready.1 hi
   have hlt:=(Array.getElem?_eq_some_iff.1 ho).1;rw [hgd _ _ hs hlt] at hi1;have hiR:i∈R:=(hR i).2 ⟨hlt,hi1⟩;have hanc: ∀j∈R,Anc ops i j→False:=fun j hj h1=>by
    have h2:=h1.listed hcl (fun o' ho' e he hb=>by
     rw [ho] at ho';cases ho'
     exact hall e he hb)
    rw [((hR j).1 hj).2] at h2;cases h2
   have h4:c i=4→S w:=fun e=>hS.elim id (fun h=>absurd e (h i hiR));obtain ⟨o',ho',hst⟩:=pull c hsel R i a w hsort hiR (fun j hj hji=>by
    rcases (hpair i j hlt hji).1 with h1 | h1
    ·exact (hanc j hj h1).elim
    ·exact h1) h4 h
   refine wpOp_mono (fun a' w' ⟨hS',hm⟩=> ?_) (zwe ho' h4 hst);have hnd:R.Nodup:=hsort.imp (fun h=>Nat.ne_of_lt h);refine ih (R.erase i) _ a' w' ?_ (hsort.sublist List.erase_sublist) (by simp [hs]) (fun k=> ?_) (fun j oj hj hl e he hb=> ?_) ?_ hm
   ·rw [List.length_erase_of_mem hiR];omega
   ·rw [hnd.mem_erase_iff,hR k]
    by_cases hki:k=i
    ·subst hki
     have:k<listed.size:=by omega
     simp [this]
    ·rw [getD_set_ne false (Ne.symm hki)]
     exact ⟨fun h=>h.2,fun h=>⟨hki,h⟩⟩
   ·by_cases hji:i=j
    ·subst hji
     rw [ho] at hj;cases hj
     exact getD_set_true (hall e he hb)
    ·rw [getD_set_ne false hji] at hl
     exact getD_set_true (hcl j oj hj hl e he hb)
   ·by_cases h3:c i=3
    ·refine .inr fun k hk e=> ?_
     have hkR:=(hnd.mem_erase_iff.1 hk).2;have hki:=(hnd.mem_erase_iff.1 hk).1;have hklt:=((hR k).1 hkR).1;rcases Nat.lt_or_ge k i with hlt' | hge
     ·rcases (hpair i k hlt hlt').1 with h1 | h1
      ·exact hanc k hkR h1
      ·unfold zh5 at h1
       rw [ho,Array.getElem?_eq_getElem hklt] at h1;simp only [h3,e,Bool.and_eq_true] at h1;have:=h1.1
       revert this;decide
     ·exact (hpair k i hklt (by omega)).2 ⟨e,h3⟩
    ·rcases hS with hS | hS
     ·exact .inl (hS' h3 hS)
     ·exact .inr fun k hk=>hS k (hnd.mem_erase_iff.1 hk).2
theorem zdq {id:Nat} {a:Act} {w:World} (S:World→Prop) (c:Nat→Nat) (hm:P.follows .mixedOrders=true) (hok:zcf ops c=true) (hS:S w.drew)
  (h:mix P ops S Q c (List.range ops.size) a w.drew):(Code.region id ops true).wp P Q a w:=by
 refine wp_region_any hm ?_;refine zja (S:=S) hok ops.size (List.range ops.size) _ a _ (by simp) (List.pairwise_lt_range) (by simp) (fun k=> ?_) (fun j oj hj hl=> ?_) (.inl hS) h
 ·rw [List.mem_range]
  constructor
  ·intro hk;exact ⟨hk,by simp [hk]⟩
  ·exact fun h=>h.1
 ·exfalso
  have:j<ops.size:=(Array.getElem?_eq_some_iff.1 hj).1;simp [this] at hl
def Ext (w w':World):Prop:=w.heap.size≤w'.heap.size∧ ∀k,k<w.heap.size→w'.heap[k]?=w.heap[k]?
theorem Ext.refl (w:World):Ext w w:=⟨Nat.le_refl _,fun _ _=>rfl⟩
theorem Ext.trans {a b c:World} (h:Ext a b) (k:Ext b c):Ext a c:=⟨Nat.le_trans h.1 k.1,fun i hi=>(k.2 i (Nat.lt_of_lt_of_le hi h.1)).trans (h.2 i hi)⟩
def Gro (P:Program) {α:Type} (s:Sem α):Prop:= ∀w n w',s.run P w= .ok n w'→Ext w w'
theorem Gro.ind {α:Type} {s:Sem α} (h:Ind P s):Gro P s:=fun w n w' hr=>by rw [(h _ _ _ hr).1];exact Ext.refl _
theorem Gro.bind {α β:Type} {s:Sem α} {f:α→Sem β} (h1:Gro P s) (h2: ∀a,Gro P (f a)):Gro P (s>>=f):=by
 intro w n w' h;rw [Sem.run_bind] at h;cases hr:s.run P w with
 | ok a w''=>rw [hr] at h;exact (h1 _ _ _ hr).trans (h2 a _ _ _ h)
 | halt x w''=>rw [hr] at h;cases h
theorem Gro.new (o:Obj):Gro P (newObj o):=by
 intro w n w' h;have:w'= {w with heap:=w.heap.push o}:=by
  simp [newObj,Sem.run] at h;exact h.2.symm
 subst this;exact ⟨by simp,fun k hk=>by simp only;rw [Array.getElem?_push,if_neg (by omega)]⟩
theorem Gro.newRow (e:TypeId) (cs:Array Value):Gro P (newRow e cs):=Gro.bind (Gro.new _) fun _=>Gro.ind (Ind.pure _)
theorem Gro.box (t:TypeId) (v:Value):Gro P (Instr.box t v):=Gro.bind (Gro.newRow _ _) fun _=>Gro.ind (Ind.pure _)
theorem Gro.halt {α:Type} (x:Halt):Gro P (.halt x:Sem α):=Gro.ind (Ind.halt _)
theorem Gro.alloc (t:TypeId):Gro P (Instr.alloc t true (.tuple #[])):=Gro.bind (Gro.ind (Ind.zeroValue _)) fun _=>Gro.bind (Gro.newRow _ _) fun _=>Gro.ind (Ind.pure _)
theorem Gro.buildSlice (t:TypeId) (n:Nat) (ps:Array (Nat×Value)):Gro P (Instr.buildSlice t n ps):=by
 unfold Instr.buildSlice;refine Gro.bind (Gro.ind (Ind.underlying _)) fun d=> ?_;split
 ·refine Gro.bind (Gro.ind (Ind.sizeOf _)) fun _=> ?_
  dsimp only
  split
  ·exact Gro.bind (Gro.halt _) fun _=>by
    repeat' (first | exact Gro.bind (Gro.newRow _ _) (fun _=>Gro.ind (Ind.pure _)) | exact Gro.halt _ | (refine Gro.bind (Gro.ind ?_) fun _=> ?_) | exact Ind.pure _ | exact Ind.zeroValue _ | split | exact Ind.bind (Ind.zeroValue _) (fun _=>Ind.pure _))
  ·repeat' (first | exact Gro.bind (Gro.newRow _ _) (fun _=>Gro.ind (Ind.pure _)) | exact Gro.halt _ | (refine Gro.bind (Gro.ind ?_) fun _=> ?_) | exact Ind.pure _ | exact Ind.zeroValue _ | split | exact Ind.bind (Ind.zeroValue _) (fun _=>Ind.pure _))
 ·exact Gro.halt _
def makes (o:Oper):Bool:=
 match o.op with
 | .alloc _ | .box _ _ | .buildSlice _ _ _=>true
 | _=>false
theorem zzq {o:Oper} (h:makes o=true) {a:Act} {w:World} {K:Act→World→Prop} (hw:o.wp P a w K NoQ):o.wp P a w (fun a' w'=>Ext w w'∧K a' w') NoQ:=by
 have key: ∀ {s:Sem Value},Gro P s→ ∀n w',(do pure (.value (←s)):Sem Next).run P w= .ok n w'→Ext w w'∧ ∃v,n= .value v:=by
  intro s hs n w' hr;rw [Sem.run_bind] at hr;cases h2:s.run P w with
  | ok v w''=>
   rw [h2] at hr;simp [Pure.pure] at hr;obtain ⟨rfl,rfl⟩:=hr;exact ⟨hs _ _ _ h2,v,rfl⟩
  | halt x w''=>rw [h2] at hr;cases hr
 have key2: ∀n w',(execOp a.eval o).run P w= .ok n w'→Ext w w'∧ ∃v,n= .value v:=by
  obtain ⟨dst,op,type,pos,after,guard⟩:=o;unfold makes at h;unfold execOp
  dsimp only at h⊢
  split at h
  ·exact key (Gro.alloc _)
  ·exact key (Gro.box _ _)
  ·exact key (Gro.buildSlice _ _ _)
  ·cases h
 unfold Oper.wp at*;cases hr:(execOp a.eval o).run P w with
 | ok n w'=>
  obtain ⟨he,v,rfl⟩:=key2 _ _ hr;rw [hr] at hw;simp only [Oper.upon] at hw⊢;exact ⟨he,hw⟩
 | halt x w'=>rw [hr] at hw;cases x<;>simp only [Oper.upon] at hw;exact hw.elim
def zfr (w:World) (b:Nat):Nat→List Value→Prop
 | _,[]=>True
 | o,v::vs=>w.cell? ⟨b,o,none⟩=some v∧zfr w b (o+1) vs
abbrev HeldE:=Nat×Nat×List Value
def Held:List HeldE→World→Prop
 | [],_=>True
 | e::l,w=>zfr w e.1 e.2.1 e.2.2∧Held l w
theorem zfr.range {w:World} {b:Nat}: ∀ {vs:List Value} {o:Nat},zfr w b o vs→w.rangeAt b o vs
 | [],_,_=>fun j v hj=>by simp at hj
 | u::vs,o,h=>fun j v hj=>by
  cases j with
  | zero=>simp at hj;subst hj;exact h.1
  | succ j=>
   have:=zfr.range h.2 j v (by simpa using hj);rw [show o+(j+1)=o+1+j by omega];exact this
theorem zfr.of {w:World} {b:Nat}: ∀ {vs:List Value} {o:Nat},w.rangeAt b o vs→zfr w b o vs
 | [],_,_=>trivial
 | u::vs,o,h=>⟨by have:=h 0 u rfl;simpa using this,zfr.of (fun j v hj=>by have:=h (j+1) v (by simpa using hj);rw [show o+1+j=o+(j+1) by omega];exact this)⟩
theorem ztz {w:World} {b o:Nat} {v:Value} (h:w.cell? ⟨b,o,none⟩=some v):b<w.heap.size:=by
 by_cases hb:b<w.heap.size
 ·exact hb
 ·exfalso
  unfold World.cell? at h;simp [Array.getElem?_eq_none (Nat.le_of_not_lt hb)] at h
theorem zfr.ext {w w':World} (he:Ext w w') {b:Nat}: ∀ {vs:List Value} {o:Nat},zfr w b o vs→zfr w' b o vs
 | [],_,_=>trivial
 | u::vs,o,h=>⟨by
  have hb:=ztz h.1;have:w'.cell? ⟨b,o,none⟩=w.cell? ⟨b,o,none⟩:=by unfold World.cell?;simp only;rw [he.2 b hb]
  rw [this];exact h.1,zfr.ext he h.2⟩
theorem Held.ext {w w':World} (he:Ext w w'): ∀ {l:List HeldE},Held l w→Held l w'
 | [],_=>trivial
 | _::_,h=>⟨h.1.ext he,Held.ext he h.2⟩
theorem Held.get {w:World}: ∀ {l:List HeldE} {k:Nat} {e:HeldE},Held l w→l[k]?=some e→zfr w e.1 e.2.1 e.2.2
 | [],k,e,_,h=>by simp at h
 | e0::l,0,e,h,he=>by simp at he;subst he;exact h.1
 | e0::l,k+1,e,h,he=>Held.get h.2 (by simpa using he)
def rowB (P:Program) (t:TypeId):Bool:=match P.underlying t with | some d=>d.isRow | none=>false
def zsh (P:Program) (t:TypeId):Bool:=match P.underlying t with | some (.struct _) | some (.array _ _) | none=>false | _=>true
def zux (o:Oper):Bool:=match o.op with | .load _ _=>true | _=>false
def ziu (P:Program) (ops:Array Oper) (L:List HeldE) (a:Act):List (Nat×Nat)→Prop
 | []=>True
 | (i,k)::hs=>(match ops[i]?,L[k]? with
  | some o,some e=>(match o.op with
   | .load t x=>a.eval x= .pointer (some ⟨e.1,e.2.1,none⟩)∧((zsh P t=true∧e.2.2.length=1)∨(rowB P t=true∧(P.info? t).map (·.size)=some e.2.2.length))
   | _=>False)
  | _,_=>False)∧ziu P ops L a hs
theorem ziu.get {L:List HeldE} {a:Act} {i:Nat}: ∀ {hs:List (Nat×Nat)},ziu P ops L a hs→hs.any (·.1==i)=true→
  ∃(o:Oper) (e:HeldE) (k:Nat) (t:TypeId) (x:Operand),ops[i]?=some o∧L[k]?=some e∧o.op= .load t x∧a.eval x= .pointer (some ⟨e.1,e.2.1,none⟩)∧((zsh P t=true∧e.2.2.length=1)∨(rowB P t=true∧(P.info? t).map (·.size)=some e.2.2.length))
 | [],_,h=>by simp at h
 | (j,k)::hs,h,hi=>by
  by_cases hji:j=i
  ·subst hji
   have h1:=h.1;cases ho:ops[j]? with
   | none=>rw [ho] at h1;exact h1.elim
   | some o=>
    cases he:L[k]? with
    | none=>rw [ho,he] at h1;exact h1.elim
    | some e=>
     rw [ho,he] at h1
     dsimp only at h1
     split at h1
     ·rename_i t x hop
      exact ⟨o,e,k,t,x,rfl,he,hop,h1.1,h1.2⟩
     ·exact h1.elim
  ·simp only [List.any_cons,Bool.or_eq_true,beq_iff_eq] at hi
   rcases hi with hi | hi
   ·exact absurd hi hji
   ·exact ziu.get h.2 (by simpa using hi)
def zdv (P:Program) (ops:Array Oper) (L:List HeldE) (a:Act):List (Nat×Nat)→Prop
 | []=>True
 | (i,k)::hs=>((match ops[i]? with | some o=>zux o=true∧Region.wanted o (yielded ops a.tmps)=false | none=>False)∨ziu P ops L a [(i,k)])∧zdv P ops L a hs
theorem ziu.two {L:List HeldE} {a:Act}: ∀ {hs:List (Nat×Nat)},ziu P ops L a hs→zdv P ops L a hs
 | [],_=>trivial
 | (_,_)::_,h=>⟨.inr ⟨h.1,trivial⟩,ziu.two h.2⟩
theorem zdv.get {L:List HeldE} {a:Act} {i:Nat} {o:Oper} (ho:ops[i]?=some o): ∀ {hs:List (Nat×Nat)},zdv P ops L a hs→hs.any (·.1==i)=true→
  (zux o=true∧Region.wanted o (yielded ops a.tmps)=false)∨ ∃(o:Oper) (e:HeldE) (k:Nat) (t:TypeId) (x:Operand),ops[i]?=some o∧L[k]?=some e∧o.op= .load t x∧a.eval x= .pointer (some ⟨e.1,e.2.1,none⟩)∧((zsh P t=true∧e.2.2.length=1)∨(rowB P t=true∧(P.info? t).map (·.size)=some e.2.2.length))
 | [],_,h=>by simp at h
 | (j,k)::hs,h,hi=>by
  by_cases hji:j=i
  ·subst hji
   rcases h.1 with h1 | h1
   ·rw [ho] at h1;exact .inl h1
   ·exact .inr (h1.get (by simp))
  ·simp only [List.any_cons,Bool.or_eq_true,beq_iff_eq] at hi
   rcases hi with hi | hi
   ·exact absurd hi hji
   ·exact zdv.get ho h.2 (by simpa using hi)
theorem zuv {L:List HeldE} {a:Act} {o:Oper} {e:HeldE} {k:Nat} {t:TypeId} {x:Operand} (hk:L[k]?=some e) (ho:o.op= .load t x) (hx:a.eval x= .pointer (some ⟨e.1,e.2.1,none⟩))
  (hB:(zsh P t=true∧e.2.2.length=1)∨(rowB P t=true∧(P.info? t).map (·.size)=some e.2.2.length)): ∃v,∀w,Held L w→(execOp a.eval o).run P w= .ok (.value v) w:=by
 obtain ⟨dst,op,type,pos,after,guard⟩:=o;subst ho;rcases hB with ⟨h1,h2⟩ | ⟨h1,h2⟩
 ·obtain ⟨b,off,vs⟩:=e
  dsimp only at h2 hx hk
  match vs,h2 with
  | [v],_=>
   refine ⟨v,fun w hw=> ?_⟩;have hc:=(Held.get hw hk).1
   dsimp only at hc
   unfold execOp
   dsimp only
   rw [hx];have hl:(Instr.loadAt t (.pointer (some ⟨b,off,none⟩))).run P w= .ok v w:=by
    unfold zsh at h1;cases hu:P.underlying t with
    | none=>rw [hu] at h1;cases h1
    | some d=>
     rw [hu] at h1;have e1:(isAgg t).run P w= .ok false w:=by
      cases d<;>first | (cases h1;done) | simp [isAgg,Go.underlying,Go.program,Sem.run_bind,Sem.run,hu,Pure.pure]
     simp only [Instr.loadAt,Instr.sureAddr,loadVar,Sem.run_bind,Sem.run_pure,Result.andThen_ok,e1];simp [hc]
   rw [Sem.run_bind,hl];rfl
 ·obtain ⟨b,off,vs⟩:=e
  dsimp only at h2 hx hk
  refine ⟨.agg vs.toArray,fun w hw=> ?_⟩;have hc:=(Held.get hw hk).range;unfold execOp
  dsimp only
  rw [hx];unfold rowB at h1;cases hu:P.underlying t with
  | none=>rw [hu] at h1;cases h1
  | some d=>
   rw [hu] at h1;rw [Sem.run_bind,run_loadAt_mid w b off t vs d hc hu h1 h2];rfl
def cls (hs:List (Nat×Nat)) (free:List Nat) (ops:Array Oper) (i:Nat):Nat:=if free.contains i then 3 else if hs.any (·.1==i) then 4 else autoC ops i
def zh4 (P:Program) (ops:Array Oper) (free:List Nat) (a:Act):Bool:=
 (List.range ops.size).all fun i=>free.contains i || match ops[i]? with
  | some o=>clsOf o !=0 || !Region.wanted o (yielded ops a.tmps) || zgh P a o
  | none=>true
def FinS (S:World→Prop) (b:Bool) (K:Act→World→Prop):Exit→Act→World→Prop
 | .normal,a,w=>(match b with | true=>S w | false=>True)∧K a w
 | _,_,_=>False
def walk (P:Program) (ops:Array Oper) (S:World→Prop) (F:Act→World→Prop):List (List Oper×Bool)→Act→World→Prop
 | []=>F
 | s::segs=>fun a w=>wpList P ops (FinS S s.2 (walk P ops S F segs)) s.1 a w
def cutAt:List (Nat×Bool)→List Oper→List (List Oper×Bool)
 | [],l=>[(l,false)]
 | (n,b)::cs,l=>(l.take n,b)::cutAt cs (l.drop n)
def ends:List (Nat×Bool)→Nat→List Nat
 | [],_=>[]
 | (0,_)::cs,k=>ends cs k
 | (n+1,true)::cs,k=>(k+(n+1))::ends cs (k+(n+1))
 | (n+1,false)::cs,k=>ends cs (k+(n+1))
def okCuts (ops:Array Oper) (c:Nat→Nat) (cuts:List (Nat×Bool)):Bool:=
 let es:=ends cuts 0
 (List.range ops.size).all fun i=>(c i !=2 || es.contains (i+1) || ((ops[i]?).map makes).getD false)&&(List.range i).all fun j=> !(c j==3&&(c i==2 || c i==4))
theorem wp_NoQ' {R:Exit→Act→World→Prop} (hQ: ∀e a w,R e a w→e= .normal) {o:Oper} {a:Act} {w:World} {K:Act→World→Prop} (h:o.wp P a w K R):o.wp P a w K NoQ:=by
 unfold Oper.wp at*;generalize (execOp a.eval o).run P w=r at*;cases r with
 | ok n w'=>
  cases n<;>simp only [Oper.upon] at h⊢
  case value v=>exact h
  case skip=>exact h
  case defer d=>exact h
  case enter f args=>
   refine Calls.mono h fun e w'' he=> ?_;cases e with
   | returned v=>exact he
   | panicked ch=>exact absurd (hQ _ _ _ he) (by simp)
   | outgrown=>obtain ⟨_,_,hq⟩:=he;exact absurd (hQ _ _ _ hq) (by simp)
  case row row args=>exact h
 | halt x w'=>cases x<;>simp only [Oper.upon] at h<;>first | exact h.elim | exact absurd (hQ _ _ _ h) (by simp)
theorem wpList_cons' {R:Exit→Act→World→Prop} (hQ: ∀e a w,R e a w→e= .normal) {o:Oper} {l:List Oper} {a:Act} {w:World} (h:wpList P ops R (o::l) a w):
  if Region.wanted o (yielded ops a.tmps) then o.wp P a w (wpList P ops R l) NoQ else wpList P ops R l (a.put o.dst undef) w:=by
 unfold wpList at h;split
 ·rename_i hw
  rw [if_pos hw] at h;rcases h with h | ⟨_,_,_,hq⟩
  ·exact wp_NoQ' hQ h
  ·exact absurd (hQ _ _ _ hq) (by simp)
 ·rename_i hw
  rw [if_neg hw] at h;exact h
theorem zdu {b:Bool} {K:Act→World→Prop}: ∀e a w,FinS S b K e a w→e= .normal:=by
 intro e a w h;cases e<;>first | rfl | exact h.elim
theorem zpa {o:Oper} (h:zux o=true):calm o=false:=by
 unfold zux at h;unfold calm;split at h
 ·rename_i t x hop;rw [hop]
 ·cases h
theorem wp_ofNoQ {R:Exit→Act→World→Prop} {o:Oper} {a:Act} {w:World} {K:Act→World→Prop} (h:o.wp P a w K NoQ):o.wp P a w K R:=by
 unfold Oper.wp at*;generalize (execOp a.eval o).run P w=r at*;cases r with
 | ok n w'=>
  cases n<;>simp only [Oper.upon] at h⊢
  case value v=>exact h
  case skip=>exact h
  case defer d=>exact h
  case enter f args=>
   refine Calls.mono h fun e w'' he=> ?_;cases e with
   | returned v=>exact he
   | panicked ch=>exact he.elim
   | outgrown=>obtain ⟨_,_,hq⟩:=he;exact hq.elim
  case row row args=>exact h
 | halt x w'=>cases x<;>simp only [Oper.upon] at h;exact h.elim
theorem zm6 {R R':Exit→Act→World→Prop} (hQ: ∀e a w,R e a w→e= .normal) (hR: ∀e a w,R e a w→R' e a w): ∀(l:List Oper) (a:Act) (w:World),wpList P ops R l a w→wpList P ops R' l a w
 | [],a,w,h=>hR _ _ _ h
 | o::l,a,w,h=>by
  have h:=wpList_cons' hQ h;unfold wpList;split at h
  ·rename_i hw
   rw [if_pos hw];exact .inl (wp_ofNoQ (Oper.wp_mono (fun a w h=>zm6 hQ hR l a w h) h))
  ·rename_i hw
   rw [if_neg hw];exact zm6 hQ hR l _ _ h
theorem zon {S:World→Prop} {F F':Act→World→Prop} (hF: ∀a w,F a w→F' a w): ∀(segs:List (List Oper×Bool)) (a:Act) (w:World),walk P ops S F segs a w→walk P ops S F' segs a w
 | [],a,w,h=>hF a w h
 | s::segs,a,w,h=>zm6 zdu (fun e a w h=>by
  cases e<;>first | exact ⟨h.1,zon hF segs a w h.2⟩ | exact h.elim) s.1 a w h
def Out (P:Program) (ops:Array Oper) (L:List HeldE) (hs:List (Nat×Nat)) (free:List Nat) (k:Nat) (a:Act):Prop:=
 ∃a',zh4 P ops free a'=true∧zdv P ops L a' hs∧ ∀t,(∀j o,k≤j→ops[j]?=some o→o.dst≠some t)→a'.tmps[t]?=a.tmps[t]?
theorem zhc {L:List HeldE} {hs:List (Nat×Nat)} {free:List Nat} {R:Exit→Act→World→Prop} (hQ: ∀e a w,R e a w→e= .normal): ∀(l:List Oper) (k:Nat) (a:Act) (w:World),(∀j,j<l.length→ops[k+j]?=l[j]?)→
  (∀a' w',R .normal a' w'→Out P ops L hs free (k+l.length) a')→wpList P ops R l a w→Out P ops L hs free k a
 | [],k,a,w,_,h,hw=>by simpa using h a w hw
 | o::l,k,a,w,hl,h,hw=>by
  have hk:ops[k]?=some o:=by simpa using hl 0 (by simp)
  have hl': ∀j,j<l.length→ops[k+1+j]?=l[j]?:=fun j hj=>by
   have:=hl (j+1) (by simpa using hj);rw [show k+1+j=k+(j+1) by omega,this];simp
  have h': ∀a' w',R .normal a' w'→Out P ops L hs free (k+1+l.length) a':=fun a' w' hr=>by
   have:=h a' w' hr
   simpa [Nat.add_comm,Nat.add_left_comm,Nat.add_assoc] using this
  have hw:=wpList_cons' hQ hw;split at hw
  ·obtain ⟨ds,x,w',hk'⟩:=wp_out hw
   obtain ⟨a',h1,h2,h3⟩:=zhc hQ l (k+1) _ _ hl' h' hk';refine ⟨a',h1,h2,fun t ht=> ?_⟩;rw [h3 t (fun j o' hj ho=>ht j o' (by omega) ho),zoc (ht k o (Nat.le_refl _) hk)]
  ·obtain ⟨a',h1,h2,h3⟩:=zhc hQ l (k+1) _ _ hl' h' hw
   refine ⟨a',h1,h2,fun t ht=> ?_⟩;rw [h3 t (fun j o' hj ho=>ht j o' (by omega) ho)];exact zoc (ds:=a.defers) (ht k o (Nat.le_refl _) hk)
theorem zx2 {L:List HeldE} {hs:List (Nat×Nat)} {free:List Nat} {c:Nat→Nat} (hst:zgd ops=true) (hc04: ∀i o,ops[i]?=some o→(c i=0→clsOf o=0∧free.contains i=false)∧(c i=1→clsOf o=1)∧(c i=4→hs.any (·.1==i)=true)∧c i≤4)
  (hfree: ∀i j,j<ops.size→i<j→c i=3→c j≠2∧c j≠4) {b:Bool} {K:Act→World→Prop} {R:List Nat}:
  ∀(l:List Oper) (k:Nat) (a:Act) (w:World),(∀j,j<l.length→ops[k+j]?=l[j]?)→
  (∀j o,l[j]?=some o→c (k+j)=2→makes o=true∨(j+1=l.length∧b=true))→
  (Held L w∨ ∀j,k≤j→j<ops.size→c j≠2∧c j≠4)→
  (∀a' w',K a' w'→Out P ops L hs free (k+l.length) a')→
  (∀a' w',(Held L w'∨ ∀j,k+l.length≤j→j<ops.size→c j≠2∧c j≠4)→K a' w'→mix P ops (Held L) Q c R a' w')→
  wpList P ops (FinS (Held L) b K) l a w→mix P ops (Held L) Q c (List.range' k l.length++R) a w:=by
 intro l
 induction l with
 | nil=>intro k a w _ _ hS _ hK h;exact hK a w (by simpa using hS) h.2
 | cons o l ih=>
  intro k a w hl hmk hS hout hK h;have hk:ops[k]?=some o:=by simpa using hl 0 (by simp)
  have hl': ∀j,j<l.length→ops[k+1+j]?=l[j]?:=fun j hj=>by
   have:=hl (j+1) (by simpa using hj);rw [show k+1+j=k+(j+1) by omega,this];simp
  have hmk': ∀j o',l[j]?=some o'→c (k+1+j)=2→makes o'=true∨(j+1=l.length∧b=true):=fun j o' hj hc=>by
   have:=hmk (j+1) o' (by simpa using hj) (by rw [show k+(j+1)=k+1+j by omega];exact hc);rcases this with h | h
   ·exact .inl h
   ·exact .inr ⟨by have:=h.1;simp at this;exact this,h.2⟩
  have hout': ∀a' w',K a' w'→Out P ops L hs free (k+1+l.length) a':=fun a' w' hr=>by
   have:=hout a' w' hr
   simpa [Nat.add_comm,Nat.add_left_comm,Nat.add_assoc] using this
  have hK': ∀a' w',(Held L w'∨ ∀j,k+1+l.length≤j→j<ops.size→c j≠2∧c j≠4)→K a' w'→mix P ops (Held L) Q c R a' w':=fun a' w' h1 h2=>hK a' w' (h1.imp id fun h j hj=>h j (by simp at hj;omega)) h2;have hO:Out P ops L hs free k a:=zhc zdu (o::l) k a w hl (fun a' w' hr=>hout a' w' hr.2) h;have h0:=h;have h:=wpList_cons' zdu h;rw [List.length_cons,List.range'_succ,List.cons_append];refine ⟨o,hk,?_⟩;have hS1:Held L w∨ ∀j,k+1≤j→j<ops.size→c j≠2∧c j≠4:=hS.imp id fun h j hj=>h j (by omega);obtain ⟨c0,c1,c4,cle⟩:=hc04 k o hk;have hklt:=(Array.getElem?_eq_some_iff.1 hk).1;cases hq:quiet (c k)
  ·
   rw [zgr hq];unfold Loud;split at h
   ·rename_i hw
    rw [if_pos hw];by_cases h3:c k=3
    ·refine Oper.wp_post (Q:=NoQ) (fun a' w' h'=>⟨by simp [after,h3],ih (k+1) _ _ hl' hmk' (.inr fun j hj hjs=>hfree k j hjs (by omega) h3) hout' hK' h'⟩) h
    ·have h2:c k=2:=by
      unfold quiet at hq;simp only [Bool.or_eq_false_iff,beq_eq_false_iff_ne,ne_eq] at hq;omega
     have hSw:Held L w:=hS.elim id fun h=>absurd h2 (h k (Nat.le_refl _) hklt).1;have haf:after (Held L) (c k)=Held L:=by simp [after,h3]
     rw [haf];rcases hmk 0 o (by simp) (by simpa using h2) with hm | ⟨hm,rfl⟩
     ·exact Oper.wp_post (Q:=NoQ) (fun a' w' h'=>⟨Held.ext h'.1 hSw,ih (k+1) _ _ hl' hmk' (.inl (Held.ext h'.1 hSw)) hout' hK' h'.2⟩) (zzq hm h)
     ·have hln:l=[]:=List.eq_nil_of_length_eq_zero (by simp at hm;exact hm.symm ▸ rfl)
      subst hln;refine Oper.wp_post (Q:=NoQ) (fun a' w' h'=> ?_) h;have h':Held L w'∧K a' w':=h';exact ⟨h'.1,by simpa using hK a' w' (.inl h'.1) h'.2⟩
   ·rename_i hw
    rw [if_neg hw];exact ih (k+1) _ _ hl' hmk' hS1 hout' hK' h
  ·rw [zc0 hq]
   split at h
   ·rename_i hw
    have hrun: ∃v,(∀w',Cond (Held L) (c k) w w'→(execOp a.eval o).run P w'= .ok (.value v) w')∧wpList P ops (FinS (Held L) b K) l (a.put o.dst v) w:=by
     have hlook: ∀(hcm:calm o=false) (a':Act),(∀t:Tmp,(∀j o,k≤j→ops[j]?=some o→o.dst≠some t)→a'.tmps[t]?=a.tmps[t]?)→ ∀t∈o.looksAt ops,a'.tmps[t]?=a.tmps[t]?:=fun hcm a' hsame t ht=>hsame t fun j oj hj hoj=>zhw hst hcm hk hoj hj t ht;have h1:=h;unfold Oper.wp at h1;by_cases hc4:c k=4
     ·have hSw:Held L w:=hS.elim id fun h=>absurd hc4 (h k (Nat.le_refl _) hklt).2
      obtain ⟨a',_,ho2,hsame⟩:=hO;rcases ho2.get hk (c4 hc4) with ⟨hil,hun⟩ | ⟨o',e,n,t,x,ho',he,hop,hx,hB⟩
      ·exfalso
       have hcm:calm o=false:=zpa hil;rw [zgu (hlook hcm a' hsame),hw] at hun;cases hun
      rw [hk] at ho';cases ho'
      have hcm:calm o=false:=by unfold calm;rw [hop]
      have hx':a.eval x= .pointer (some ⟨e.1,e.2.1,none⟩):=by
       rw [←hx];exact (znj (hlook hcm a' hsame) x (by rw [hop];simp [Op.operands])).symm
      obtain ⟨v,hv⟩:=zuv (P:=P) he hop hx' hB;rw [hv w hSw] at h1;exact ⟨v,fun w2 h2=>hv w2 (by simpa [Cond,hc4] using h2),h1⟩
     ·cases hr:(execOp a.eval o).run P w with
      | halt x w'=>rw [hr] at h1;cases x<;>simp only [Oper.upon] at h1;exact h1.elim
      | ok n w'=>
       by_cases hc0:c k=0
       ·have hpure:zgh P a o=true:=by
         by_cases hcm:calm o=true
         ·exact znb hcm
         obtain ⟨a',hv,_,hsame⟩:=hO;have hlk:=hlook (by simpa using hcm) a' hsame;refine zjn (znj hlk) ?_;simp only [zh4,List.all_eq_true,List.mem_range] at hv;have h2:=hv k hklt;rw [hk] at h2;simp only [(c0 hc0).1,(c0 hc0).2,bne_self_eq_false,Bool.false_or,Bool.or_eq_true,Bool.not_eq_true',zgu hlk,hw] at h2;rcases h2 with h2 | h2
         ·cases h2
         ·exact h2
        obtain ⟨rfl,v,rfl,hall⟩:=zml hpure _ _ _ hr;rw [hr] at h1;exact ⟨v,fun w2 _=>hall w2,h1⟩
       ·have hc1:c k=1:=by
         unfold quiet at hq;simp only [Bool.or_eq_true,beq_iff_eq] at hq;omega
        have hload: ∃t x,o.op= .load t x:=by
         have h2:=c1 hc1;unfold clsOf at h2;split at h2<;>first | (rename_i heq;exact ⟨_,_,heq⟩) | omega
        obtain ⟨t,x,hop⟩:=hload;obtain ⟨rfl,v,rfl⟩:=zg7 hop hr;rw [hr] at h1;refine ⟨v,fun w2 h2=> ?_,h1⟩;have:w2=w':=by simpa [Cond,hc1] using h2
        subst this;exact hr
    obtain ⟨v,h1,h2⟩:=hrun;exact ⟨v,.inl ⟨hw,h1⟩,ih (k+1) _ _ hl' hmk' hS1 hout' hK' h2⟩
   ·rename_i hw
    exact ⟨undef,.inr ⟨by simpa using hw,rfl⟩,ih (k+1) _ _ hl' hmk' hS1 hout' hK' h⟩
def zz0 (ops:Array Oper) (hs:List (Nat×Nat)) (free:List Nat) (cuts:List (Nat×Bool)):Bool:=
 zcf ops (cls hs free ops)&&zgd ops&&okCuts ops (cls hs free ops) cuts
theorem zyd (ops:Array Oper) (i:Nat):autoC ops i≤2:=by
 unfold autoC;cases ops[i]? with
 | none=>simp
 | some o=>simp only [Option.map_some,Option.getD_some];unfold clsOf;split<;>omega
theorem zw8 {l:List Oper} {k n:Nat} (hl:ops.toList.drop k=l):(∀j,j<(l.take n).length→ops[k+j]?=(l.take n)[j]?)∧ops.toList.drop (k+(l.take n).length)=l.drop n:=by
 refine ⟨fun j hj=> ?_,?_⟩
 ·have hjn:j<n:=by simp at hj;omega
  rw [List.getElem?_take_of_lt hjn,←hl,List.getElem?_drop,Array.getElem?_toList]
 ·rw [←List.drop_drop,hl,List.length_take]
  by_cases hn:n≤l.length
  ·rw [Nat.min_eq_left hn]
  ·rw [Nat.min_eq_right (by omega),List.drop_length,List.drop_eq_nil_of_le (by omega)]
theorem ztk {L:List HeldE} {hs:List (Nat×Nat)} {free:List Nat}: ∀(cuts:List (Nat×Bool)) (l:List Oper) (k:Nat) (a:Act) (w:World),ops.toList.drop k=l→
  walk P ops (Held L) (fun a w=>zh4 P ops free a=true∧zdv P ops L a hs∧Q .normal a w) (cutAt cuts l) a w→Out P ops L hs free k a
 | [],l,k,a,w,hl,h=>by
  have hget: ∀j,j<l.length→ops[k+j]?=l[j]?:=fun j _=>by rw [←hl,List.getElem?_drop,Array.getElem?_toList]
  have h:wpList P ops (FinS (Held L) false (fun a w=>zh4 P ops free a=true∧zdv P ops L a hs∧Q .normal a w)) l a w:=h;exact zhc zdu l k a w hget (fun a' w' hr=>⟨a',hr.2.1,hr.2.2.1,fun _ _=>rfl⟩) h
 | (n,b)::cs,l,k,a,w,hl,h=>by
  obtain ⟨hget,hdrop⟩:=zw8 (n:=n) hl;have h:wpList P ops (FinS (Held L) b (walk P ops (Held L) (fun a w=>zh4 P ops free a=true∧zdv P ops L a hs∧Q .normal a w) (cutAt cs (l.drop n)))) (l.take n) a w:=h;exact zhc zdu (l.take n) k a w hget (fun a' w' hr=>ztk cs (l.drop n) _ a' w' hdrop hr.2) h
theorem ztj {L:List HeldE} {hs:List (Nat×Nat)} {free:List Nat} {c:Nat→Nat} (hst:zgd ops=true) (hc04: ∀i o,ops[i]?=some o→(c i=0→clsOf o=0∧free.contains i=false)∧(c i=1→clsOf o=1)∧(c i=4→hs.any (·.1==i)=true)∧c i≤4)
  (hfree: ∀i j,j<ops.size→i<j→c i=3→c j≠2∧c j≠4): ∀(cuts:List (Nat×Bool)) (l:List Oper) (k:Nat) (a:Act) (w:World),ops.toList.drop k=l→
  (∀i o,k≤i→ops[i]?=some o→c i=2→makes o=true∨(i+1)∈ends cuts k)→
  (Held L w∨ ∀j,k≤j→j<ops.size→c j≠2∧c j≠4)→
  walk P ops (Held L) (fun a w=>zh4 P ops free a=true∧zdv P ops L a hs∧Q .normal a w) (cutAt cuts l) a w→mix P ops (Held L) Q c (List.range' k l.length) a w
 | [],l,k,a,w,hl,hmk,hS,h=>by
  have hget: ∀j,j<l.length→ops[k+j]?=l[j]?:=fun j _=>by rw [←hl,List.getElem?_drop,Array.getElem?_toList]
  have h:wpList P ops (FinS (Held L) false (fun a w=>zh4 P ops free a=true∧zdv P ops L a hs∧Q .normal a w)) l a w:=h;have:=zx2 (Q:=Q) (R:=[]) hst hc04 hfree l k a w hget (fun j o hj hc=>by
   have hjl:=(List.getElem?_eq_some_iff.1 hj).1;rcases hmk (k+j) o (by omega) (by rw [hget j hjl];exact hj) hc with h | h
   ·exact .inl h
   ·simp [ends] at h) hS (fun a' w' hr=>⟨a',hr.1,hr.2.1,fun _ _=>rfl⟩) (fun a' w' _ hr=>hr.2.2) h
  simpa using this
 | (n,b)::cs,l,k,a,w,hl,hmk,hS,h=>by
  obtain ⟨hget,hdrop⟩:=zw8 (n:=n) hl;have h:wpList P ops (FinS (Held L) b (walk P ops (Held L) (fun a w=>zh4 P ops free a=true∧zdv P ops L a hs∧Q .normal a w) (cutAt cs (l.drop n)))) (l.take n) a w:=h;have hls:l.length=ops.size-k:=by rw [←hl];simp
  have hmk2: ∀i o,k+(l.take n).length≤i→ops[i]?=some o→c i=2→makes o=true∨(i+1)∈ends cs (k+(l.take n).length):=fun i o hi ho hc=>by
   have hisz:=(Array.getElem?_eq_some_iff.1 ho).1;have hle:(l.take n).length=n:=by simp at hi⊢;omega
   rw [hle] at hi⊢;rcases hmk i o (by omega) ho hc with h | h
   ·exact .inl h
   ·right
    cases n<;>cases b<;>simp only [ends] at h
    ·exact h
    ·exact h
    ·exact h
    ·rcases List.mem_cons.1 h with h | h
     ·omega
     ·exact h
  have hmk1: ∀j o,(l.take n)[j]?=some o→c (k+j)=2→makes o=true∨(j+1=(l.take n).length∧b=true):=fun j o hj hc=>by
   have hjl:=(List.getElem?_eq_some_iff.1 hj).1;have hjn:j<n:=by have:=List.length_take_le n l;omega
   rcases hmk (k+j) o (by omega) (by rw [hget j hjl];exact hj) hc with h | h
   ·exact .inl h
   ·have hend: ∀(cs:List (Nat×Bool)) (q x:Nat),x∈ends cs q→q<x:=by
     intro cs
     induction cs with
     | nil=>intro q x hx;simp [ends] at hx
     | cons e cs ih=>
      intro q x hx;obtain ⟨m,f⟩:=e;cases m<;>cases f<;>simp only [ends] at hx
      ·have:=ih _ _ hx;omega
      ·have:=ih _ _ hx;omega
      ·have:=ih _ _ hx;omega
      ·rcases List.mem_cons.1 hx with hx | hx
       ·omega
       ·have:=ih _ _ hx;omega
    cases n<;>cases b<;>simp only [ends] at h
    ·omega
    ·omega
    ·have:=hend _ _ _ h;omega
    ·rcases List.mem_cons.1 h with h | h
     ·exact .inr ⟨by simp only [List.length_take] at hjl⊢;omega,rfl⟩
     ·have:=hend _ _ _ h;omega
  have:=zx2 (Q:=Q) (R:=List.range' (k+(l.take n).length) (l.drop n).length) hst hc04 hfree (l.take n) k a w hget hmk1 hS (fun a' w' hr=>ztk cs (l.drop n) _ a' w' hdrop hr)
   (fun a' w' hS' hr=>ztj hst hc04 hfree cs (l.drop n) _ a' w' hdrop hmk2 hS' hr) h
  rw [List.range'_append_1] at this
  rwa [show (l.take n).length+(l.drop n).length=l.length by simp;omega] at this
theorem wp_held2 {id:Nat} {l:List Oper} {a:Act} {w:World} (L:List HeldE) (hs:List (Nat×Nat)) (free:List Nat) (cuts:List (Nat×Bool)) (hm:P.follows .mixedOrders=true) (hok:zz0 l.toArray hs free cuts=true)
  (hS:Held L w.drew) (h:walk P l.toArray (Held L) (fun a w=>zh4 P l.toArray free a=true∧zdv P l.toArray L a hs∧Q .normal a w) (cutAt cuts l) a w.drew):(Code.region id l.toArray true).wp P Q a w:=by
 simp only [zz0,Bool.and_eq_true] at hok;obtain ⟨⟨h1,h2⟩,h3⟩:=hok;simp only [okCuts,List.all_eq_true,List.mem_range,Bool.and_eq_true,Bool.not_eq_true',Bool.and_eq_false_iff,beq_eq_false_iff_ne,ne_eq,Bool.or_eq_false_iff,Bool.or_eq_true,bne_iff_ne] at h3;have hcls: ∀i o,l.toArray[i]?=some o→(cls hs free l.toArray i=0→clsOf o=0∧free.contains i=false)∧(cls hs free l.toArray i=1→clsOf o=1)∧(cls hs free l.toArray i=4→hs.any (·.1==i)=true)∧cls hs free l.toArray i≤4:=by
  intro i o ho;have hauto:autoC l.toArray i=clsOf o:=by simp only [autoC,ho,Option.map_some,Option.getD_some]
  have hle:=zyd l.toArray i;unfold cls;split
  ·simp
  ·rename_i hfr
   split
   ·rename_i h;simp [h]
   ·rw [hauto] at hle⊢
    exact ⟨fun h=>⟨h,by simpa using hfr⟩,fun h=>h,by omega,by omega⟩
 refine zdq (Held L) (cls hs free l.toArray) hm h1 hS ?_;have:=ztj (Q:=Q) h2 hcls (fun i j hj hij e=>by
  have:=(h3 j hj).2 i hij;rcases this with h | h
  ·exact absurd e h
  ·exact h) cuts l 0 a w.drew (by simp) (fun i o _ ho hc=>by
  have hi:=(Array.getElem?_eq_some_iff.1 ho).1;rcases (h3 i hi).1 with h | h
  ·rcases h with h | h
   ·exact absurd hc h
   ·exact .inr (by simpa using h)
  ·rw [ho] at h
   exact .inl (by simpa using h)) (.inl hS) h
 rw [show List.range l.toArray.size=List.range' 0 l.length by rw [List.range_eq_range'];simp];exact this
theorem wp_held {id:Nat} {l:List Oper} {a:Act} {w:World} (L:List HeldE) (hs:List (Nat×Nat)) (free:List Nat) (cuts:List (Nat×Bool)) (hm:P.follows .mixedOrders=true) (hok:zz0 l.toArray hs free cuts=true)
  (hS:Held L w.drew) (h:walk P l.toArray (Held L) (fun a w=>zh4 P l.toArray free a=true∧ziu P l.toArray L a hs∧Q .normal a w) (cutAt cuts l) a w.drew):(Code.region id l.toArray true).wp P Q a w:=
 wp_held2 L hs free cuts hm hok hS (zon (fun _ _ h=>⟨h.1,h.2.1.two,h.2.2⟩) _ _ _ h)
end
end Go.Held
