/- Parts of the proof, one behind the other. -/
import Derived.Test.YtannckelmojkoaaGreatVwsB1
import Derived.Orders
import Derived.Tactics
import Derived.Laws.Sem
import Derived.Laws.Panics
import Derived.Test.YtannckelmojkoaaGreatRows
import Derived.Deep.QuietTactic
import Derived.BigQuiet
import Derived.Deep.RegionWith
set_option maxHeartbeats 32000000
set_option maxRecDepth 100000
set_option linter.unusedVariables false
set_option linter.unusedSimpArgs false
namespace Go.Mix
open Go
section
variable {P:Program} {ops:Array Oper} {Q:Exit→Act→World→Prop} {S:World→Prop}
def NoQ:Exit→Act→World→Prop:=fun _ _ _=>False
def Gives (P:Program) (ops:Array Oper) (S:World→Prop) (c:Nat) (o:Oper) (v:Value) (a:Act) (w:World):Prop:=
 (Region.wanted o (yielded ops a.tmps)=true∧ ∀w',(if c=0 then S w' else w'=w)→(execOp a.eval o).run P w'= .ok (.value v) w')∨
 (Region.wanted o (yielded ops a.tmps)=false∧v=undef)
def Loud (P:Program) (ops:Array Oper) (S:World→Prop) (o:Oper) (K:Act→World→Prop) (a:Act) (w:World):Prop:=
 if Region.wanted o (yielded ops a.tmps) then o.wp P a w (fun a' w'=>S w'∧K a' w') NoQ else S w∧K (a.put o.dst undef) w
def zbw (P:Program) (ops:Array Oper) (S:World→Prop) (c:Nat) (o:Oper) (K:Act→World→Prop) (a:Act) (w:World):Prop:=
 if c≤1 then∃v,Gives P ops S c o v a w∧K (a.put o.dst v) w else Loud P ops S o K a w
theorem Oper.wp_post {o:Oper} {a:Act} {w:World} {K K':Act→World→Prop} (h: ∀a w,K a w→K' a w) (hh:o.wp P a w K NoQ):o.wp P a w K' Q:=by
 unfold Oper.wp at*;generalize (execOp a.eval o).run P w=r at*;cases r with
 | ok n w'=>
  cases n<;>simp only [Oper.upon] at hh⊢
  case value v=>exact h _ _ hh
  case skip=>exact h _ _ hh
  case defer d=>exact h _ _ hh
  case enter f args=>
   refine Calls.mono hh fun e w'' he=> ?_;cases e with
   | returned v=>exact h _ _ he
   | panicked ch=>exact he.elim
   | outgrown=>obtain ⟨_,_,hq⟩:=he;exact hq.elim
  case row row args=>exact Rows.mono hh fun _ _ he=>h _ _ he
 | halt x w'=>cases x<;>simp only [Oper.upon] at hh;exact hh.elim
theorem zuz {o:Oper} {K K':Act→World→Prop} (h: ∀a w,K a w→K' a w) {a:Act} {w:World} (hh:Loud P ops S o K a w):Loud P ops S o K' a w:=by
 unfold Loud at*;split
 ·rename_i hw;rw [if_pos hw] at hh;exact Oper.wp_post (fun a w ⟨h1,h2⟩=>⟨h1,h a w h2⟩) hh
 ·rename_i hw;rw [if_neg hw] at hh;exact ⟨hh.1,h _ _ hh.2⟩
theorem zeu {c:Nat} {o:Oper} {K K':Act→World→Prop} (h: ∀a w,K a w→K' a w) {a:Act} {w:World} (hh:zbw P ops S c o K a w):zbw P ops S c o K' a w:=by
 unfold zbw at*;split
 ·rename_i hc;rw [if_pos hc] at hh;obtain ⟨v,h1,h2⟩:=hh;exact ⟨v,h1,h _ _ h2⟩
 ·rename_i hc;rw [if_neg hc] at hh;exact zuz h hh
theorem zec {c:Nat} {o:Oper} {v:Value} {a a':Act} {w:World} (he:execOp a'.eval o=execOp a.eval o) (hw:Region.wanted o (yielded ops a'.tmps)=Region.wanted o (yielded ops a.tmps)):
  Gives P ops S c o v a' w↔Gives P ops S c o v a w:=by
 unfold Gives;rw [he,hw]
theorem zcb {c:Nat} {o:Oper} (hs: ∀cs b,o.op≠ .select cs b) {v:Value} {a:Act} {dst:Option Tmp} {u:Value} {w:World} (h: ∀d,dst=some d→d∉o.looksAt ops):
  Gives P ops S c o v (a.put dst u) w↔Gives P ops S c o v a w:=
 zec (execOp_put o hs a dst u h) (wanted_put o a dst u h)
theorem zcn {c:Nat} (hc:c=0) {o:Oper} {v:Value} {a:Act} {w w':World} (h:Gives P ops S c o v a w):Gives P ops S c o v a w':=by
 subst hc;exact h
theorem zi4 {o:Oper} {v u:Value} {a:Act} {w w':World} (hS:S w') (h1:Gives P ops S 0 o v a w) (h2:Gives P ops S 0 o u a w):v=u:=by
 rcases h1 with ⟨a1,b1⟩ | ⟨a1,b1⟩<;>rcases h2 with ⟨a2,b2⟩ | ⟨a2,b2⟩
 ·have:=(b1 w' hS).symm.trans (b2 w' hS);simpa using this
 ·rw [a1] at a2;cases a2
 ·rw [a1] at a2;cases a2
 ·rw [b1,b2]
theorem zma {o:Oper} {K:Act→World→Prop} {a:Act} {w:World} (h:Loud P ops S o K a w): ∃ds x w',S w'∧K (({a with defers:=ds}:Act).put o.dst x) w':=by
 unfold Loud at h;split at h
 ·unfold Oper.wp at h
  generalize (execOp a.eval o).run P w=r at h;cases r with
  | ok n w'=>
   cases n<;>simp only [Oper.upon] at h
   case value v=>exact ⟨a.defers,v,w',h⟩
   case skip=>exact ⟨a.defers,undef,w',h⟩
   case defer d=>exact ⟨d::a.defers,undef,w',h⟩
   case enter f args=>
    obtain ⟨e,w'',_,he,_⟩:=h [];cases e with
    | returned v=>exact ⟨a.defers,v,w'',he⟩
    | panicked ch=>exact he.elim
    | outgrown=>obtain ⟨_,_,hq⟩:=he;exact hq.elim
   case row row args=>
    obtain ⟨v,w'',he,_⟩:=h default [];exact ⟨a.defers,v,w'',he⟩
  | halt x w'=>cases x<;>simp only [Oper.upon] at h;exact h.elim
 ·exact ⟨a.defers,undef,w,h⟩
theorem zh9 (a:Act) (ds:List Deferred):({a with defers:=ds}:Act).eval=a.eval:=by
 funext x;cases x<;>rfl
theorem zb5 {c:Nat} {o:Oper} {v:Value} {a:Act} {ds:List Deferred} {w:World}:Gives P ops S c o v ({a with defers:=ds}:Act) w↔Gives P ops S c o v a w:=
 zec (by rw [zh9]) rfl
theorem zg8 {o p:Oper} (hap:o.apart ops p=true) (hso: ∀cs b,o.op≠ .select cs b) (hsp: ∀cs b,p.op≠ .select cs b) {K:Act→World→Prop} {a:Act} {w:World}
  (h:Loud P ops S p (fun a' w'=> ∃v,Gives P ops S 0 o v a' w'∧K (a'.put o.dst v) w') a w): ∃v,Gives P ops S 0 o v a w∧Loud P ops S p K (a.put o.dst v) w:=by
 obtain ⟨h1,h2,h3⟩:=Oper.apart_spec hap;obtain ⟨ds,x,w',_,v,hv,_⟩:=zma h;rw [zcb hso h3,zb5] at hv;have hv:Gives P ops S 0 o v a w:=zcn rfl hv;refine ⟨v,hv,?_⟩;have keep: ∀(ds:List Deferred) (u:Value) (w':World),S w'→(∃v',Gives P ops S 0 o v' (({a with defers:=ds}:Act).put p.dst u) w'∧K ((({a with defers:=ds}:Act).put p.dst u).put o.dst v') w')→
   K ((({a with defers:=ds}:Act).put p.dst u).put o.dst v) w':=by
  rintro ds u w' hS ⟨v',h4,h5⟩;rw [zcb hso h3,zb5] at h4;have:v=v':=zi4 hS (w:=w) hv (zcn rfl h4);rw [this];exact h5
 unfold Loud at*;rw [wanted_put p a o.dst v h1];split
 ·rename_i hw
  rw [if_pos hw] at h;unfold Oper.wp at*;rw [execOp_put p hsp a o.dst v h1];generalize (execOp a.eval p).run P w=r at*;cases r with
  | ok n w'=>
   cases n<;>simp only [Oper.upon] at h⊢
   case value u=>exact ⟨h.1,by rw [Act.put_comm a v u h2];exact keep a.defers u w' h.1 h.2⟩
   case skip=>exact ⟨h.1,by rw [Act.put_comm a v undef h2];exact keep a.defers undef w' h.1 h.2⟩
   case defer d=>
    refine ⟨h.1,?_⟩;rw [Act.put_defers,Act.put_comm _ v undef h2];exact keep _ undef w' h.1 h.2
   case enter f args=>
    refine Calls.mono h fun e w'' he=> ?_;cases e with
    | returned u=>exact ⟨he.1,by rw [Act.put_comm a v u h2];exact keep a.defers u w'' he.1 he.2⟩
    | panicked ch=>exact he.elim
    | outgrown=>obtain ⟨_,_,hq⟩:=he;exact hq.elim
   case row row args=>exact Rows.mono h fun u w'' he=>⟨he.1,by rw [Act.put_comm a v u h2];exact keep a.defers u w'' he.1 he.2⟩
  | halt x w'=>cases x<;>simp only [Oper.upon] at h;exact h.elim
 ·rename_i hw
  rw [if_neg hw] at h;exact ⟨h.1,by rw [Act.put_comm a v undef h2];exact keep a.defers undef w h.1 h.2⟩
theorem zhn {o p:Oper} (hap:o.apart ops p=true) (hso: ∀cs b,o.op≠ .select cs b) (hsp: ∀cs b,p.op≠ .select cs b) {K:Act→World→Prop} {a:Act} {w:World} {v:Value}
  (hv:Gives P ops S 0 o v a w) (h:Loud P ops S p K (a.put o.dst v) w):Loud P ops S p (fun a' w'=> ∃v,Gives P ops S 0 o v a' w'∧K (a'.put o.dst v) w') a w:=by
 obtain ⟨h1,h2,h3⟩:=Oper.apart_spec hap;have keep: ∀(ds:List Deferred) (u:Value) (w':World),K ((({a with defers:=ds}:Act).put p.dst u).put o.dst v) w'→
   (∃v',Gives P ops S 0 o v' (({a with defers:=ds}:Act).put p.dst u) w'∧K ((({a with defers:=ds}:Act).put p.dst u).put o.dst v') w'):=by
  intro ds u w' hk;refine ⟨v,?_,hk⟩;rw [zcb hso h3,zb5];exact zcn rfl hv
 unfold Loud at*;rw [wanted_put p a o.dst v h1] at h;split
 ·rename_i hw
  rw [if_pos hw] at h;unfold Oper.wp at*;rw [execOp_put p hsp a o.dst v h1] at h;generalize (execOp a.eval p).run P w=r at*;cases r with
  | ok n w'=>
   cases n<;>simp only [Oper.upon] at h⊢
   case value u=>exact ⟨h.1,keep a.defers u w' (by have:=h.2;rw [Act.put_comm a v u h2] at this;exact this)⟩
   case skip=>exact ⟨h.1,keep a.defers undef w' (by have:=h.2;rw [Act.put_comm a v undef h2] at this;exact this)⟩
   case defer d=>
    refine ⟨h.1,keep _ undef w' ?_⟩;have:=h.2;rw [Act.put_defers,Act.put_comm _ v undef h2] at this;exact this
   case enter f args=>
    refine Calls.mono h fun e w'' he=> ?_;cases e with
    | returned u=>exact ⟨he.1,keep a.defers u w'' (by have:=he.2;rw [Act.put_comm a v u h2] at this;exact this)⟩
    | panicked ch=>exact he.elim
    | outgrown=>obtain ⟨_,_,hq⟩:=he;exact hq.elim
   case row row args=>exact Rows.mono h fun u w'' he=>⟨he.1,keep a.defers u w'' (by have:=he.2;rw [Act.put_comm a v u h2] at this;exact this)⟩
  | halt x w'=>cases x<;>simp only [Oper.upon] at h;exact h.elim
 ·rename_i hw
  rw [if_neg hw] at h;exact ⟨h.1,keep a.defers undef w (by have:=h.2;rw [Act.put_comm a v undef h2] at this;exact this)⟩
def zef (c d:Nat):Bool:=c==0 || d==0 || (decide (c≤1)&&decide (d≤1))
theorem swap {c d:Nat} {o p:Oper} (hcd:zef c d=true) (hap:o.apart ops p=true) (hso: ∀cs b,o.op≠ .select cs b) (hsp: ∀cs b,p.op≠ .select cs b) {K:Act→World→Prop} {a:Act} {w:World}
  (h:zbw P ops S d p (fun a' w'=>zbw P ops S c o K a' w') a w):zbw P ops S c o (fun a' w'=>zbw P ops S d p K a' w') a w:=by
 obtain ⟨h1,h2,h3⟩:=Oper.apart_spec hap;by_cases hd:d≤1
 ·by_cases hc:c≤1
  ·simp only [zbw,if_pos hd,if_pos hc] at*
   obtain ⟨v,hv,u,hu,hk⟩:=h;rw [zcb hso h3] at hu;refine ⟨u,hu,v,?_,?_⟩
   ·rw [zcb hsp h1];exact hv
   ·rw [Act.put_comm a u v h2];exact hk
  ·simp only [zbw,if_pos hd,if_neg hc] at*
   have hd0:d=0:=by
    simp only [zef,Bool.or_eq_true,beq_iff_eq,Bool.and_eq_true,decide_eq_true_eq] at hcd;omega
   subst hd0;obtain ⟨v,hv,hl⟩:=h;have hap':p.apart ops o=true:=by
    simp only [Oper.apart,Bool.and_eq_true] at hap⊢;refine ⟨?_,?_⟩
    ·cases hpd:p.dst with
     | none=>rfl
     | some e=>
      simp only [Bool.and_eq_true,Bool.not_eq_true',bne_iff_ne,ne_eq];refine ⟨?_,fun he=>h2 e he (by rw [hpd])⟩;have:=h3 e hpd
      simpa using this
    ·cases hod:o.dst with
     | none=>rfl
     | some e=>have:=h1 e hod;simpa using this
   exact zhn hap' hsp hso hv hl
 ·by_cases hc:c≤1
  ·simp only [zbw,if_neg hd,if_pos hc] at*
   have hc0:c=0:=by
    simp only [zef,Bool.or_eq_true,beq_iff_eq,Bool.and_eq_true,decide_eq_true_eq] at hcd;omega
   subst hc0;exact zg8 hap hso hsp h
  ·simp only [zef,Bool.or_eq_true,beq_iff_eq,Bool.and_eq_true,decide_eq_true_eq] at hcd
   omega
def mix (P:Program) (ops:Array Oper) (S:World→Prop) (Q:Exit→Act→World→Prop) (c:Nat→Nat):List Nat→Act→World→Prop
 | [],a,w=>Q .normal a w
 | i::R,a,w=> ∃o,ops[i]?=some o∧zbw P ops S (c i) o (mix P ops S Q c R) a w
def zh5 (ops:Array Oper) (c:Nat→Nat) (i j:Nat):Bool:=
 match ops[i]?,ops[j]? with
 | some o,some p=>zef (c i) (c j)&&o.apart ops p
 | _,_=>false
theorem pull (c:Nat→Nat) (hsel:Region.noSelect ops=true): ∀(R:List Nat) (i:Nat) (a:Act) (w:World),R.Pairwise (· < ·)→i∈R→(∀j∈R,j<i→zh5 ops c i j=true)→
  mix P ops S Q c R a w→ ∃o,ops[i]?=some o∧zbw P ops S (c i) o (mix P ops S Q c (R.erase i)) a w:=by
 intro R
 induction R with
 | nil=>intro i a w _ hi;cases hi
 | cons j R ih=>
  intro i a w hs hi hp h;by_cases hji:j=i
  ·subst hji
   simp only [List.erase_cons_head];exact h
  ·have hi':i∈R:=by
    rcases List.mem_cons.1 hi with e | e
    ·exact absurd e.symm hji
    ·exact e
   have hlt:j<i:=(List.pairwise_cons.1 hs).1 i hi';have hpij:=hp j (by simp) hlt;obtain ⟨p,hpj,hst⟩:=h;unfold zh5 at hpij;rw [hpj] at hpij;cases hoi:ops[i]? with
   | none=>rw [hoi] at hpij;cases hpij
   | some o=>
    rw [hoi] at hpij;simp only [Bool.and_eq_true] at hpij;refine ⟨o,rfl,?_⟩;rw [List.erase_cons_tail (by simpa using hji)];have h2:=zeu (K':=fun a' w'=>zbw P ops S (c i) o (mix P ops S Q c (R.erase i)) a' w') (fun a' w' hm=>by
     obtain ⟨o',ho',hst'⟩:=ih i a' w' (List.pairwise_cons.1 hs).2 hi' (fun k hk=>hp k (by simp [hk])) hm;rw [hoi] at ho';cases ho'
     exact hst') hst
    refine zeu (fun a' w' hm=>⟨p,hpj,hm⟩) (swap hpij.1 hpij.2 (fun cs b=>Region.noSelect_spec hsel i o cs b hoi) (fun cs b=>Region.noSelect_spec hsel j p cs b hpj) h2)
theorem zm0 {c:Nat} {i:Nat} {o:Oper} (ho:ops[i]?=some o) {K:Act→World→Prop} {a:Act} {w:World} (hS:S w) (h:zbw P ops S c o K a w):wpOp P ops Q i (fun a' w'=>S w'∧K a' w') a w:=by
 unfold zbw at h;unfold wpOp;simp only [ho];split at h
 ·obtain ⟨v,hv,hk⟩:=h
  rcases hv with ⟨h1,h2⟩ | ⟨h1,rfl⟩
  ·rw [if_pos h1]
   refine .inl ?_;unfold Oper.wp;rw [h2 w (by split<;>first | exact hS | rfl)]
   exact ⟨hS,hk⟩
  ·rw [if_neg (by simp [h1])]
   exact ⟨hS,hk⟩
 ·unfold Loud at h
  split at h
  ·rename_i hw
   rw [if_pos hw];exact .inl (Oper.wp_post (fun _ _ h=>h) h)
  ·rename_i hw
   rw [if_neg hw];exact h
inductive Anc (ops:Array Oper):Nat→Nat→Prop where
 | near {i:Nat} {o:Oper} {e:Edge}:ops[i]?=some o→e∈o.after→Region.binds .any e=true→Anc ops i e.on
 | far {i j:Nat} {o:Oper} {e:Edge}:ops[i]?=some o→e∈o.after→Region.binds .any e=true→Anc ops e.on j→Anc ops i j
def Closed (ops:Array Oper) (listed:Array Bool):Prop:=
 ∀j oj,ops[j]?=some oj→listed.getD j false=true→ ∀e∈oj.after,Region.binds .any e=true→listed.getD e.on false=true
theorem Anc.listed {listed:Array Bool} (hc:Closed ops listed) {i j:Nat} (h:Anc ops i j):(∀o,ops[i]?=some o→ ∀e∈o.after,Region.binds .any e=true→listed.getD e.on false=true)→listed.getD j false=true:=by
 induction h with
 | near ho he hb=>exact fun h=>h _ ho _ he hb
 | far ho he hb _ ih=>
  intro h;refine ih fun o' ho' e' he' hb'=> ?_;exact hc _ o' ho' (h _ ho _ he hb) e' he' hb'
def zu7 (acc:Array Nat) (es:List Edge):Nat:=es.foldl (fun s e=>if Region.binds .any e then s ||| 2^e.on ||| acc.getD e.on 0 else s) 0
def masks:List Oper→Array Nat→Array Nat
 | [],acc=>acc
 | o::rest,acc=>masks rest (acc.push (zu7 acc o.after.toList))
theorem zrj (acc:Array Nat) (j:Nat): ∀(es:List Edge) (s:Nat),(es.foldl (fun s e=>if Region.binds .any e then s ||| 2^e.on ||| acc.getD e.on 0 else s) s).testBit j=true→
  s.testBit j=true∨ ∃e∈es,Region.binds .any e=true∧(e.on=j∨(acc.getD e.on 0).testBit j=true):=by
 intro es
 induction es with
 | nil=>intro s h;exact .inl h
 | cons e es ih=>
  intro s h;simp only [List.foldl_cons] at h;rcases ih _ h with h1 | ⟨e',he',h2⟩
  ·split at h1
   ·rename_i hb
    rw [Nat.testBit_or,Nat.testBit_or,Nat.testBit_two_pow,Bool.or_eq_true,Bool.or_eq_true,decide_eq_true_eq] at h1;rcases h1 with (h1 | h1) | h1
    ·exact .inl h1
    ·exact .inr ⟨e,by simp,hb,.inl h1⟩
    ·exact .inr ⟨e,by simp,hb,.inr h1⟩
   ·exact .inl h1
  ·exact .inr ⟨e',by simp [he'],h2⟩
theorem znq: ∀(rest pre:List Oper) (acc:Array Nat),ops.toList=pre++rest→acc.size=pre.length→(∀k j,(acc.getD k 0).testBit j=true→Anc ops k j)→
  ∀k j,((masks rest acc).getD k 0).testBit j=true→Anc ops k j:=by
 intro rest
 induction rest with
 | nil=>intro pre acc _ _ h;exact h
 | cons o rest ih=>
  intro pre acc he hs h;refine ih (pre++[o]) _ (by rw [he];simp) (by simp [hs]) fun k j hb=> ?_;have hget:ops[acc.size]?=some o:=by
   rw [←Array.getElem?_toList,he,hs];simp
  by_cases hk:k=acc.size
  ·subst hk
   have hm:((acc.push (zu7 acc o.after.toList)).getD acc.size 0)=zu7 acc o.after.toList:=by simp
   rw [hm] at hb;rcases zrj acc j _ _ hb with h0 | ⟨e,he',hbe,h1⟩
   ·simp at h0
   ·have hem:e∈o.after:=by simpa using he'
    rcases h1 with h1 | h1
    ·subst h1;exact .near hget hem hbe
    ·exact .far hget hem hbe (h _ _ h1)
  ·have hm:((acc.push (zu7 acc o.after.toList)).getD k 0)=acc.getD k 0:=by
    simp only [Array.getD_eq_getD_getElem?,Array.getElem?_push,if_neg hk]
   rw [hm] at hb;exact h k j hb
def zcf (ops:Array Oper) (c:Nat→Nat):Bool:=
 let m:=masks ops.toList #[]
 Region.noSelect ops&&
 (List.range ops.size).all fun i=>
  ((ops[i]?).map fun o=>o.after.toList.all fun e=> !Region.binds .any e || decide (e.on<i)).getD false&&
  (List.range i).all fun j=>(m.getD i 0).testBit j || zh5 ops c i j
theorem zeg {c:Nat→Nat} (h:zcf ops c=true):Region.noSelect ops=true∧(∀i o,ops[i]?=some o→ ∀e∈o.after,Region.binds .any e=true→e.on<i)∧
  ∀i j,i<ops.size→j<i→Anc ops i j∨zh5 ops c i j=true:=by
 simp only [zcf,Bool.and_eq_true,List.all_eq_true,List.mem_range] at h;obtain ⟨h1,h2⟩:=h;refine ⟨h1,fun i o ho e he hb=> ?_,fun i j hi hj=> ?_⟩
 ·have:=(h2 i (Array.getElem?_eq_some_iff.1 ho).1).1
  rw [ho] at this;simp only [Option.map_some,Option.getD_some,List.all_eq_true,Bool.or_eq_true,Bool.not_eq_true',decide_eq_true_eq] at this;rcases this e (by simpa using he) with h | h
  ·rw [hb] at h;cases h
  ·exact h
 ·have:=(h2 i hi).2 j hj
  rw [Bool.or_eq_true] at this;rcases this with h | h
  ·exact .inl (znq ops.toList [] #[] (by simp) (by simp) (fun k j h=>by simp at h) i j h)
  ·exact .inr h
theorem zja {c:Nat→Nat} (hok:zcf ops c=true): ∀(fuel:Nat) (R:List Nat) (listed:Array Bool) (a:Act) (w:World),R.length≤fuel→R.Pairwise (· < ·)→listed.size=ops.size→
  (∀k,k∈R↔k<ops.size∧listed.getD k false=false)→Closed ops listed→S w→mix P ops S Q c R a w→wpAny P .any ops Q fuel listed a w:=by
 obtain ⟨hsel,hdep,hpair⟩:=zeg hok;have hgd: ∀(listed:Array Bool) (k:Nat),listed.size=ops.size→k<ops.size→listed.getD k true=listed.getD k false:=by
  intro l k hs hk;have:k<l.size:=by omega
  simp [this]
 intro fuel
 induction fuel with
 | zero=>
  intro R listed a w hf _ hs hR _ _ h;have:R=[]:=List.eq_nil_of_length_eq_zero (by omega);subst this;refine ⟨?_,h⟩;cases hr:Region.ready .any ops listed with
  | nil=>rfl
  | cons x xs=>
   have hx:x∈Region.ready .any ops listed:=by rw [hr];simp
   obtain ⟨hx1,o,ho,_⟩:=mem_ready.1 hx;have hlt:=(Array.getElem?_eq_some_iff.1 ho).1;rw [hgd _ _ hs hlt] at hx1;have:=(hR x).2 ⟨hlt,hx1⟩;cases this
 | succ fuel ih=>
  intro R listed a w hf hsort hs hR hcl hS h;refine ⟨fun hr=> ?_,fun i hi=> ?_⟩
  ·cases R with
   | nil=>exact h
   | cons r R=>
    exfalso;obtain ⟨hlt,hun⟩:=(hR r).1 (by simp);have hro:ops[r]?=some ops[r]:=Array.getElem?_eq_getElem hlt;have hmem:r∈Region.ready .any ops listed:=by
     rw [mem_ready];refine ⟨by rw [hgd _ _ hs hlt];exact hun,ops[r],hro,fun e he hb=> ?_⟩;have hlt2:=hdep r _ hro e he hb;cases hl:listed.getD e.on false with
     | true=>rfl
     | false=>
      have hin:=(hR e.on).2 ⟨by omega,hl⟩;rcases List.mem_cons.1 hin with h1 | h1
      ·omega
      ·have:=(List.pairwise_cons.1 hsort).1 _ h1;omega
    rw [hr] at hmem;cases hmem
  ·obtain ⟨hi1,o,ho,hall⟩:=mem_ready.1 hi
   have hlt:=(Array.getElem?_eq_some_iff.1 ho).1;rw [hgd _ _ hs hlt] at hi1;have hiR:i∈R:=(hR i).2 ⟨hlt,hi1⟩;obtain ⟨o',ho',hst⟩:=pull c hsel R i a w hsort hiR (fun j hj hji=>by
    rcases hpair i j hlt hji with h1 | h1
    ·exfalso
     have h2:=h1.listed hcl (fun o' ho' e he hb=>by
      rw [ho] at ho';cases ho'
      exact hall e he hb)
     rw [((hR j).1 hj).2] at h2;cases h2
    ·exact h1) h
   refine wpOp_mono (fun a' w' ⟨hS',hm⟩=> ?_) (zm0 ho' hS hst);have hnd:R.Nodup:=hsort.imp (fun h=>Nat.ne_of_lt h);refine ih (R.erase i) _ a' w' ?_ (hsort.sublist List.erase_sublist) (by simp [hs]) (fun k=> ?_) (fun j oj hj hl e he hb=> ?_) hS' hm
   ·rw [List.length_erase_of_mem hiR];omega
   ·rw [hnd.mem_erase_iff,hR k]
    by_cases hki:k=i
    ·subst hki
     have:k<listed.size:=by omega
     simp [this]
    ·rw [getD_set_ne false (Ne.symm hki)]
     exact ⟨fun h=>h.2,fun h=>⟨hki,h⟩⟩
   ·by_cases hji:i=j
    ·subst hji
     rw [ho] at hj;cases hj
     exact getD_set_true (hall e he hb)
    ·rw [getD_set_ne false hji] at hl
     exact getD_set_true (hcl j oj hj hl e he hb)
theorem zdq {id:Nat} {a:Act} {w:World} (S:World→Prop) (c:Nat→Nat) (hm:P.follows .mixedOrders=true) (hok:zcf ops c=true) (hS:S w.drew)
  (h:mix P ops S Q c (List.range ops.size) a w.drew):(Code.region id ops true).wp P Q a w:=by
 refine wp_region_any hm ?_;refine zja (S:=S) hok ops.size (List.range ops.size) _ a _ (by simp) (List.pairwise_lt_range) (by simp) (fun k=> ?_) (fun j oj hj hl=> ?_) hS h
 ·rw [List.mem_range]
  constructor
  ·intro hk;exact ⟨hk,by simp [hk]⟩
  ·exact fun h=>h.1
 ·exfalso
  have:j<ops.size:=(Array.getElem?_eq_some_iff.1 hj).1;simp [this] at hl
end
def Ind (P:Program) {α:Type} (s:Sem α):Prop:= ∀w1 n w',s.run P w1= .ok n w'→w'=w1∧ ∀w2,s.run P w2= .ok n w2
section
variable {P:Program} {α β:Type}
theorem Ind.pure (x:α):Ind P (Pure.pure x:Sem α):=by
 intro w1 n w' h;simp [Pure.pure] at h⊢;obtain ⟨rfl,rfl⟩:=h;exact ⟨rfl,rfl⟩
theorem Ind.halt (x:Halt):Ind P (.halt x:Sem α):=by
 intro w1 n w' h;simp [Sem.run] at h
theorem Ind.stuck (x:String):Ind P (Go.stuck x:Sem α):=Ind.halt _
theorem Ind.bind {s:Sem α} {f:α→Sem β} (h1:Ind P s) (h2: ∀a,Ind P (f a)):Ind P (s>>=f):=by
 intro w1 n w' h;rw [Sem.run_bind] at h;cases hr:s.run P w1 with
 | ok a w''=>
  rw [hr] at h;obtain ⟨rfl,h3⟩:=h1 _ _ _ hr;obtain ⟨rfl,h4⟩:=h2 a _ _ _ h;refine ⟨rfl,fun w2=> ?_⟩;rw [Sem.run_bind,h3 w2];exact h4 w2
 | halt x w''=>rw [hr] at h;cases h
theorem Ind.program:Ind P Go.program:=by
 intro w1 n w' h;simp [Go.program,Sem.run] at h⊢;obtain ⟨rfl,rfl⟩:=h;exact ⟨rfl,rfl⟩
theorem Ind.never {s:Sem α} (h: ∀w,∃x w',s.run P w= .halt x w'):Ind P s:=by
 intro w1 n w' hr;obtain ⟨x,w2,h2⟩:=h w1;rw [h2] at hr;cases hr
theorem Ind.nilDeref:Ind P (Go.runtimePanic .nilDeref:Sem α):=by
 unfold Go.runtimePanic;exact Ind.bind Ind.program fun p=>Ind.halt _
theorem Ind.panicError (m:String):Ind P (Go.runtimePanic (.error m):Sem α):=by
 unfold Go.runtimePanic;exact Ind.bind Ind.program fun p=>Ind.halt _
theorem Ind.boundsPanic (k:IntKind) (x y:Int) (c:BoundsCode):Ind P (Go.boundsPanic k x y c:Sem α):=
 Ind.never fun w=>by obtain ⟨s,w',h⟩:=run_boundsPanic (α:=α) (P:=P) (w:=w) k x y c;exact ⟨_,_,h⟩
theorem Ind.typeInfo (t:TypeId):Ind P (Go.typeInfo t):=by
 unfold Go.typeInfo;refine Ind.bind Ind.program fun p=> ?_;split<;>first | exact Ind.pure _ | exact Ind.halt _
theorem Ind.underlying (t:TypeId):Ind P (Go.underlying t):=by
 unfold Go.underlying;refine Ind.bind Ind.program fun p=> ?_;split<;>first | exact Ind.pure _ | exact Ind.halt _
theorem Ind.sizeOf (t:TypeId):Ind P (Go.sizeOf t):=Ind.bind (Ind.typeInfo t) fun _=>Ind.pure _
theorem Ind.isAgg (t:TypeId):Ind P (Go.isAgg t):=by
 refine Ind.bind (Ind.underlying t) fun d=> ?_;split<;>exact Ind.pure _
theorem Ind.part (t:TypeId) (cs:Array Value) (o:Nat):Ind P (Go.part t cs o):=by
 refine Ind.bind (Ind.isAgg t) fun b=> ?_;split
 ·exact Ind.bind (Ind.sizeOf t) fun _=>Ind.pure _
 ·split<;>first | exact Ind.pure _ | exact Ind.halt _
theorem Ind.asIntOf (v:Value):Ind P (Go.asIntOf v):=by
 unfold Go.asIntOf;split<;>first | exact Ind.pure _ | exact Ind.halt _
theorem Ind.asBool (v:Value):Ind P (Go.asBool v):=by
 unfold Go.asBool;split<;>first | exact Ind.pure _ | exact Ind.halt _
theorem Ind.asAgg (v:Value):Ind P (Go.asAgg v):=by
 unfold Go.asAgg;split<;>first | exact Ind.pure _ | exact Ind.halt _
theorem Ind.asAddr (v:Value):Ind P (Go.asAddr v):=by
 unfold Go.asAddr;split<;>first | exact Ind.pure _ | exact Ind.nilDeref | exact Ind.halt _
theorem Ind.sureAddr (v:Value):Ind P (Instr.sureAddr v):=by
 unfold Instr.sureAddr;split<;>first | exact Ind.pure _ | exact Ind.halt _
theorem Ind.field (t:TypeId) (x:Value) (f:Nat):Ind P (Instr.field t x f):=by
 refine Ind.bind (Ind.underlying t) fun d=> ?_;split
 ·split
  ·exact Ind.bind (Ind.asAgg _) fun _=>Ind.part _ _ _
  ·exact Ind.halt _
 ·exact Ind.halt _
theorem Ind.index (t:TypeId) (x i:Value):Ind P (Instr.index t x i):=by
 refine Ind.bind (Ind.asIntOf i) fun ⟨k,n⟩=> ?_;refine Ind.bind (Ind.underlying t) fun d=> ?_;split
 ·split
  ·exact Ind.bind (Ind.sizeOf _) fun _=>Ind.part _ _ _
  ·exact Ind.boundsPanic _ _ _ _
 ·split<;>first | exact Ind.pure _ | exact Ind.boundsPanic _ _ _ _
 ·exact Ind.halt _
theorem Ind.indexAt (t:TypeId) (x i:Value):Ind P (Instr.indexAt t x i):=by
 unfold Instr.indexAt
 repeat' (first | exact Ind.pure _ | exact Ind.halt _ | exact Ind.boundsPanic _ _ _ _ | exact Ind.asIntOf _ | exact Ind.underlying _ | exact Ind.sizeOf _ | exact Ind.sureAddr _ | refine Ind.bind ?_ fun _=> ?_ | split | dsimp only)
theorem Ind.sliceBound (x:Value) (y:Nat) (c:BoundsCode):Ind P (Instr.sliceBound x y c):=by
 refine Ind.bind (Ind.asIntOf x) fun ⟨k,n⟩=> ?_
 dsimp only
 split
 ·exact Ind.pure _
 ·exact Ind.boundsPanic _ _ _ _
theorem Ind.sliceBounds (b:Bool) (n c:Nat) (l h m:Option Value):Ind P (Instr.sliceBounds b n c l h m):=by
 unfold Instr.sliceBounds;cases m<;>cases h<;>cases l<;>dsimp only
 all_goals (repeat' (first | exact Ind.pure _ | exact Ind.halt _ | exact Ind.sliceBound _ _ _ | exact Ind.underlying _ | exact Ind.sizeOf _ | exact Ind.asAddr _ | exact Ind.sureAddr _ | refine Ind.bind ?_ fun _=> ?_ | split | dsimp only))
theorem Ind.slice (t:TypeId) (x:Value) (l h m:Option Value):Ind P (Instr.slice t x l h m):=by
 unfold Instr.slice
 repeat' (first | exact Ind.pure _ | exact Ind.halt _ | exact Ind.sliceBound _ _ _ | exact Ind.sliceBounds _ _ _ _ _ _ | exact Ind.underlying _ | exact Ind.sizeOf _ | exact Ind.asAddr _ | exact Ind.sureAddr _ | refine Ind.bind ?_ fun _=> ?_ | split | dsimp only)
theorem Ind.sliceAt (t:TypeId) (x:Value) (l h m:Option Value):Ind P (Instr.sliceAt t x l h m):=by
 unfold Instr.sliceAt
 repeat' (first | exact Ind.pure _ | exact Ind.halt _ | exact Ind.sliceBound _ _ _ | exact Ind.sliceBounds _ _ _ _ _ _ | exact Ind.underlying _ | exact Ind.sizeOf _ | exact Ind.asAddr _ | exact Ind.sureAddr _ | exact Ind.slice _ _ _ _ _ | refine Ind.bind ?_ fun _=> ?_ | split | dsimp only)
theorem Ind.extract (t:Value) (i:Nat):Ind P (Instr.extract t i):=by
 unfold Instr.extract;split
 ·split<;>first | exact Ind.pure _ | exact Ind.halt _
 ·exact Ind.halt _
theorem Ind.makeInterface (t:TypeId) (x:Value):Ind P (Instr.makeInterface t x):=by
 refine Ind.bind (Ind.underlying t) fun d=> ?_;split<;>first | exact Ind.pure _ | exact Ind.halt _
theorem Ind.foldlM {α β:Type} {f:β→α→Sem β} (hf: ∀b a,Ind P (f b a)): ∀(l:List α) (b:β),Ind P (l.foldlM f b)
 | [],b=>Ind.pure b
 | a::l,b=>by
  rw [List.foldlM_cons];exact Ind.bind (hf b a) fun _=>Ind.foldlM hf l _
theorem Ind.mapM {α β:Type} {f:α→Sem β} (hf: ∀a,Ind P (f a)) (xs:Array α):Ind P (Array.mapM f xs):=by
 rw [Array.mapM_eq_foldlM,←Array.foldlM_toList];exact Ind.foldlM (fun b a=>Ind.bind (hf a) fun _=>Ind.pure _) _ _
theorem Ind.zeroValue (t:TypeId):Ind P (Go.zeroValue t):=by
 unfold Go.zeroValue
 repeat' (first | exact Ind.pure _ | exact Ind.halt _ | exact Ind.typeInfo _ | exact Ind.underlying _ | refine Ind.bind ?_ fun _=> ?_ | split | dsimp only)
theorem Ind.build (t:TypeId) (ps:Array (Nat×Value)):Ind P (Instr.build t ps):=by
 unfold Instr.build;refine Ind.bind (Ind.zeroValue _) fun _=> ?_
 dsimp only
 refine Ind.bind (Ind.underlying _) fun _=> ?_;split
 ·refine Ind.bind (Ind.mapM (fun f=>Ind.bind (Ind.sizeOf _) fun _=>Ind.pure _) _) fun _=> ?_
  split<;>first | exact Ind.pure _ | exact Ind.halt _
 ·refine Ind.bind (Ind.sizeOf _) fun _=> ?_
  split<;>first | exact Ind.pure _ | exact Ind.halt _
 ·exact Ind.halt _
def zlw (P:Program) (s:TypeId) (f:Nat):Bool:=
 match P.underlying s with
 | some (.struct fs)=>match fs[f]? with
  | some fd=>match P.info? fd.type with
   | some i=>i.size !=0
   | none=>false
  | none=>false
 | _=>false
theorem Ind.fieldAt (s:TypeId) (x:Value) (f:Nat) (hb:zlw P s f=true):Ind P (Instr.fieldAt s x f):=by
 intro w1 n w' h;unfold zlw at hb;cases hu:P.underlying s with
 | none=>rw [hu] at hb;cases hb
 | some d=>
  rw [hu] at hb;cases d with
  | struct fs=>
   dsimp only at hb
   cases hf:fs[f]? with
   | none=>rw [hf] at hb;cases hb
   | some fd=>
    rw [hf] at hb
    dsimp only at hb
    cases hi:P.info? fd.type with
    | none=>rw [hi] at hb;cases hb
    | some i=>
     rw [hi] at hb;have hne:i.size≠0:=by simpa using hb
     have key: ∀w,(Instr.fieldAt s x f).run P w=((Instr.sureAddr x).run P w).andThen fun a w=> .ok (.pointer (some (a.add fd.offset))) w:=by
      intro w;unfold Instr.fieldAt;rw [Sem.run_bind];have e1:(Go.underlying s).run P w= .ok (.struct fs) w:=by simp [Go.underlying,Go.program,Sem.run_bind,Sem.run,hu,Pure.pure]
      rw [e1];simp only [Result.andThen_ok,hf];rw [Sem.run_bind];congr 1
      funext a w'
      simp [Pure.pure,Sem.run,fieldPlace,Go.sizeOf,Go.typeInfo,Go.program,Sem.run_bind,hi,hne]
     rw [key] at h;cases hr:(Instr.sureAddr x).run P w1 with
     | ok a w''=>
      rw [hr] at h;simp only [Result.andThen_ok,Result.ok.injEq] at h;obtain ⟨rfl,rfl⟩:=h;obtain ⟨rfl,h3⟩:=Ind.sureAddr x _ _ _ hr;exact ⟨rfl,fun w2=>by rw [key,h3 w2];rfl⟩
     | halt y w''=>rw [hr] at h;cases h
  | _=>cases hb
def zsb:Value→Value→Bool
 | .int _ _,.int _ _=>true
 | .string _,.string _=>true
 | .bool _,.bool _=>true
 | _,_=>false
theorem Ind.ofInt (op:BinOp) (t:TypeId) (k k':IntKind) (a b:Int):Ind P (binOp op t (.int k a) (.int k' b)):=by
 cases op<;>simp only [binOp]<;>(try split)<;>
  first
  | exact Ind.halt _
  | (unfold Op.shift;split<;>first | exact Ind.panicError _ | exact Ind.pure _)
  | (unfold Op.intArith;exact Ind.pure _)
  | (unfold Op.intDiv;split<;>first | exact Ind.panicError _ | exact Ind.pure _)
  | (unfold Op.intBits;exact Ind.pure _)
  | (unfold Op.intCmp;exact Ind.pure _)
theorem Ind.ofString (op:BinOp) (t:TypeId) (a b:ByteArray):Ind P (binOp op t (.string a) (.string b)):=by
 cases op<;>simp only [binOp]<;>unfold Op.stringOp<;>dsimp only<;>(try split)<;>first | exact Ind.pure _ | exact Ind.halt _
theorem Ind.ofBool (op:BinOp) (t:TypeId) (a b:Bool):Ind P (binOp op t (.bool a) (.bool b)):=by
 have he:Ind P (Op.equal t (.bool a) (.bool b)):=by
  unfold Op.equal Op.maxDepth;unfold Op.equalIn;refine Ind.bind (Ind.underlying t) fun d=> ?_;cases d<;>first | exact Ind.pure _ | exact Ind.halt _
 cases op<;>simp only [binOp]<;>first | exact Ind.halt _ | exact Ind.bind he fun _=>Ind.pure _
theorem Ind.eqGuard (op:BinOp) (t:TypeId) (x y:Operand) (a b:Value) (h:zsb a b=true):Ind P (eqGuard op t x y a b):=by
 unfold Go.eqGuard;cases a<;>cases b<;>simp only [zsb] at h<;>first | cases h | skip
 all_goals
  dsimp only
  split<;>exact Ind.pure _
theorem Ind.binOp (op:BinOp) (t:TypeId) (a b:Value) (h:zsb a b=true):Ind P (binOp op t a b):=by
 cases a<;>cases b<;>simp only [zsb] at h<;>first | exact Ind.ofInt _ _ _ _ _ _ | exact Ind.ofString _ _ _ _ | exact Ind.ofBool _ _ _ _ | cases h
def zz9:Value→Bool
 | .int _ _ | .bool _=>true
 | _=>false
theorem Ind.unary (op:UnOp) (a:Value) (h:zz9 a=true):Ind P (Op.unary op a):=by
 cases a<;>simp only [zz9] at h<;>first | cases h | skip
 all_goals
  cases op<;>simp only [Op.unary]<;>
   first
   | exact Ind.pure _
   | exact Ind.halt _
   | (unfold Op.intArith;exact Ind.pure _)
   | (unfold Op.intBits;exact Ind.pure _)
end
def intV:Value→Bool
 | .int _ _=>true
 | _=>false
def lenV:Value→Bool
 | .slice _ _ _ | .string _=>true
 | _=>false
def noFunc:Value→Bool
 | .func _ _ _=>false
 | _=>true
def zgh (P:Program) (a:Act) (o:Oper):Bool:=
 match o.op with
 | .move _ | .assign _ | .extract _ _ | .pick _ _ _ | .field _ _ _ | .indexAddr _ _ _ | .index _ _ _ | .slice _ _ _ _ _ | .makeInterface _ _ | .build _ _=>true
 | .nilCheck x=>noFunc (a.eval x)
 | .binOp _ _ x y _=>zsb (a.eval x) (a.eval y)
 | .unOp _ _ x=>zz9 (a.eval x)
 | .fieldAddr s _ f=>zlw P s f
 | .call {callee:= .builtin .len,args,..}=>match args.toList with | [x]=>lenV (a.eval x) | _=>false
 | .call {callee:= .builtin .min,args,..}=>args.toList.all fun x=>intV (a.eval x)
 | .call {callee:= .builtin .max,args,..}=>args.toList.all fun x=>intV (a.eval x)
 | _=>false
def clsOf (o:Oper):Nat:=
 match o.op with
 | .move _ | .assign _ | .extract _ _ | .pick _ _ _ | .field _ _ _ | .indexAddr _ _ _ | .index _ _ _ | .slice _ _ _ _ _ | .makeInterface _ _ | .build _ _ | .nilCheck _ | .binOp _ _ _ _ _ | .unOp _ _ _ | .fieldAddr _ _ _
 | .call {callee:= .builtin .len,..} | .call {callee:= .builtin .min,..} | .call {callee:= .builtin .max,..}=>0
 | .load _ _=>1
 | _=>2
section
variable {P:Program}
def IndV (P:Program) (s:Sem Next):Prop:= ∀w1 n w',s.run P w1= .ok n w'→w'=w1∧ ∃v,n= .value v∧ ∀w2,s.run P w2= .ok (.value v) w2
theorem IndV.val {s:Sem Value} (h:Ind P s):IndV P (do pure (.value (←s))):=by
 intro w1 n w' hr;rw [Sem.run_bind] at hr;cases hs:s.run P w1 with
 | ok v w''=>
  rw [hs] at hr;obtain ⟨rfl,h2⟩:=h _ _ _ hs;simp [Pure.pure] at hr;obtain ⟨rfl,rfl⟩:=hr;exact ⟨rfl,v,rfl,fun w2=>by rw [Sem.run_bind,h2 w2];rfl⟩
 | halt x w''=>rw [hs] at hr;cases hr
theorem IndV.pure (v:Value):IndV P (Pure.pure (.value v)):=by
 intro w1 n w' hr;simp [Pure.pure] at hr;obtain ⟨rfl,rfl⟩:=hr;exact ⟨rfl,v,rfl,fun w2=>rfl⟩
theorem IndV.none {s:Sem Next} (h: ∀w,∃x w',s.run P w= .halt x w'):IndV P s:=by
 intro w1 n w' hr;obtain ⟨x,w2,h2⟩:=h w1;rw [h2] at hr;cases hr
theorem znk (f:Value→Value→Sem Value) (h: ∀x y,intV x=true→intV y=true→ ∃z,intV z=true∧f x y=Pure.pure z): ∀(l:List Value) (x:Value),intV x=true→l.all intV=true→ ∃z,l.foldlM f x=Pure.pure z:=by
 intro l
 induction l with
 | nil=>intro x _ _;exact ⟨x,rfl⟩
 | cons y l ih=>
  intro x hx hl;simp only [List.all_cons,Bool.and_eq_true] at hl;obtain ⟨z,hz,he⟩:=h x y hx hl.1;obtain ⟨z',hz'⟩:=ih z hz hl.2;refine ⟨z',?_⟩;rw [List.foldlM_cons,he,←hz'];rfl
theorem zzu (x y:Value) (hx:intV x=true) (hy:intV y=true): ∃z,intV z=true∧Builtin.min2 x y=Pure.pure z:=by
 cases x<;>simp only [intV] at hx<;>first | cases hx | skip
 cases y<;>simp only [intV] at hy<;>first | cases hy | skip
 exact ⟨_,by rfl,rfl⟩
theorem zzs (x y:Value) (hx:intV x=true) (hy:intV y=true): ∃z,intV z=true∧Builtin.max2 x y=Pure.pure z:=by
 cases x<;>simp only [intV] at hx<;>first | cases hx | skip
 cases y<;>simp only [intV] at hy<;>first | cases hy | skip
 exact ⟨_,by rfl,rfl⟩
theorem len_ind (ats:Array TypeId) (type:TypeId) (v:Value) (h:lenV v=true):Ind P (Builtin.len_ ats type #[v]):=by
 unfold Builtin.len_;cases hat:ats[0]? with
 | none=>exact Ind.halt _
 | some t=>
  show Ind P (Go.underlying t>>=_);refine Ind.bind (Ind.underlying t) fun d=> ?_;cases v<;>simp only [lenV] at h<;>first | cases h | skip
  all_goals
   cases d<;>first | exact Ind.pure _ | exact Ind.halt _ | (refine Ind.bind (Ind.underlying _) fun e=> ?_;cases e<;>first | exact Ind.pure _ | exact Ind.halt _)
theorem zml {a:Act} {o:Oper} (h:zgh P a o=true):IndV P (execOp a.eval o):=by
 obtain ⟨dst,op,type,pos,after,guard⟩:=o;unfold zgh at h;unfold execOp
 dsimp only at h⊢
 split at h
 ·exact IndV.pure _
 ·exact IndV.pure _
 ·exact IndV.val (Ind.extract _ _)
 ·rename_i c x y
  intro w1 n w' hr
  dsimp only at hr⊢
  cases hb:a.eval c<;>rw [hb] at hr<;>simp [Go.asBool,Go.stuck,Sem.run,Sem.run_bind,Pure.pure] at hr
  obtain ⟨rfl,rfl⟩:=hr;exact ⟨rfl,_,rfl,fun w2=>by simp [Go.asBool,Sem.run,Pure.pure]⟩
 ·exact IndV.val (Ind.field _ _ _)
 ·exact IndV.val (Ind.indexAt _ _ _)
 ·exact IndV.val (Ind.index _ _ _)
 ·exact IndV.val (Ind.sliceAt _ _ _ _ _)
 ·exact IndV.val (Ind.makeInterface _ _)
 ·exact IndV.val (Ind.build _ _)
 ·rename_i x
  dsimp only
  cases hx:a.eval x with
  | func fn fi ca=>rw [hx] at h;cases h
  | pointer p=>
   cases p with
   | none=>exact IndV.none fun w=>⟨_,_,by simp [runtimePanic,goPanic,Go.program,Sem.run,Sem.run_bind];exact ⟨rfl,rfl⟩⟩
   | some p=>exact IndV.pure _
  | nilIface=>exact IndV.none fun w=>⟨_,_,by simp [runtimePanic,goPanic,Go.program,Sem.run,Sem.run_bind];exact ⟨rfl,rfl⟩⟩
  | nilFunc=>exact IndV.none fun w=>⟨_,_,by simp [runtimePanic,goPanic,Go.program,Sem.run,Sem.run_bind];exact ⟨rfl,rfl⟩⟩
  | _=>exact IndV.pure _
 ·exact IndV.val (Ind.bind (Ind.eqGuard _ _ _ _ _ _ h) fun _=>Ind.binOp _ _ _ _ h)
 ·exact IndV.val (Ind.unary _ _ h)
 ·exact IndV.val (Ind.fieldAt _ _ _ h)
 ·rename_i args ats
  intro w1 n w' hr;split at h
  ·rename_i x hx
   have hargs:args=#[x]:=by cases args;simp at hx;subst hx;rfl
   subst hargs;have:IndV P (do pure (.value (←Builtin.len_ ats type ((#[x]:Array Operand).map a.eval)))):=by
    refine IndV.val ?_;rw [show (#[x]:Array Operand).map a.eval=#[a.eval x] by simp];exact len_ind _ _ _ h
   exact this w1 n w' hr
  ·cases h
 ·rename_i args ats
  intro w1 n w' hr;have:IndV P (do pure (.value (←Builtin.min_ ats type (args.map a.eval)))):=by
   refine IndV.val ?_;unfold Builtin.min_;rw [Array.toList_map];cases hl:args.toList with
   | nil=>exact Ind.halt _
   | cons x l=>
    rw [hl,List.all_cons,Bool.and_eq_true] at h;obtain ⟨z,hz⟩:=znk _ zzu (l.map a.eval) (a.eval x) h.1 (by rw [List.all_map];exact h.2);simp only [List.map_cons];rw [hz];exact Ind.pure _
  exact this w1 n w' hr
 ·rename_i args ats
  intro w1 n w' hr;have:IndV P (do pure (.value (←Builtin.max_ ats type (args.map a.eval)))):=by
   refine IndV.val ?_;unfold Builtin.max_;rw [Array.toList_map];cases hl:args.toList with
   | nil=>exact Ind.halt _
   | cons x l=>
    rw [hl,List.all_cons,Bool.and_eq_true] at h;obtain ⟨z,hz⟩:=znk _ zzs (l.map a.eval) (a.eval x) h.1 (by rw [List.all_map];exact h.2);simp only [List.map_cons];rw [hz];exact Ind.pure _
  exact this w1 n w' hr
 ·cases h
def Rd (P:Program) {α:Type} (s:Sem α):Prop:= ∀w1 n w',s.run P w1= .ok n w'→w'=w1
theorem Ind.rd {α:Type} {s:Sem α} (h:Ind P s):Rd P s:=fun w1 n w' hr=>(h w1 n w' hr).1
theorem Rd.bind {α β:Type} {s:Sem α} {f:α→Sem β} (h1:Rd P s) (h2: ∀a,Rd P (f a)):Rd P (s>>=f):=by
 intro w1 n w' h;rw [Sem.run_bind] at h;cases hr:s.run P w1 with
 | ok a w''=>
  rw [hr] at h;have:=h1 _ _ _ hr;subst this;exact h2 a _ _ _ h
 | halt x w''=>rw [hr] at h;cases h
theorem Rd.load (a:Addr):Rd P (Go.load a):=by
 intro w1 n w' h;unfold Go.load at h;simp only [Sem.run] at h;split at h
 ·simp at h;exact h.2.symm
 ·split at h
  ·simp at h;exact h.2.symm
  ·cases h
theorem Rd.cells (a:Addr): ∀(n i:Nat) (acc:Array Value),Rd P (loadCellsFrom a i n acc):=by
 intro n
 induction n with
 | zero=>intro i acc;exact (Ind.pure _).rd
 | succ n ih=>intro i acc;exact Rd.bind (Rd.load _) fun v=>ih _ _
theorem Rd.loadVar (t:TypeId) (a:Addr):Rd P (loadVar t a):=by
 refine Rd.bind (Ind.isAgg t).rd fun b=> ?_;split
 ·exact Rd.bind (Ind.sizeOf t).rd fun _=>Rd.bind (Rd.cells _ _ _ _) fun _=>(Ind.pure _).rd
 ·exact Rd.load a
theorem Rd.loadAt (t:TypeId) (x:Value):Rd P (Instr.loadAt t x):=Rd.bind (Ind.sureAddr x).rd fun _=>Rd.loadVar _ _
theorem zg7 {a:Act} {o:Oper} {t:TypeId} {x:Operand} (ho:o.op= .load t x) {w w':World} {n:Next} (h:(execOp a.eval o).run P w= .ok n w'):w'=w∧ ∃v,n= .value v:=by
 obtain ⟨dst,op,type,pos,after,guard⟩:=o;subst ho;unfold execOp at h
 dsimp only at h
 rw [Sem.run_bind] at h;cases hr:(Instr.loadAt t (a.eval x)).run P w with
 | ok v w''=>
  rw [hr] at h;have:=Rd.loadAt t (a.eval x) _ _ _ hr;subst this;simp [Pure.pure] at h;obtain ⟨rfl,rfl⟩:=h;exact ⟨rfl,v,rfl⟩
 | halt y w''=>rw [hr] at h;cases h
end
def autoC (ops:Array Oper) (i:Nat):Nat:=((ops[i]?).map clsOf).getD 2
def zve (P:Program) (ops:Array Oper) (a:Act):Bool:=
 (List.range ops.size).all fun i=>match ops[i]? with
  | some o=>clsOf o !=0 || !Region.wanted o (yielded ops a.tmps) || zgh P a o
  | none=>true
def Fin (P:Program) (ops:Array Oper) (Q:Exit→Act→World→Prop):Exit→Act→World→Prop
 | .normal,a,w=>zve P ops a=true∧Q .normal a w
 | _,_,_=>False
def zs5 (ops:Array Oper):Bool:=
 (List.range ops.size).all fun i=>(List.range ops.size).all fun j=>decide (j<i) || match ops[i]?,ops[j]? with
  | some oi,some oj=>match oj.dst with
   | some d=> !(oi.looksAt ops).contains d
   | none=>true
  | _,_=>true
section
variable {P:Program} {ops:Array Oper} {Q:Exit→Act→World→Prop}
theorem wp_NoQ {o:Oper} {a:Act} {w:World} {K:Act→World→Prop} (h:o.wp P a w K (Fin P ops Q)):o.wp P a w K NoQ:=by
 unfold Oper.wp at*;generalize (execOp a.eval o).run P w=r at*;cases r with
 | ok n w'=>
  cases n<;>simp only [Oper.upon] at h⊢
  case value v=>exact h
  case skip=>exact h
  case defer d=>exact h
  case enter f args=>
   refine Calls.mono h fun e w'' he=> ?_;cases e with
   | returned v=>exact he
   | panicked ch=>exact he.elim
   | outgrown=>obtain ⟨_,_,hq⟩:=he;exact hq.elim
  case row row args=>exact h
 | halt x w'=>cases x<;>simp only [Oper.upon] at h;exact h.elim
theorem zdt {o:Oper} {l:List Oper} {a:Act} {w:World} (h:wpList P ops (Fin P ops Q) (o::l) a w):
  if Region.wanted o (yielded ops a.tmps) then o.wp P a w (wpList P ops (Fin P ops Q) l) NoQ else wpList P ops (Fin P ops Q) l (a.put o.dst undef) w:=by
 unfold wpList at h;split
 ·rename_i hw
  rw [if_pos hw] at h;rcases h with h | ⟨_,_,_,hq⟩
  ·exact wp_NoQ h
  ·exact hq.elim
 ·rename_i hw
  rw [if_neg hw] at h;exact h
theorem wp_out {o:Oper} {K:Act→World→Prop} {a:Act} {w:World} (h:o.wp P a w K NoQ): ∃ds x w',K (({a with defers:=ds}:Act).put o.dst x) w':=by
 unfold Oper.wp at h;generalize (execOp a.eval o).run P w=r at h;cases r with
 | ok n w'=>
  cases n<;>simp only [Oper.upon] at h
  case value v=>exact ⟨a.defers,v,w',h⟩
  case skip=>exact ⟨a.defers,undef,w',h⟩
  case defer d=>exact ⟨d::a.defers,undef,w',h⟩
  case enter f args=>
   obtain ⟨e,w'',_,he,_⟩:=h [];cases e with
   | returned v=>exact ⟨a.defers,v,w'',he⟩
   | panicked ch=>exact he.elim
   | outgrown=>obtain ⟨_,_,hq⟩:=he;exact hq.elim
  case row row args=>
   obtain ⟨v,w'',he,_⟩:=h default [];exact ⟨a.defers,v,w'',he⟩
 | halt x w'=>cases x<;>simp only [Oper.upon] at h;exact h.elim
theorem zoc {a:Act} {dst:Option Tmp} {v:Value} {ds:List Deferred} {t:Tmp} (h:dst≠some t):(({a with defers:=ds}:Act).put dst v).tmps[t]?=a.tmps[t]?:=by
 cases dst with
 | none=>rfl
 | some d=>
  have hne:d≠t:=fun e=>h (by rw [e]);simp [Act.put,Array.getElem?_setIfInBounds_ne hne]
theorem zre: ∀(l:List Oper) (a:Act) (w:World),wpList P ops (Fin P ops Q) l a w→ ∃a' w',zve P ops a'=true∧Q .normal a' w'∧ ∀t,(∀o∈l,o.dst≠some t)→a'.tmps[t]?=a.tmps[t]?:=by
 intro l
 induction l with
 | nil=>intro a w h;exact ⟨a,w,h.1,h.2,fun _ _=>rfl⟩
 | cons o l ih=>
  intro a w h;have h:=zdt h;split at h
  ·obtain ⟨ds,x,w',hk⟩:=wp_out h
   obtain ⟨a',w'',h1,h2,h3⟩:=ih _ _ hk;refine ⟨a',w'',h1,h2,fun t ht=> ?_⟩;rw [h3 t (fun o' ho'=>ht o' (by simp [ho'])),zoc (ht o (by simp))]
  ·obtain ⟨a',w'',h1,h2,h3⟩:=ih _ _ h
   refine ⟨a',w'',h1,h2,fun t ht=> ?_⟩;rw [h3 t (fun o' ho'=>ht o' (by simp [ho']))];exact zoc (ds:=a.defers) (ht o (by simp))
theorem znj {a a':Act} {o:Oper} (h: ∀t∈o.looksAt ops,a'.tmps[t]?=a.tmps[t]?): ∀x∈o.op.operands,a'.eval x=a.eval x:=by
 intro x hx;cases x with
 | tmp t=>
  have:t∈o.looksAt ops:=List.mem_append_left _ (List.mem_filterMap.2 ⟨.tmp t,by simpa using hx,rfl⟩);simp only [Act.eval,Array.getD_eq_getD_getElem?,h t this]
 | _=>rfl
theorem zgu {a a':Act} {o:Oper} (h: ∀t∈o.looksAt ops,a'.tmps[t]?=a.tmps[t]?):Region.wanted o (yielded ops a'.tmps)=Region.wanted o (yielded ops a.tmps):=by
 unfold Region.wanted;cases hg:o.guard with
 | none=>rfl
 | some gw=>
  obtain ⟨g,want⟩:=gw;have hy:yielded ops a'.tmps g=yielded ops a.tmps g:=by
   unfold yielded;cases ht:(ops[g]?).bind (·.dst) with
   | none=>rfl
   | some t=>
    have:=h t (by simp [Oper.looksAt,hg,ht]);simp [this]
  simp only [hy]
theorem zjn {a a':Act} {o:Oper} (h: ∀x∈o.op.operands,a'.eval x=a.eval x) (hp:zgh P a' o=true):zgh P a o=true:=by
 obtain ⟨dst,op,type,pos,after,guard⟩:=o;unfold zgh at*
 dsimp only at h hp⊢
 split at hp<;>(try dsimp only)<;>(try rfl)
 ·rename_i x;rw [←h x (by simp [Op.operands])];exact hp
 ·rename_i x y yt;rw [←h x (by simp [Op.operands]),←h y (by simp [Op.operands])];exact hp
 ·rename_i t x;rw [←h x (by simp [Op.operands])];exact hp
 ·exact hp
 ·rename_i args ats
  split at hp
  ·rename_i x hx
   rw [← h x (by have : x ∈ args := by rw [← Array.mem_toList_iff, hx]; simp
                 simp [Op.operands,Call.operands,this])]
   exact hp
  ·cases hp
 ·rename_i args ats
  rw [List.all_eq_true] at hp⊢;intro x hx;rw [←h x (by simp only [Op.operands,Call.operands];simpa using hx)];exact hp x hx
 ·rename_i args ats
  rw [List.all_eq_true] at hp⊢;intro x hx;rw [←h x (by simp only [Op.operands,Call.operands];simpa using hx)];exact hp x hx
 ·cases hp
theorem zpw (h:zs5 ops=true) {i j:Nat} {oi oj:Oper} (hi:ops[i]?=some oi) (hj:ops[j]?=some oj) (hij:i≤j): ∀t∈oi.looksAt ops,oj.dst≠some t:=by
 intro t ht e;simp only [zs5,List.all_eq_true,List.mem_range] at h;have:=h i (Array.getElem?_eq_some_iff.1 hi).1 j (Array.getElem?_eq_some_iff.1 hj).1;rw [hi,hj] at this;simp only [e,Bool.or_eq_true,decide_eq_true_eq,Bool.not_eq_true',List.contains_eq_mem,decide_eq_false_iff_not] at this;rcases this with h | h
 ·omega
 ·exact h ht
theorem text_mix (hst:zs5 ops=true): ∀(l:List Oper) (k:Nat) (a:Act) (w:World),ops.toList.drop k=l→wpList P ops (Fin P ops Q) l a w→mix P ops (fun _=>True) Q (autoC ops) (List.range' k l.length) a w:=by
 intro l
 induction l with
 | nil=>intro k a w _ h;exact h.2
 | cons o l ih=>
  intro k a w hl h;have hk:ops[k]?=some o:=by
   have:(ops.toList.drop k)[0]?=some o:=by rw [hl];rfl
   rw [List.getElem?_drop,Array.getElem?_toList] at this
   simpa using this
  have hl':ops.toList.drop (k+1)=l:=by
   rw [←List.drop_drop,hl];rfl
  have hlater: ∀o'∈o::l,∃j,k≤j∧ops[j]?=some o':=by
   intro o' ho';rw [←hl] at ho';obtain ⟨j,hj⟩:=List.getElem?_of_mem ho';rw [List.getElem?_drop,Array.getElem?_toList] at hj;exact ⟨k+j,by omega,hj⟩
  have hout:=zre _ _ _ h;have h:=zdt h;rw [List.length_cons,List.range'_succ];refine ⟨o,hk,?_⟩;have hc:autoC ops k=clsOf o:=by simp [autoC,hk]
  rw [hc];split at h
  ·rename_i hw
   by_cases hcl:clsOf o≤1
   ·unfold zbw
    rw [if_pos hcl];have hrun: ∃v,(∀w',(if clsOf o=0 then True else w'=w)→(execOp a.eval o).run P w'= .ok (.value v) w')∧wpList P ops (Fin P ops Q) l (a.put o.dst v) w:=by
     unfold Oper.wp at h;cases hr:(execOp a.eval o).run P w with
     | halt x w'=>rw [hr] at h;cases x<;>simp only [Oper.upon] at h;exact h.elim
     | ok n w'=>
      by_cases hc0:clsOf o=0
      ·obtain ⟨a',w'',hv,_,hsame⟩:=hout
       have hlook: ∀t∈o.looksAt ops,a'.tmps[t]?=a.tmps[t]?:=fun t ht=>hsame t fun o' ho'=>by
        obtain ⟨j,hj,hoj⟩:=hlater o' ho';exact zpw hst hk hoj hj t ht
       have hpure:zgh P a o=true:=by
        refine zjn (znj hlook) ?_;simp only [zve,List.all_eq_true,List.mem_range] at hv;have h1:=hv k (Array.getElem?_eq_some_iff.1 hk).1;rw [hk] at h1;simp only [hc0,bne_self_eq_false,Bool.false_or,Bool.or_eq_true,Bool.not_eq_true',zgu hlook,hw] at h1;rcases h1 with h1 | h1
        ·cases h1
        ·exact h1
       obtain ⟨rfl,v,rfl,hall⟩:=zml hpure _ _ _ hr;rw [hr] at h;exact ⟨v,fun w2 _=>hall w2,h⟩
      ·have hload: ∃t x,o.op= .load t x:=by
        have h1:clsOf o=1:=by omega
        unfold clsOf at h1;split at h1<;>first | (rename_i heq;exact ⟨_,_,heq⟩) | omega
       obtain ⟨t,x,hop⟩:=hload;obtain ⟨rfl,v,rfl⟩:=zg7 hop hr;rw [hr] at h;refine ⟨v,fun w2 h2=> ?_,h⟩;rw [if_neg hc0] at h2;subst h2;exact hr
    obtain ⟨v,h1,h2⟩:=hrun;exact ⟨v,.inl ⟨hw,h1⟩,ih (k+1) _ _ hl' h2⟩
   ·unfold zbw
    rw [if_neg hcl];unfold Loud;rw [if_pos hw];exact Oper.wp_post (Q:=NoQ) (fun a' w' h'=>⟨trivial,ih (k+1) _ _ hl' h'⟩) h
  ·rename_i hw
   have hw':Region.wanted o (yielded ops a.tmps)=false:=by simpa using hw
   by_cases hcl:clsOf o≤1
   ·unfold zbw
    rw [if_pos hcl];exact ⟨undef,.inr ⟨hw',rfl⟩,ih (k+1) _ _ hl' h⟩
   ·unfold zbw
    rw [if_neg hcl];unfold Loud;rw [if_neg (by simp [hw'])];exact ⟨trivial,ih (k+1) _ _ hl' h⟩
theorem zj7 {id:Nat} {a:Act} {w:World} (hm:P.follows .mixedOrders=true) (hok:(zcf ops (autoC ops)&&zs5 ops)=true)
  (h:wpList P ops (Fin P ops Q) ops.toList a w.drew):(Code.region id ops true).wp P Q a w:=by
 simp only [Bool.and_eq_true] at hok;refine zdq (fun _=>True) (autoC ops) hm hok.1 trivial ?_;have:=text_mix hok.2 ops.toList 0 a w.drew rfl h;rw [Array.length_toList,←List.range_eq_range'] at this;exact this
theorem wp_text {id:Nat} {l:List Oper} {a:Act} {w:World} (hm:P.follows .mixedOrders=true) (hok:(zcf l.toArray (autoC l.toArray)&&zs5 l.toArray)=true)
  (h:wpList P l.toArray (Fin P l.toArray Q) l a w.drew):(Code.region id l.toArray true).wp P Q a w:=zj7 hm hok h
end
end Go.Mix
namespace Go.Proofs.YtannckelmojkoaaGreat
open Go.RowKit Go.Heap
section
variable {B:Nat} {w0 W W':World} {ss:List Res}
theorem zdc (n l m:Int) (w:World) (h1:l≤n) (h2:n≤m):Calls Tryz.prog 149 #[.int .i64 n,.int .i64 l,.int .i64 m] w fun e w'=>e= .returned (.bool true)∧w=w':=by
 go_enter Tryz.func149,Tryz.ntmps149
 go_wp2
 go_ret
 exact ⟨rfl,rfl⟩
theorem zwg (h:Own B w0 W ss):Calls Tryz.prog 153 #[] W fun e w'=> ∃p,e= .returned (.pointer (some ⟨p,0,none⟩))∧Own B w0 w' (blk p (.cells Tryz.zeroCells192 192 (0,0))::ss):=by
 have H:=zq h;clear h;go_enter Tryz.func153,Tryz.ntmps153
 go_wp2
 go_ret
 exact ⟨_,rfl,H.out.box _⟩
end
end Go.Proofs.YtannckelmojkoaaGreat
