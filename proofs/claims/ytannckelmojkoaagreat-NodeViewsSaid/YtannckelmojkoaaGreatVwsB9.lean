/- Parts of the proof, one behind the other. -/
import Derived.Test.YtannckelmojkoaaGreatVwsB8
import Derived.Scope
import Derived.WalkMore
import Derived.Deep.DeepCutAuto
import Derived.Deep.CutBlock
set_option maxHeartbeats 32000000
set_option maxRecDepth 100000
set_option linter.unusedVariables false
set_option linter.unusedSimpArgs false
namespace Go
def Exit.jumps (J:Nat→Act→World→Prop) (Q:Exit→Act→World→Prop):Exit→Act→World→Prop
 | .goto l,a,w=>J l a w
 | e,a,w=>Q e a w
section
variable {P:Program} {a:Act} {w:World} {Q:Exit→Act→World→Prop}
theorem ze1 {c:Code} (J:Nat→Act→World→Prop) (μ:Nat→Act→World→Nat) (rest:Nat→Code) (hf: ∀l a w,J l a w→findLabel c l=some (rest l))
  (first:c.wp P (Exit.jumps J Q) a w)
  (pass: ∀l a w,J l a w→(rest l).wp P (Exit.jumps (fun l' a' w'=>J l' a' w'∧μ l' a' w'<μ l a w) Q) a w):(Code.scope c).wp P Q a w:=by
 intro b k cs;have hg: ∀l a w,J l a w→gotoIn l (.inScope c::k)=some (.code (rest l):: .inScope c::k):=fun l a w h=>by simp [gotoIn,hf l a w h]
 have key: ∀n l a w,μ l a w=n→J l a w→ ∃e a' w',Q e a' w'∧Arrives P (lone (b.at a (.code (rest l):: .inScope c::k)) cs w) b k cs e a' w':=by
  intro n
  induction n using Nat.strongRecOn with
  | _ n ih=>
   intro l a w hn hJ;obtain ⟨e,a₁,w₁,hq,harr⟩:=pass l a w hJ b (.inScope c::k) cs;cases e with
   | normal=>exact ⟨.normal,a₁,w₁,hq,Steps.trans harr (.one step_inScope)⟩
   | exit id=>exact ⟨.exit id,a₁,w₁,hq,fun k' hk=>harr k' (by simp [exitTo,hk])⟩
   | goto l'=>
    obtain ⟨hJ',hlt⟩:=hq;obtain ⟨e₂,a₂,w₂,hq₂,harr₂⟩:=ih _ (by omega) l' a₁ w₁ rfl hJ';exact ⟨e₂,a₂,w₂,hq₂,.of_steps (harr _ (hg _ _ _ hJ')) harr₂⟩
   | ret=>exact ⟨_,a₁,w₁,hq,harr⟩
   | panic ch=>exact ⟨_,a₁,w₁,hq,harr⟩
   | outgrown=>exact ⟨_,a₁,w₁,hq,harr⟩
 obtain ⟨e,a₁,w₁,hq,harr⟩:=first b (.inScope c::k) cs;cases e with
 | normal=>exact ⟨.normal,a₁,w₁,hq,.head step_scope (Steps.trans harr (.one step_inScope))⟩
 | exit id=>exact ⟨.exit id,a₁,w₁,hq,fun k' hk=> .head step_scope (harr k' (by simp [exitTo,hk]))⟩
 | goto l'=>
  have hJ':J l' a₁ w₁:=hq;obtain ⟨e₂,a₂,w₂,hq₂,harr₂⟩:=key _ l' a₁ w₁ rfl hJ';exact ⟨e₂,a₂,w₂,hq₂,.of_steps (.head step_scope (harr _ (hg _ _ _ hJ'))) harr₂⟩
 | ret=>exact ⟨_,a₁,w₁,hq,.of_steps (.one step_scope) harr⟩
 | panic ch=>exact ⟨_,a₁,w₁,hq,.of_steps (.one step_scope) harr⟩
 | outgrown=>exact ⟨_,a₁,w₁,hq,.of_steps (.one step_scope) harr⟩
def Exit.two (l0 l1:Nat) (J0 J1:Act→World→Prop) (Q:Exit→Act→World→Prop):Exit→Act→World→Prop
 | .goto l,a,w=>(l=l0∧J0 a w)∨(l=l1∧J1 a w)
 | e,a,w=>Q e a w
theorem zm5 {c r0 r1:Code} (l0 l1:Nat) (J0 J1:Act→World→Prop) (m0 m1:Act→World→Nat) (h0:findLabel c l0=some r0) (h1:findLabel c l1=some r1) (hne:l0≠l1)
  (first:c.wp P (Exit.two l0 l1 J0 J1 Q) a w)
  (pass0: ∀a w,J0 a w→r0.wp P (Exit.two l0 l1 (fun a' w'=>J0 a' w'∧m0 a' w'<m0 a w) (fun a' w'=>J1 a' w'∧m1 a' w'<m0 a w) Q) a w)
  (pass1: ∀a w,J1 a w→r1.wp P (Exit.two l0 l1 (fun a' w'=>J0 a' w'∧m0 a' w'<m1 a w) (fun a' w'=>J1 a' w'∧m1 a' w'<m1 a w) Q) a w):(Code.scope c).wp P Q a w:=by
 refine ze1 (fun l a w=>(l=l0∧J0 a w)∨(l=l1∧J1 a w)) (fun l a w=>if l=l0 then m0 a w else m1 a w) (fun l=>if l=l0 then r0 else r1) ?_ ?_ ?_
 ·rintro l a w (⟨rfl,-⟩ | ⟨rfl,-⟩)
  ·simp [h0]
  ·simp [h1,Ne.symm hne]
 ·exact wp_mono first fun e a w h=>by cases e<;>exact h
 ·rintro l a w (⟨rfl,hJ⟩ | ⟨rfl,hJ⟩)
  ·rw [if_pos rfl]
   refine wp_mono (pass0 a w hJ) fun e a' w' h=> ?_;cases e<;>try exact h
   rcases h with ⟨rfl,h⟩ | ⟨rfl,h⟩
   ·exact ⟨.inl ⟨rfl,h.1⟩,by simpa using h.2⟩
   ·exact ⟨.inr ⟨rfl,h.1⟩,by simpa [Ne.symm hne] using h.2⟩
  ·rw [if_neg (Ne.symm hne)]
   refine wp_mono (pass1 a w hJ) fun e a' w' h=> ?_;cases e<;>try exact h
   rcases h with ⟨rfl,h⟩ | ⟨rfl,h⟩
   ·exact ⟨.inl ⟨rfl,h.1⟩,by simpa [Ne.symm hne] using h.2⟩
   ·exact ⟨.inr ⟨rfl,h.1⟩,by simpa [Ne.symm hne] using h.2⟩
theorem zc2 {c r0 r1:Code} (l0 l1:Nat) (J0 J1:Act→World→Prop) (m0 m1:Act→World→Nat) (h0:findLabel c l0=some r0) (h1:findLabel c l1=some (.seq .skip r1)) (hne:l0≠l1)
  (pass0: ∀a w,J0 a w→r0.wp P (Exit.two l0 l1 (fun a' w'=>J0 a' w'∧m0 a' w'<m0 a w) (fun a' w'=>J1 a' w'∧m1 a' w'<m0 a w) Q) a w)
  (pass1: ∀a w,J1 a w→r1.wp P (Exit.two l0 l1 (fun a' w'=>J0 a' w'∧m0 a' w'<m1 a w) (fun a' w'=>J1 a' w'∧m1 a' w'<m1 a w) Q) a w)
  (first:(∀a w,J1 a w→r1.wp P (Exit.two l0 l1 J0 J1 Q) a w)→c.wp P (Exit.two l0 l1 J0 J1 Q) a w):(Code.scope c).wp P Q a w:=
 zm5 l0 l1 J0 J1 m0 m1 h0 h1 hne (first fun a w h=>wp_mono (pass1 a w h) fun e a' w' h=>by
  cases e<;>try exact h
  rcases h with ⟨rfl,h⟩ | ⟨rfl,h⟩
  ·exact .inl ⟨rfl,h.1⟩
  ·exact .inr ⟨rfl,h.1⟩) pass0 (fun a w h=>wp_seq (wp_skip (pass1 a w h)))
def Exit.one (l0:Nat) (J0:Act→World→Prop) (Q:Exit→Act→World→Prop):Exit→Act→World→Prop
 | .goto l,a,w=>l=l0∧J0 a w
 | e,a,w=>Q e a w
theorem zm4 {c r0:Code} (l0:Nat) (J0:Act→World→Prop) (h0:findLabel c l0=some r0)
  (first:c.wp P (Exit.one l0 J0 Q) a w)
  (pass: ∀a w,J0 a w→r0.wp P (Exit.noGoto Q) a w):(Code.scope c).wp P Q a w:=by
 refine ze1 (fun l a w=>l=l0∧J0 a w) (fun _ _ _=>0) (fun _=>r0) ?_ ?_ ?_
 ·rintro l a w ⟨rfl,-⟩
  exact h0
 ·exact wp_mono first fun e a w h=>by cases e<;>exact h
 ·rintro l a w ⟨rfl,hJ⟩
  refine wp_mono (pass a w hJ) fun e a' w' h=> ?_;cases e<;>first | exact h | exact h.elim
end
end Go
namespace Go.Proofs.YtannckelmojkoaaGreat
abbrev Bys:=List Nat
def topN:Nat:=1099511627776
def tkGo (b:Bys):Nat→Nat→Nat→Nat→Option (Nat×Nat)
 | 0,_,_,_=>none
 | fuel+1,n,k,at_=>match b[at_]? with
  | none=>none
  | some c=>if 128≤c then tkGo b fuel (n+c%128*128^k) (k+1) (at_+1)
   else if (c=0∧0<k)∨topN≤n+c%128*128^k then none else some (n+c%128*128^k,at_+1)
def takeN (b:Bys) (at_:Nat):Option (Nat×Nat):=tkGo b 6 0 0 at_
theorem zx5 {b:Bys}: ∀ {fuel n k at_ m a:Nat},tkGo b fuel n k at_=some (m,a)→m<topN∧at_<a∧a≤b.length
 | 0,_,_,_,_,_,h=>by simp [tkGo] at h
 | fuel+1,n,k,at_,m,a,h=>by
  unfold tkGo at h;cases hc:b[at_]? with
  | none=>rw [hc] at h;simp at h
  | some c=>
   rw [hc] at h;have hlt:at_<b.length:=(List.getElem?_eq_some_iff.1 hc).1;simp only at h;split at h
   ·obtain ⟨h1,h2,h3⟩:=zx5 h
    exact ⟨h1,by omega,h3⟩
   ·split at h
    ·simp at h
    ·simp only [Option.some.injEq,Prod.mk.injEq] at h
     obtain ⟨rfl,rfl⟩:=h;exact ⟨by omega,by omega,by omega⟩
theorem zds {b:Bys} {at_ m a:Nat} (h:takeN b at_=some (m,a)):m<topN∧at_<a∧a≤b.length:=zx5 h
def zagN (n:Nat):Int:=if n%2=1 then-(((n+1)/2:Nat):Int) else ((n/2:Nat):Int)
structure Rs where
 at_:Nat
 bad:Bool
def rdN (b:Bys) (s:Rs):Nat×Rs:=if s.bad then (0,s) else match takeN b s.at_ with | none=>(0,⟨s.at_,true⟩) | some (n,a)=>(n,⟨a,false⟩)
def rdS (b:Bys) (s:Rs):Int×Rs:=(zagN (rdN b s).1,(rdN b s).2)
def rdReq (b:Bys) (s0:Rs):Rq×Rs:=
 let (c,s1):=rdN b s0
 let (t,s2):=rdN b s1
 let (k,s3):=rdN b s2
 let (y,s4):=rdS b s3
 let (v,s5):=rdS b s4
 let (l,s6):=rdN b s5
 (⟨c,t,k,y,v,l⟩,s6)
def zb0 (b:Bys) (s0:Rs):(Int×Int)×Rs:=
 let (n,s1):=rdN b s0
 let (l,s2):=rdN b s1
 ((n,l),s2)
def rdGo {α:Type} (one:Rs→α×Rs):Nat→List α→Rs→List α×Rs
 | 0,acc,s=>if s.bad then ([],s) else (acc,s)
 | n+1,acc,s=>if s.bad then ([],s) else rdGo one n (acc++[(one s).1]) (one s).2
def rdL {α:Type} (b:Bys) (one:Rs→α×Rs) (s:Rs):List α×Rs:=
 if 256<(rdN b s).1 then ([],⟨(rdN b s).2.at_,true⟩) else rdGo one (rdN b s).1 [] (rdN b s).2
def zch (b:Bys) (s0:Rs):Cp×Rs:=
 let (v,s1):=rdN b s0
 let (i,s2):=rdN b s1
 let (q,s3):=rdN b s2
 let (l,s4):=rdL b (rdReq b) s3
 let (o,s5):=rdL b (zb0 b) s4
 (⟨v,i,q,l,o⟩,s5)
structure Pa where
 fm:Int
 vs:Vs
 cs:List Cp
 sl:Int
def zcr (b:Bys) (s0:Rs):Pa×Rs:=
 let (f,s1):=rdN b s0
 let (o,s2):=rdL b (zb0 b) s1
 let (c,s3):=rdL b (zch b) s2
 let (l,s4):=rdN b s3
 (⟨f,o,c,l⟩,s4)
structure Ms where
 kind:Int
 fm:Int
 view:Int
 inst:Int
 seq:Int
 res:Int
 rs:List Rq
 vs:Vs
 cs:List Cp
 ps:List Pa
def zb3 {α:Type} (b:Bys) (one:Rs→α×Rs) (at_:Nat):Option (List α×Nat):=if (rdL b one ⟨at_,false⟩).2.bad then none else some ((rdL b one ⟨at_,false⟩).1,(rdL b one ⟨at_,false⟩).2.at_)
def takeS (b:Bys) (at_:Nat):Option (Int×Nat):=(takeN b at_).map fun p=>(zagN p.1,p.2)
end Go.Proofs.YtannckelmojkoaaGreat
namespace Go.Proofs.YtannckelmojkoaaGreat
open Go.RowKit Go.Heap
def Byt (w:World) (v:Value) (bs:Bys):Prop:=Reads w v 1 bs.length (bs.map fun c:Nat=>Value.int .u8 (c:Int))∧ ∀c∈bs,c<256
theorem Byt.upd {w w':World} {v:Value} {bs:Bys} (h:Byt w v bs) (hu:Upd [] w w'):Byt w' v bs:=⟨h.1.upd hu (by simp),h.2⟩
theorem zcl {w:World} {v:Value} {bs:Bys} (h:Byt w v bs): ∃ao cap,v= .slice ao bs.length cap∧bs.length≤cap∧cap≤maxLen:=let ⟨ao,cap,hv,h1,h2,_⟩:=h.1;⟨ao,cap,hv,h1,h2⟩
theorem zyj {w:World} {ao:Option Addr} {n cap:Nat} {bs:Bys} (h:Byt w (.slice ao n cap) bs) (k:Nat) (hk:k<bs.length): ∃b o,ao=some ⟨b,o,none⟩∧w.cell? ⟨b,o+k,none⟩=some (.int .u8 (bs[k]:Int)):=by
 obtain ⟨⟨ao',cap',hv,h1,h2,h3,h4,h5⟩,-⟩:=h;simp only [Value.slice.injEq] at hv;obtain ⟨rfl,rfl,rfl⟩:=hv;obtain ⟨b,o,rfl,hb,hc⟩:=h5 (by omega);exact ⟨b,o,rfl,by rw [hc k (by omega)];simp [hk]⟩
theorem zx6 {b:Bys} {fuel n k a:Nat} (h:b.length≤a∨fuel=0):tkGo b fuel n k a=none:=by
 cases fuel with
 | zero=>rfl
 | succ f=>
  rcases h with h | h
  ·unfold tkGo;rw [List.getElem?_eq_none (by omega)]
  ·omega
theorem tk_more {b:Bys} {fuel n k a:Nat} (h:a<b.length) (hc:128≤b[a]):tkGo b (fuel+1) n k a=tkGo b fuel (n+b[a]%128*128^k) (k+1) (a+1):=by
 conv=>lhs;unfold tkGo
 rw [List.getElem?_eq_getElem h];simp [hc]
theorem tk_bad {b:Bys} {fuel n k a:Nat} (h:a<b.length) (hc:b[a]<128) (hb:(b[a]=0∧0<k)∨topN≤n+b[a]%128*128^k):tkGo b (fuel+1) n k a=none:=by
 unfold tkGo;rw [List.getElem?_eq_getElem h];simp only;rw [if_neg (by omega),if_pos hb]
theorem tk_good {b:Bys} {fuel n k a:Nat} (h:a<b.length) (hc:b[a]<128) (hb: ¬((b[a]=0∧0<k)∨topN≤n+b[a]%128*128^k)):tkGo b (fuel+1) n k a=some (n+b[a]%128*128^k,a+1):=by
 unfold tkGo;rw [List.getElem?_eq_getElem h];simp only;rw [if_neg (by omega),if_neg hb]
theorem zr1 (a:Nat) (ha:a<18446744073709551616):(BitVec.ofInt 64 (a:Int)).toNat=a:=by
 rw [BitVec.ofInt_natCast,BitVec.toNat_ofNat];exact Nat.mod_eq_of_lt (by omega)
theorem zq8 (a b:Nat) (ha:a<4611686018427387904) (hb:b<4611686018427387904):bits .or .i64 (a:Int) (b:Int)=((a ||| b:Nat):Int):=by
 have hx:a ||| b<2^62:=Nat.or_lt_two_pow (by omega) (by omega);show IntKind.i64.wrap ((BitVec.ofInt 64 (a:Int) ||| BitVec.ofInt 64 (b:Int)).toNat:Int)=_;rw [BitVec.toNat_or,zr1 a (by omega),zr1 b (by omega)];exact IntWalk.i64_in _ (by omega)
theorem u8_and127 (c:Nat) (hc:c<256):bits .and .u8 (c:Int) 127=((c%128:Nat):Int):=by
 have h:=u8_and_nat c 127 hc (by decide);rw [show ((127:Nat):Int)=127 from rfl] at h;rw [h,show (127:Nat)=2^7-1 from rfl,Nat.and_two_pow_sub_one_eq_mod]
theorem pow_7 (k:Nat):2^(7*k)=128^k:=by rw [Nat.pow_mul]
theorem step_val (n k c:Nat) (hk:k≤5) (hn:n<128^k) (hc:c<256):bits .or .i64 (n:Int) (wrap64 (wrap64 (bits .and .u8 (c:Int) 127)*2^(7*k)))=((n+c%128*128^k:Nat):Int):=by
 have hp:128^k≤34359738368:=by
  have:128^k≤128^5:=Nat.pow_le_pow_right (by omega) hk;exact this
 have hm:c%128<128:=Nat.mod_lt _ (by omega);have hmul:c%128*128^k≤127*34359738368:=Nat.mul_le_mul (by omega) hp;rw [u8_and127 c hc,show wrap64 ((c%128:Nat):Int)=((c%128:Nat):Int) by unfold wrap64;omega];have e:((c%128:Nat):Int)*2^(7*k)=((c%128*128^k:Nat):Int):=by rw [←pow_7];push_cast;rfl
 rw [e,show wrap64 ((c%128*128^k:Nat):Int)=((c%128*128^k:Nat):Int) by unfold wrap64;omega,zq8 _ _ (by omega) (by omega)];congr 1
 have h2:=Nat.two_pow_add_eq_or_of_lt (i:=7*k) (b:=n) (by rw [pow_7];exact hn) (c%128);rw [pow_7] at h2;rw [Nat.or_comm,Nat.mul_comm (c%128),←h2,Nat.add_comm]
abbrev takenV:Option (Nat×Nat)→Value
 | none=> .tuple #[.int .i64 0,.int .i64 0,.bool false]
 | some (n,a)=> .tuple #[.int .i64 n,.int .i64 a,.bool true]
theorem zem (v:Value) (bs:Bys) (at_:Nat) (w:World) (h:Byt w v bs) (ha:at_≤100000) (hl:bs.length≤100000):
  Calls Tryz.prog 74 #[v,.int .i64 at_] w fun e w'=>e= .returned (takenV (takeN bs at_))∧w'=w:=by
 obtain ⟨ao,cap,rfl,h1,h2⟩:=zcl h;have H:=zq h;have h0I:decide ((at_:Int)<0)=false:=by simp
 clear h h1 h2;go_enter Tryz.func74,Tryz.ntmps74
 go_wp2_with fail
 refine zc2 0 1 (fun a' w'=>w'=w∧takeN bs at_=none∧ ∃u0 u1 u2 u3 u4 u5 u6 u7 u8 u9 u10 u11 u12 u13 u14 u15 u16 u17 u18 u19 u20 u21 u22 u23 u24 u25 u26 u27 u28 u29 u30 u31 u32 u33 u34 u35 u36 u37 u38 u39 u40 u41 u42 u43 u44 u45 u46 u47 u48:Value,a'= {tmps:=#[u0,u1,u2,u3,u4,u5,u6,u7,u8,u9,u10,u11,u12,u13,u14,u15,u16,u17,u18,u19,u20,u21,u22,u23,u24,u25,u26,u27,u28,u29,u30,u31,u32,u33,u34,u35,u36,u37,u38,u39,u40,u41,u42,u43,u44,u45,u46,u47,u48],defers:=[]})
  (fun a' w'=>w'=w∧ ∃(n k a:Nat) (nI aI cI shI:Int) (t2 t3 t9 t10 t11 t12 t13 t14 t15 t16 t17 t18 t19 t20 t21 t22 t23 t24 t25 t26 t27 t28 t29 t30 t31 t32 t33 t34 t35 t36 t37 t38 t39 t40 t41 t42 t43 t44 t45 t46 t47 t48:Value),a'= {tmps:=#[.slice ao bs.length cap,.int .i64 aI,t2,t3,.int .i64 nI,.int .i64 0,.bool false,.int .u8 cI,.int .i64 shI,t9,t10,t11,t12,t13,t14,t15,t16,t17,t18,t19,t20,t21,t22,t23,t24,t25,t26,t27,t28,t29,t30,t31,t32,t33,t34,t35,t36,t37,t38,t39,t40,t41,t42,t43,t44,t45,t46,t47,t48],defers:=[]}∧nI=(n:Int)∧aI=(a:Int)∧shI=7*(k:Int)∧k≤6∧n<128^k∧a≤100006∧tkGo bs (6-k) n k a=takeN bs at_)
  (fun _ _=>0) (fun a _=>100-(intOf (a.tmps.getD 8 undef)).toNat) rfl rfl (by decide) ?_ ?_ ?_
 ·rintro a' w' ⟨rfl,hno,u0,u1,u2,u3,u4,u5,u6,u7,u8,u9,u10,u11,u12,u13,u14,u15,u16,u17,u18,u19,u20,u21,u22,u23,u24,u25,u26,u27,u28,u29,u30,u31,u32,u33,u34,u35,u36,u37,u38,u39,u40,u41,u42,u43,u44,u45,u46,u47,u48,rfl⟩
  go_wp2_with fail
  simp only [Exit.two]
  go_ret3
  refine ⟨?_,rfl⟩;rw [hno];rfl
 ·rintro a' w' ⟨rfl,n,k,a,nI,aI,cI,shI,t2,t3,t9,t10,t11,t12,t13,t14,t15,t16,t17,t18,t19,t20,t21,t22,t23,t24,t25,t26,t27,t28,t29,t30,t31,t32,t33,t34,t35,t36,t37,t38,t39,t40,t41,t42,t43,t44,t45,t46,t47,t48,rfl,rfl,rfl,rfl,hk,hn,ha,ht⟩
  by_cases hlt:a<bs.length
  ·have hltI:decide ((bs.length:Int)≤(a:Int))=false:=by simp;omega
   have hltJ:decide (bs.length≤a)=false:=by simp;omega
   by_cases hk6:k=6
   ·subst hk6
    have HNO:=zq (ht.symm.trans (zx6 (.inr rfl)));clear ht
    go_wp2_with fail
    go_step3
    exact .inl ⟨rfl,⟨rfl,HNO.out,_,_,_,_,_,_,_,_,_,_,_,_,_,_,_,_,_,_,_,_,_,_,_,_,_,_,_,_,_,_,_,_,_,_,_,_,_,_,_,_,_,_,_,_,_,_,_,_,_,rfl⟩,by simp [intOf]⟩
   ·obtain ⟨b,o,rfl,hc⟩:=zyj H.out a hlt
    have hk5:k≤5:=by omega
    have hkJ:decide ((35:Int)<7*(k:Int))=false:=by simp;omega
    have hval:=step_val n k bs[a] hk5 hn (H.out.2 _ (List.getElem_mem hlt));have hp:128^k≤34359738368:=by
     have:128^k≤128^5:=Nat.pow_le_pow_right (by omega) hk5;exact this
    have hmul:bs[a]%128*128^k≤127*128^k:=Nat.mul_le_mul (by omega) (Nat.le_refl _);have hpn:n+bs[a]%128*128^k<128^(k+1):=by rw [Nat.pow_succ];omega
    have HT:=zq ht;have HM:=zq (fun h=>ht.symm.trans ((show tkGo bs (6-k) n k a=tkGo bs (5-k+1) n k a from by congr 1;omega).trans (tk_more (fuel:=5-k) (n:=n) (k:=k) hlt h)));have HBD:=zq (fun h h'=>ht.symm.trans ((show tkGo bs (6-k) n k a=tkGo bs (5-k+1) n k a from by congr 1;omega).trans (tk_bad (fuel:=5-k) (n:=n) (k:=k) hlt h h')));have HGD:=zq (fun h h'=>ht.symm.trans ((show tkGo bs (6-k) n k a=tkGo bs (5-k+1) n k a from by congr 1;omega).trans (tk_good (fuel:=5-k) (n:=n) (k:=k) hlt h h')));clear ht hmul hp;generalize bs[a]=cc at*;generalize n+cc%128*128^k=nn at*;have haI:(a:Int)<(bs.length:Int):=by omega
    have ha0:(0:Int)≤(a:Int):=by omega
    by_cases hc8:128≤cc
    ·have hcI:(128:Int)≤(cc:Int):=by omega
     have HT2:=zq (HM.out hc8);clear HM HBD HGD HT hc8
     go_wp2_with fail
     go_step3
     exact .inr ⟨rfl,⟨rfl,nn,k+1,a+1,_,_,_,_,_,_,_,_,_,_,_,_,_,_,_,_,_,_,_,_,_,_,_,_,_,_,_,_,_,_,_,_,_,_,_,_,_,_,_,_,_,_,_,_,_,_,rfl,rfl,by simp,by push_cast;omega,by omega,hpn,by omega,by rw [show 6-(k+1)=5-k by omega];exact HT2.out.symm⟩,by simp [intOf];omega⟩
    ·have hcI:decide ((128:Int)≤(cc:Int))=false:=by simp;omega
     by_cases hc0:cc=0
     ·have hcz:((cc:Int)==0)=true:=by simp [hc0]
      by_cases hk0:0<k
      ·have hkI:(7:Int)<7*(k:Int)+7:=by omega
       have HNO:=zq (HBD.out (by omega) (.inl ⟨hc0,hk0⟩));clear HM HBD HGD HT hc0
       go_wp2_with fail
       go_step3
       exact .inl ⟨rfl,⟨rfl,HNO.out,_,_,_,_,_,_,_,_,_,_,_,_,_,_,_,_,_,_,_,_,_,_,_,_,_,_,_,_,_,_,_,_,_,_,_,_,_,_,_,_,_,_,_,_,_,_,_,_,_,rfl⟩,by simp [intOf];omega⟩
      ·have hkI:decide ((7:Int)<7*(k:Int)+7)=false:=by simp;omega
       have hp2:nn<128:=by
        have h1:=hpn;rw [show k=0 by omega] at h1
        simpa using h1
       have hnI:decide ((1099511627776:Int)≤(nn:Int))=false:=by simp;omega
       have HGO:=zq (HGD.out (by omega) (by intro h;rcases h with h | h;exact absurd h.2 (by omega);unfold topN at h;omega))
       clear HM HBD HGD HT hc0
       go_wp2_with fail
       simp only [Exit.two]
       go_ret3
       refine ⟨?_,rfl⟩;rw [HGO.out];rfl
     ·have hcz:((cc:Int)==0)=false:=by simp;omega
      by_cases hnn:topN≤nn
      ·have hnI:(1099511627776:Int)≤(nn:Int):=by unfold topN at hnn;omega
       have HNO:=zq (HBD.out (by omega) (.inr hnn));clear HM HBD HGD HT
       go_wp2_with fail
       go_step3
       exact .inl ⟨rfl,⟨rfl,HNO.out,_,_,_,_,_,_,_,_,_,_,_,_,_,_,_,_,_,_,_,_,_,_,_,_,_,_,_,_,_,_,_,_,_,_,_,_,_,_,_,_,_,_,_,_,_,_,_,_,_,rfl⟩,by simp [intOf];omega⟩
      ·have hnI:decide ((1099511627776:Int)≤(nn:Int))=false:=by unfold topN at hnn;simp;omega
       have HGO:=zq (HGD.out (by omega) (by intro h;rcases h with h | h;exact absurd h.1 hc0;exact hnn h))
       clear HM HBD HGD HT
       go_wp2_with fail
       simp only [Exit.two]
       go_ret3
       refine ⟨?_,rfl⟩;rw [HGO.out];rfl
  ·have hltI:(bs.length:Int)≤(a:Int):=by omega
   have HNO:=zq (ht.symm.trans (zx6 (.inl (by omega))));clear ht
   go_wp2_with fail
   go_step3
   exact .inl ⟨rfl,⟨rfl,HNO.out,_,_,_,_,_,_,_,_,_,_,_,_,_,_,_,_,_,_,_,_,_,_,_,_,_,_,_,_,_,_,_,_,_,_,_,_,_,_,_,_,_,_,_,_,_,_,_,_,_,rfl⟩,by simp [intOf];omega⟩
 ·intro K1
  go_wp2_with fail
  go_step3
  rename_i hK
  refine hK _ _ ?_;exact K1 _ _ ⟨rfl,0,0,at_,_,_,_,_,_,_,_,_,_,_,_,_,_,_,_,_,_,_,_,_,_,_,_,_,_,_,_,_,_,_,_,_,_,_,_,_,_,_,_,_,_,_,_,_,_,_,rfl,rfl,rfl,rfl,by omega,by simp,by omega,rfl⟩
theorem ztp (n:Nat) (w:World) (h:n<topN):Calls Tryz.prog 202 #[.int .i64 n] w fun e w'=>e= .returned (.int .i64 (zagN n))∧w'=w:=by
 unfold topN at h;have h0:decide ((n:Int)<0)=false:=by simp
 have h1:decide ((1099511627776:Int)≤(n:Int))=false:=by simp;omega
 by_cases hm:n%2=1
 ·have hz:zagN n= -(((n+1)/2:Nat):Int):=by unfold zagN;rw [if_pos hm]
  rw [hz];obtain ⟨k,hk⟩: ∃k,k=(n+1)/2:=⟨_,rfl⟩;rw [←hk];have hn:n=2*k-1∧1≤k:=by omega
  have hmI:((n:Int)%2==1)=true:=by simp;omega
  have hw:IntKind.i64.wrap ((n:Int)+1)=(n:Int)+1:=IntWalk.i64_in _ (by omega);have hw2:IntKind.i64.wrap (-((n:Int)+1))= -((n:Int)+1):=IntWalk.i64_in _ (by omega);have hd:Int.tdiv ((n:Int)+1) 2=(k:Int):=by
   rw [Int.tdiv_eq_ediv_of_nonneg (by omega)];omega
  have hw3:IntKind.i64.wrap (-(k:Int))= -(k:Int):=IntWalk.i64_in _ (by omega);clear hm hz hk hn;go_enter Tryz.func202,Tryz.ntmps202
  go_wp2_with fail
  go_ret
  exact ⟨rfl,rfl⟩
 ·have hz:zagN n=((n/2:Nat):Int):=by unfold zagN;rw [if_neg hm]
  rw [hz];have hmI:((n:Int)%2==1)=false:=by simp;omega
  obtain ⟨k,hk⟩: ∃k,k=n/2:=⟨_,rfl⟩;rw [←hk];have hd:Int.tdiv (n:Int) 2=(k:Int):=by rw [Int.tdiv_eq_ediv_of_nonneg (by omega)];omega
  have hw3:IntKind.i64.wrap (k:Int)=(k:Int):=IntWalk.i64_in _ (by omega);have hd2:(n:Int)/2=(k:Int):=by omega
  clear hm hz hk;go_enter Tryz.func202,Tryz.ntmps202
  go_wp2_with fail
  go_ret
  exact ⟨rfl,rfl⟩
abbrev takenZ:Option (Int×Nat)→Value
 | none=> .tuple #[.int .i64 0,.int .i64 0,.bool false]
 | some (n,a)=> .tuple #[.int .i64 n,.int .i64 a,.bool true]
theorem zwj (v:Value) (bs:Bys) (at_:Nat) (w:World) (h:Byt w v bs) (ha:at_≤100000) (hl:bs.length≤100000):
  Calls Tryz.prog 132 #[v,.int .i64 at_] w fun e w'=>e= .returned (takenZ (takeS bs at_))∧w'=w:=by
 have HC:=zq (zem v bs at_ w h ha hl);have HS:Hid (takeS bs at_=(takeN bs at_).map fun p=>(zagN p.1,p.2)):=zq rfl;have HI:Hid (∀m a,takeN bs at_=some (m,a)→m<topN):=zq (fun m a h=>(zds h).1);generalize takeS bs at_=ts at*;generalize takeN bs at_=tn at*;clear h ha hl;go_enter Tryz.func132,Tryz.ntmps132
 go_wp2_with fail
 refine HC.out.mono ?_;rintro e w' ⟨rfl,rfl⟩;have hs:=HS.out;subst hs;clear HC HS;cases tn with
 | none=>
  have HZ:=zq (ztp 0 w' (by unfold topN;omega))
  go_wp2_with fail
  refine HZ.out.mono ?_;rintro e w2 ⟨rfl,rfl⟩
  go_wp2_with fail
  go_ret3
  exact ⟨rfl,rfl⟩
 | some p=>
  obtain ⟨m,a⟩:=p;have HZ:=zq (ztp m w' (HI.out m a rfl))
  go_wp2_with fail
  refine HZ.out.mono ?_;rintro e w2 ⟨rfl,rfl⟩
  go_wp2_with fail
  go_ret3
  exact ⟨rfl,rfl⟩
section
variable {B:Nat} {w0 w W W':World} {ss rs:List Res} {r:Nat} {bv:Value} {bs:Bys} {s:Rs}
abbrev rdB (r:Nat) (bv:Value) (s:Rs):Res:=blk r (.cells #[bv,.int .i64 s.at_,.bool s.bad] 339 (0,0))
structure RdOk (w0:World) (B:Nat) (bv:Value) (bs:Bys) (ss:List Res):Prop where
 b: ∀ {W:World} {rs:List Res},Own B w0 W rs→(∀r∈ss,r∈rs)→Byt W bv bs
 f: ∃ao cap,bv= .slice ao bs.length cap∧bs.length≤cap∧cap≤maxLen
 l:bs.length≤65536
theorem RdOk.red {ss:List Res} (hm:redR bv 1 bs.length (bs.map fun c:Nat=>Value.int .u8 (c:Int))∈ss) (hb: ∀c∈bs,c<256) (hW:Byt W bv bs) (hl:bs.length≤65536):RdOk w0 B bv bs ss:=
 ⟨fun ho hs=>⟨zf0 (ho.all _ (hs _ hm)).1,hb⟩,zcl hW,hl⟩
theorem RdOk.sub {ss ss':List Res} (h:RdOk w0 B bv bs ss) (hs: ∀r,r∈ss→r∈ss'):RdOk w0 B bv bs ss':=⟨fun ho hm=>h.b ho (fun r hr=>hm r (hs r hr)),h.f,h.l⟩
theorem zek (hs:s.at_≤65536) (hl:bs.length≤65536):(rdN bs s).2.at_≤65536∧(rdN bs s).1<topN:=by
 unfold rdN;split
 ·exact ⟨hs,by unfold topN;simp⟩
 ·cases h:takeN bs s.at_ with
  | none=>exact ⟨hs,by unfold topN;simp⟩
  | some p=>obtain ⟨h1,h2,h3⟩:=zds h;exact ⟨by simp only;omega,h1⟩
theorem za3 (h:Own B w0 W (rdB r bv s::ss)) (hb:RdOk w0 B bv bs ss) (hs:s.at_≤65536):
  Calls Tryz.prog 246 #[.pointer (some ⟨r,0,none⟩)] W fun e w'=>e= .returned (.int .i64 (rdN bs s).1)∧Own B w0 w' (rdB r bv (rdN bs s).2::ss):=by
 obtain ⟨at_,bad⟩:=s;simp only at hs;have hbl:=h.blk_out;have x0:W.cell? ⟨r,0,none⟩=some bv:=by rw [zac hbl];rfl
 have x1:W.cell? ⟨r,1,none⟩=some (.int .i64 at_):=by rw [zac hbl];rfl
 have x2:W.cell? ⟨r,2,none⟩=some (.bool bad):=by rw [zac hbl];rfl
 have z1:=zab hbl 1;have z2:=zab hbl 2;cases bad with
 | true=>
  have HO:=zq h;clear h hbl;go_enter Tryz.func246,Tryz.ntmps246
  go_wp2_with fail
  go_ret
  exact ⟨rfl,HO.out⟩
 | false=>
  have HC:=zq (zem bv bs at_ W.drew (hb.b h.drew (by simp+contextual)) (by omega) (by have:=hb.l;omega));have HO:=zq h;have HR:Hid (rdN bs ⟨at_,false⟩=match takeN bs at_ with | none=>(0,⟨at_,true⟩) | some (n,a)=>(n,⟨a,false⟩)):=zq rfl
  generalize rdN bs ⟨at_,false⟩=rn at*;generalize takeN bs at_=tn at*;clear h hbl hb;go_enter Tryz.func246,Tryz.ntmps246
  go_wp2_with fail
  refine Mix.wp_text2 (by kernel_rfl) (by kernel_rfl) ?_
  go_wp2_with fail
  refine HC.out.mono ?_;rintro e w' ⟨rfl,rfl⟩;have hr:=HR.out;subst hr;clear HC HR;cases tn with
  | none=>
   go_wp2_with fail
   refine ⟨by rfl,?_⟩
   go_wp2_with fail
   go_ret
   exact ⟨rfl,HO.out.drew.store 2 _⟩
  | some p=>
   obtain ⟨m,a⟩:=p
   go_wp2_with fail
   refine ⟨by rfl,?_⟩
   go_wp2_with fail
   go_ret
   exact ⟨rfl,HO.out.drew.store 1 _⟩
theorem zk4 (h:Own B w0 W (rdB r bv s::ss)) (hb:RdOk w0 B bv bs ss) (hs:s.at_≤65536):
  Calls Tryz.prog 247 #[.pointer (some ⟨r,0,none⟩)] W fun e w'=>e= .returned (.int .i64 (rdS bs s).1)∧Own B w0 w' (rdB r bv (rdS bs s).2::ss):=by
 have HC:=zq (za3 h hb hs);have HI:=zq (zek (bs:=bs) hs hb.l).2;have HR:Hid (rdS bs s=(zagN (rdN bs s).1,(rdN bs s).2)):=zq rfl;generalize rdS bs s=rs at*;generalize rdN bs s=rn at*;clear h hb hs;go_enter Tryz.func247,Tryz.ntmps247
 go_wp2_with fail
 refine HC.out.mono ?_;rintro e w' ⟨rfl,h1⟩;have H1:=zq h1;clear h1 HC;have HZ:=zq (ztp rn.1 w' HI.out)
 go_wp2_with fail
 refine HZ.out.mono ?_;rintro e w2 ⟨rfl,rfl⟩
 go_wp2_with fail
 go_ret
 exact ⟨by rw [HR.out];rfl,by rw [HR.out];exact H1.out⟩
end
end Go.Proofs.YtannckelmojkoaaGreat
namespace Go.Proofs.YtannckelmojkoaaGreat
open Go.RowKit Go.Heap
section
variable {B:Nat} {w0 w W W':World} {ss rs:List Res} {r:Nat} {bv:Value} {bs:Bys} {s:Rs}
theorem rdS_at (hs:s.at_≤65536) (hl:bs.length≤65536):(rdS bs s).2.at_≤65536:=(zek hs hl).1
theorem zfk (h:Own B w0 W rs) (o:Obj):Own B w0 ((W.alloc o).alloc o) (blk (W.heap.size+1) o::blk W.heap.size o::rs):=(h.box o).boxAt o (by rw [zav])
theorem req_any (h:Own B w0 W (rdB r bv s::ss)) (hb:RdOk w0 B bv bs ss) (hs:s.at_≤65536):
  Calls Tryz.prog 204 #[.pointer (some ⟨r,0,none⟩)] W fun e w'=>e= .returned (.agg (zbh (rdReq bs s).1).toArray)∧(rdReq bs s).2.at_≤65536∧Own B w0 w' (rdB r bv (rdReq bs s).2::ss):=by
 have H0:=zq (zfk h (.cells #[.int .i64 0,.int .i64 0,.int .i64 0,.int .i64 0,.int .i64 0,.int .i64 0] 38 (0,0))).rot;have HB:=zq hb;have hs0:=(zek (bs:=bs) (s:=s) hs hb.l).1;have hs1:=(zek (bs:=bs) (s:=(rdN bs s).2) hs0 hb.l).1;have hs2:=(zek (bs:=bs) (s:=(rdN bs (rdN bs s).2).2) hs1 hb.l).1;have hs3:=rdS_at (bs:=bs) (s:=(rdN bs (rdN bs (rdN bs s).2).2).2) hs2 hb.l;have hs4:=rdS_at (bs:=bs) (s:=(rdS bs (rdN bs (rdN bs (rdN bs s).2).2).2).2) hs3 hb.l;have hs5:=(zek (bs:=bs) (s:=(rdS bs (rdS bs (rdN bs (rdN bs (rdN bs s).2).2).2).2).2) hs4 hb.l).1;clear h hb;go_enter Tryz.func204,Tryz.ntmps204
 have HC0:=zq (za3 H0.out (HB.out.sub (by simp+contextual)) hs)
 go_wp2_with fail
 refine HC0.out.mono ?_;rintro e wx0 ⟨rfl,h0⟩;have x0:wx0.cell? ⟨W.heap.size+1,0,none⟩=some (.int .i64 0):=by rw [zac (h0.blkAt 1 rfl)];rfl
 have z0:=zab (h0.blkAt 1 rfl) 0;have H1:=zq (h0.swap.store 0 (.int .i64 (rdN bs s).1)).swap;clear HC0 H0 h0;have HC1:=zq (za3 H1.out (HB.out.sub (by simp+contextual)) hs0)
 go_wp2_with fail
 refine HC1.out.mono ?_;rintro e wx1 ⟨rfl,h1⟩;have x1:wx1.cell? ⟨W.heap.size+1,1,none⟩=some (.int .i64 0):=by rw [zac (h1.blkAt 1 rfl)];rfl
 have z1:=zab (h1.blkAt 1 rfl) 1;have H2:=zq (h1.swap.store 1 (.int .i64 (rdN bs (rdN bs s).2).1)).swap;clear HC1 H1 h1 x0 z0;have HC2:=zq (za3 H2.out (HB.out.sub (by simp+contextual)) hs1)
 go_wp2_with fail
 refine HC2.out.mono ?_;rintro e wx2 ⟨rfl,h2⟩;have x2:wx2.cell? ⟨W.heap.size+1,2,none⟩=some (.int .i64 0):=by rw [zac (h2.blkAt 1 rfl)];rfl
 have z2:=zab (h2.blkAt 1 rfl) 2;have H3:=zq (h2.swap.store 2 (.int .i64 (rdN bs (rdN bs (rdN bs s).2).2).1)).swap;clear HC2 H2 h2 x1 z1;have HC3:=zq (zk4 H3.out (HB.out.sub (by simp+contextual)) hs2)
 go_wp2_with fail
 refine HC3.out.mono ?_;rintro e wx3 ⟨rfl,h3⟩;have x3:wx3.cell? ⟨W.heap.size+1,3,none⟩=some (.int .i64 0):=by rw [zac (h3.blkAt 1 rfl)];rfl
 have z3:=zab (h3.blkAt 1 rfl) 3;have H4:=zq (h3.swap.store 3 (.int .i64 (rdS bs (rdN bs (rdN bs (rdN bs s).2).2).2).1)).swap;clear HC3 H3 h3 x2 z2;have HC4:=zq (zk4 H4.out (HB.out.sub (by simp+contextual)) hs3)
 go_wp2_with fail
 refine HC4.out.mono ?_;rintro e wx4 ⟨rfl,h4⟩;have x4:wx4.cell? ⟨W.heap.size+1,4,none⟩=some (.int .i64 0):=by rw [zac (h4.blkAt 1 rfl)];rfl
 have z4:=zab (h4.blkAt 1 rfl) 4;have H5:=zq (h4.swap.store 4 (.int .i64 (rdS bs (rdS bs (rdN bs (rdN bs (rdN bs s).2).2).2).2).1)).swap;clear HC4 H4 h4 x3 z3;have HC5:=zq (za3 H5.out (HB.out.sub (by simp+contextual)) hs4)
 go_wp2_with fail
 refine HC5.out.mono ?_;rintro e wx5 ⟨rfl,h5⟩;have x5:wx5.cell? ⟨W.heap.size+1,5,none⟩=some (.int .i64 0):=by rw [zac (h5.blkAt 1 rfl)];rfl
 have z5:=zab (h5.blkAt 1 rfl) 5;have H6:=zq (h5.swap.store 5 (.int .i64 (rdN bs (rdS bs (rdS bs (rdN bs (rdN bs (rdN bs s).2).2).2).2).2).1)).swap;clear HC5 H5 h5 x4 z4
 go_upto_region 8 with fail
 generalize World.setCell _ _ _=w9 at*;clear x5 z5;have h9:=H6.out;have a0:w9.cell? ⟨W.heap.size+1,0,none⟩=some (.int .i64 (rdN bs s).1):=by rw [zac (h9.blkAt 1 rfl)];rfl
 have b0:w9.cell? ⟨W.heap.size,0,none⟩=some (.int .i64 0):=by rw [zac (h9.blkAt 2 rfl)];rfl
 have y0:=zab (h9.blkAt 2 rfl) 0;have a1:w9.cell? ⟨W.heap.size+1,1,none⟩=some (.int .i64 (rdN bs (rdN bs s).2).1):=by rw [zac (h9.blkAt 1 rfl)];rfl
 have b1:w9.cell? ⟨W.heap.size,1,none⟩=some (.int .i64 0):=by rw [zac (h9.blkAt 2 rfl)];rfl
 have y1:=zab (h9.blkAt 2 rfl) 1;have a2:w9.cell? ⟨W.heap.size+1,2,none⟩=some (.int .i64 (rdN bs (rdN bs (rdN bs s).2).2).1):=by rw [zac (h9.blkAt 1 rfl)];rfl
 have b2:w9.cell? ⟨W.heap.size,2,none⟩=some (.int .i64 0):=by rw [zac (h9.blkAt 2 rfl)];rfl
 have y2:=zab (h9.blkAt 2 rfl) 2;have a3:w9.cell? ⟨W.heap.size+1,3,none⟩=some (.int .i64 (rdS bs (rdN bs (rdN bs (rdN bs s).2).2).2).1):=by rw [zac (h9.blkAt 1 rfl)];rfl
 have b3:w9.cell? ⟨W.heap.size,3,none⟩=some (.int .i64 0):=by rw [zac (h9.blkAt 2 rfl)];rfl
 have y3:=zab (h9.blkAt 2 rfl) 3;have a4:w9.cell? ⟨W.heap.size+1,4,none⟩=some (.int .i64 (rdS bs (rdS bs (rdN bs (rdN bs (rdN bs s).2).2).2).2).1):=by rw [zac (h9.blkAt 1 rfl)];rfl
 have b4:w9.cell? ⟨W.heap.size,4,none⟩=some (.int .i64 0):=by rw [zac (h9.blkAt 2 rfl)];rfl
 have y4:=zab (h9.blkAt 2 rfl) 4;have a5:w9.cell? ⟨W.heap.size+1,5,none⟩=some (.int .i64 (rdN bs (rdS bs (rdS bs (rdN bs (rdN bs (rdN bs s).2).2).2).2).2).1):=by rw [zac (h9.blkAt 1 rfl)];rfl
 have b5:w9.cell? ⟨W.heap.size,5,none⟩=some (.int .i64 0):=by rw [zac (h9.blkAt 2 rfl)];rfl
 have y5:=zab (h9.blkAt 2 rfl) 5;have HR:=zq (((((((h9.rot).store 0 (.int .i64 (rdN bs s).1)).store 1 (.int .i64 (rdN bs (rdN bs s).2).1)).store 2 (.int .i64 (rdN bs (rdN bs (rdN bs s).2).2).1)).store 3 (.int .i64 (rdS bs (rdN bs (rdN bs (rdN bs s).2).2).2).1)).store 4 (.int .i64 (rdS bs (rdS bs (rdN bs (rdN bs (rdN bs s).2).2).2).2).1)).store 5 (.int .i64 (rdN bs (rdS bs (rdS bs (rdN bs (rdN bs (rdN bs s).2).2).2).2).2).1));clear h9
 go_wp2_with fail
 clear a0 b0 y0 a1 b1 y1 a2 b2 y2 a3 b3 y3 a4 b4 y4 a5 b5 y5;generalize World.setCell _ _ _=w10 at*;have f0:w10.cell? ⟨W.heap.size,0,none⟩=some (.int .i64 (rdN bs s).1):=by rw [zac (HR.out.blkAt 0 rfl)];rfl
 have f1:w10.cell? ⟨W.heap.size,1,none⟩=some (.int .i64 (rdN bs (rdN bs s).2).1):=by rw [zac (HR.out.blkAt 0 rfl)];rfl
 have f2:w10.cell? ⟨W.heap.size,2,none⟩=some (.int .i64 (rdN bs (rdN bs (rdN bs s).2).2).1):=by rw [zac (HR.out.blkAt 0 rfl)];rfl
 have f3:w10.cell? ⟨W.heap.size,3,none⟩=some (.int .i64 (rdS bs (rdN bs (rdN bs (rdN bs s).2).2).2).1):=by rw [zac (HR.out.blkAt 0 rfl)];rfl
 have f4:w10.cell? ⟨W.heap.size,4,none⟩=some (.int .i64 (rdS bs (rdS bs (rdN bs (rdN bs (rdN bs s).2).2).2).2).1):=by rw [zac (HR.out.blkAt 0 rfl)];rfl
 have f5:w10.cell? ⟨W.heap.size,5,none⟩=some (.int .i64 (rdN bs (rdS bs (rdS bs (rdN bs (rdN bs (rdN bs s).2).2).2).2).2).1):=by rw [zac (HR.out.blkAt 0 rfl)];rfl
 exact bodyPost_ret (v:= .agg #[.int .i64 (rdN bs s).1,.int .i64 (rdN bs (rdN bs s).2).1,.int .i64 (rdN bs (rdN bs (rdN bs s).2).2).1,.int .i64 (rdS bs (rdN bs (rdN bs (rdN bs s).2).2).2).1,.int .i64 (rdS bs (rdS bs (rdN bs (rdN bs (rdN bs s).2).2).2).2).1,.int .i64 (rdN bs (rdS bs (rdS bs (rdN bs (rdN bs (rdN bs s).2).2).2).2).2).1]) (by simp [results,Tryz.results204,go_sem,f0,f1,f2,f3,f4,f5]) rfl ⟨rfl,hs5,HR.out.drop.dropAt 1 (by simp)⟩
theorem vote_any (h:Own B w0 W (rdB r bv s::ss)) (hb:RdOk w0 B bv bs ss) (hs:s.at_≤65536):
  Calls Tryz.prog 206 #[.pointer (some ⟨r,0,none⟩)] W fun e w'=>e= .returned (.agg #[.int .i64 (zb0 bs s).1.1,.int .i64 (zb0 bs s).1.2])∧(zb0 bs s).2.at_≤65536∧Own B w0 w' (rdB r bv (zb0 bs s).2::ss):=by
 have H0:=zq (zfk h (.cells #[.int .i64 0,.int .i64 0] 177 (0,0))).rot;have HB:=zq hb;have hs0:=(zek (bs:=bs) (s:=s) hs hb.l).1;have hs1:=(zek (bs:=bs) (s:=(rdN bs s).2) hs0 hb.l).1;clear h hb;go_enter Tryz.func206,Tryz.ntmps206
 have HC0:=zq (za3 H0.out (HB.out.sub (by simp+contextual)) hs)
 go_wp2_with fail
 refine HC0.out.mono ?_;rintro e wx0 ⟨rfl,h0⟩;have x0:wx0.cell? ⟨W.heap.size+1,0,none⟩=some (.int .i64 0):=by rw [zac (h0.blkAt 1 rfl)];rfl
 have z0:=zab (h0.blkAt 1 rfl) 0;have H1:=zq (h0.swap.store 0 (.int .i64 (rdN bs s).1)).swap;clear HC0 H0 h0;have HC1:=zq (za3 H1.out (HB.out.sub (by simp+contextual)) hs0)
 go_wp2_with fail
 refine HC1.out.mono ?_;rintro e wx1 ⟨rfl,h1⟩;have x1:wx1.cell? ⟨W.heap.size+1,1,none⟩=some (.int .i64 0):=by rw [zac (h1.blkAt 1 rfl)];rfl
 have z1:=zab (h1.blkAt 1 rfl) 1;have H2:=zq (h1.swap.store 1 (.int .i64 (rdN bs (rdN bs s).2).1)).swap;clear HC1 H1 h1 x0 z0
 go_upto_region 4 with fail
 generalize World.setCell _ _ _=w9 at*;clear x1 z1;have h9:=H2.out;have a0:w9.cell? ⟨W.heap.size+1,0,none⟩=some (.int .i64 (rdN bs s).1):=by rw [zac (h9.blkAt 1 rfl)];rfl
 have b0:w9.cell? ⟨W.heap.size,0,none⟩=some (.int .i64 0):=by rw [zac (h9.blkAt 2 rfl)];rfl
 have y0:=zab (h9.blkAt 2 rfl) 0;have a1:w9.cell? ⟨W.heap.size+1,1,none⟩=some (.int .i64 (rdN bs (rdN bs s).2).1):=by rw [zac (h9.blkAt 1 rfl)];rfl
 have b1:w9.cell? ⟨W.heap.size,1,none⟩=some (.int .i64 0):=by rw [zac (h9.blkAt 2 rfl)];rfl
 have y1:=zab (h9.blkAt 2 rfl) 1;have HR:=zq (((h9.rot).store 0 (.int .i64 (rdN bs s).1)).store 1 (.int .i64 (rdN bs (rdN bs s).2).1));clear h9
 go_wp2_with fail
 clear a0 b0 y0 a1 b1 y1;generalize World.setCell _ _ _=w10 at*;have f0:w10.cell? ⟨W.heap.size,0,none⟩=some (.int .i64 (rdN bs s).1):=by rw [zac (HR.out.blkAt 0 rfl)];rfl
 have f1:w10.cell? ⟨W.heap.size,1,none⟩=some (.int .i64 (rdN bs (rdN bs s).2).1):=by rw [zac (HR.out.blkAt 0 rfl)];rfl
 exact bodyPost_ret (v:= .agg #[.int .i64 (rdN bs s).1,.int .i64 (rdN bs (rdN bs s).2).1]) (by simp [results,Tryz.results206,go_sem,f0,f1]) rfl ⟨rfl,hs1,HR.out.drop.dropAt 1 (by simp)⟩
end
end Go.Proofs.YtannckelmojkoaaGreat
namespace Go.Proofs.YtannckelmojkoaaGreat
open Go.RowKit Go.Heap
theorem zjo {α:Type} (one:Rs→α×Rs) (n:Nat) (acc:List α) (s:Rs) (h:s.bad=true):rdGo one n acc s=([],s):=by cases n<;>(unfold rdGo;rw [if_pos h])
theorem zgp {α:Type} (one:Rs→α×Rs) (acc:List α) (s:Rs) (h:s.bad=false):rdGo one 0 acc s=(acc,s):=by unfold rdGo;rw [if_neg (by simp [h])]
theorem zfi {α:Type} (one:Rs→α×Rs) (n:Nat) (acc:List α) (s:Rs) (h:s.bad=false):rdGo one (n+1) acc s=rdGo one n (acc++[(one s).1]) (one s).2:=by
 conv=>lhs;unfold rdGo
 rw [if_neg (by simp [h])]
def lenOf:Value→Nat
 | .slice _ n _=>n
 | _=>0
abbrev za2 (p:Int×Int):List Value:=[.int .i64 p.1,.int .i64 p.2]
theorem zi3 {α:Type} (cells:α→List Value) (x:α):[x].flatMap cells=cells x:=by simp
section
variable {B:Nat} {w0 w W W':World} {ss rs:List Res} {r:Nat} {bv:Value} {bs:Bys} {s:Rs}
theorem small_max' {k:Nat} (h:k≤1000):k+1≤maxLen:=by unfold maxLen;omega
theorem rqOne (x:Rq): ∀u∈zbh x,u.oneCell'=true:=fun u hu=>zdh [x] u (by simpa [zak] using hu)
theorem voteOne (x:Int×Int): ∀u∈za2 x,u.oneCell'=true:=by
 intro u hu;simp only [za2,List.mem_cons,List.not_mem_nil,or_false] at hu;rcases hu with rfl | rfl<;>rfl
theorem zhx (h:Own B w0 W (rdB r bv s::ss)) (hb:RdOk w0 B bv bs ss) (hs:s.at_≤65536):
  Calls Tryz.prog 245 #[.pointer (some ⟨r,0,none⟩),.func (.func 204) #[] #[]] W fun e w'=> ∃ao cap,e= .returned (.slice ao (rdL bs (rdReq bs) s).1.length cap)∧(rdL bs (rdReq bs) s).2.at_≤65536∧Own B w0 w' (rdB r bv (rdL bs (rdReq bs) s).2::ownR 38 6 (.slice ao (rdL bs (rdReq bs) s).1.length cap) (rdL bs (rdReq bs) s).1.length ((rdL bs (rdReq bs) s).1.flatMap zbh)::ss):=by
 obtain ⟨i0,hi,hz0,hz1,hz2⟩:=info_parts Tryz.infoReq;have HB:=zq hb;have hs1:=(zek (bs:=bs) hs hb.l).1;have HC:=zq (za3 h hb hs);have HL:Hid (rdL bs (rdReq bs) s=if 256<(rdN bs s).1 then ([],⟨(rdN bs s).2.at_,true⟩) else rdGo (rdReq bs) (rdN bs s).1 [] (rdN bs s).2):=zq rfl;generalize rdL bs (rdReq bs) s=res at*;generalize (rdN bs s).1=n at*;generalize (rdN bs s).2=s1 at*;clear h hb hs;go_enter Tryz.func245,Tryz.ntmps245
 go_wp2_with fail
 refine zc2 0 1 (fun a' w'=> ∃(st:Rs) (u1 u2 u3 u4 u5 u6 u7 u8 u9 u10 u11 u12 u13 u14 u15 u16 u17 u18 u19 u20 u21 u22 u23 u24 u25 u26 u27 u28:Value),a'= {tmps:=#[.pointer (some ⟨r,0,none⟩),u1,u2,u3,u4,u5,u6,u7,u8,u9,u10,u11,u12,u13,u14,u15,u16,u17,u18,u19,u20,u21,u22,u23,u24,u25,u26,u27,u28],defers:=[]}∧st.at_≤65536∧res=([],⟨st.at_,true⟩)∧Own B w0 w' (rdB r bv st::ss))
  (fun a' w'=> ∃(acc:List Rq) (st:Rs) (m:Nat) (ao:Option Addr) (k cap:Nat) (nI:Int) (t2 t3 t7 t8 t9 t10 t11 t12 t13 t14 t15 t16 t17 t18 t19 t20 t21 t22 t23 t24 t25 t26 t27 t28:Value),a'= {tmps:=#[.pointer (some ⟨r,0,none⟩),.func (.func 204) #[] #[],t2,t3,.slice none 0 0,.slice ao k cap,.int .i64 nI,t7,t8,t9,t10,t11,t12,t13,t14,t15,t16,t17,t18,t19,t20,t21,t22,t23,t24,t25,t26,t27,t28],defers:=[]}∧nI=(n:Int)∧k=acc.length∧n=acc.length+m∧n≤256∧st.at_≤65536∧res=rdGo (rdReq bs) m acc st∧Own B w0 w' (rdB r bv st::ownR 38 6 (.slice ao acc.length cap) acc.length (acc.flatMap zbh)::ss))
  (fun _ _=>0) (fun a _=>300-lenOf (a.tmps.getD 5 undef)) rfl rfl (by decide) ?_ ?_ ?_
 ·rintro a' w' ⟨st,u1,u2,u3,u4,u5,u6,u7,u8,u9,u10,u11,u12,u13,u14,u15,u16,u17,u18,u19,u20,u21,u22,u23,u24,u25,u26,u27,u28,rfl,hat,hres,ho⟩
  have z2:=zab ho.blk_out 2;have x2:w'.cell? ⟨r,2,none⟩=some (.bool st.bad):=by rw [zac ho.blk_out];rfl
  have HE:=zq (ho.store 2 (.bool true));clear ho
  go_wp2_with fail
  simp only [Exit.two];go_ret
  refine ⟨none,0,?_,?_,?_⟩
  ·rw [hres];rfl
  ·rw [hres];exact hat
  ·rw [hres];exact (HE.out.row0 (E:=38) (sz:=6)).swap
 ·rintro a' w' ⟨acc,st,m,ao,k,cap,nI,t2,t3,t7,t8,t9,t10,t11,t12,t13,t14,t15,t16,t17,t18,t19,t20,t21,t22,t23,t24,t25,t26,t27,t28,rfl,rfl,rfl,hnm,hn,hat,hres,ho⟩
  have x2:w'.cell? ⟨r,2,none⟩=some (.bool st.bad):=by rw [zac ho.blk_out];rfl
  have HO:=zq ho;obtain ⟨at_,bad⟩:=st;simp only at x2 hat;cases bad with
  | true=>
   have HNO:=zq (hres.trans (zjo _ _ _ _ rfl));clear ho hres
   go_wp2_with fail
   go_step3
   exact .inl ⟨rfl,⟨⟨at_,true⟩,_,_,_,_,_,_,_,_,_,_,_,_,_,_,_,_,_,_,_,_,_,_,_,_,_,_,_,_,rfl,hat,HNO.out,HO.out.dropAt 1 (by simp)⟩,by simp [lenOf];omega⟩
  | false=>
   cases m with
   | zero=>
    have hlI:((acc.length:Int)==(n:Int))=true:=by simp;omega
    have HNO:=zq (hres.trans (zgp _ _ _ rfl));clear ho hres
    go_wp2_with fail
    simp only [Exit.two];go_ret
    refine ⟨ao,cap,?_,?_,?_⟩
    ·rw [HNO.out];rfl
    ·rw [HNO.out];exact hat
    ·rw [HNO.out];exact HO.out
   | succ m=>
    have hlI:((acc.length:Int)==(n:Int))=false:=by simp;omega
    have HNX:=zq (hres.trans (zfi _ m acc ⟨at_,false⟩ rfl));have HC1:=zq (req_any ho (HB.out.sub (by simp+contextual)) hat);clear ho hres
    go_wp2_with fail
    refine HC1.out.mono ?_;rintro e w1 ⟨rfl,hat1,h1⟩;generalize hone:rdReq bs ⟨at_,false⟩=o1 at*;obtain ⟨x,st1⟩:=o1;have harr:(zbh x).toArray=#[.int .i64 x.client,.int .i64 x.time,.int .i64 x.kind,.int .i64 x.key,.int .i64 x.val,.int .i64 x.sl]:=rfl;simp only at*;rw [harr];have hd:=h1.alloc (rqBox x);have HD:=zq hd;have HW:=zq (zam (hd.get 1 rfl));have HNW:Hid (∀j u,(zbh x)[j]?=some u→(w1.alloc (rqBox x)).cell? ((⟨w1.heap.size,0,none⟩:Addr).add j)=some u):=zq (World.news_of_block (heap_alloc_new w1 (rqBox x)));have HON:Hid (∀u∈zbh x,u.oneCell'=true):=zq (rqOne x);have HMX:=zq (small_max' (k:=acc.length) (by omega));have HM4:Hid ((acc.length+1)*48≤140737488355328):=zq (by omega);clear hd h1 HC1 x2
    go_wp2_with (at_builtin;refine wpList_append_lies _ rfl (.tmp 20) (.tmp 24) 39 rfl 0 38 i0 (.agg #[.int .i64 0,.int .i64 0,.int .i64 0,.int .i64 0,.int .i64 0,.int .i64 0]) 6 48 Tryz.underlying39 hi hz0 hz1 hz2 rfl (by decide) _ acc.length _ rfl HW.out ⟨w1.heap.size,0,none⟩ 1 1 (zbh x) rfl rfl HNW.out HON.out (by decide) HMX.out HM4.out (Nat.zero_le _) _ rfl ?_)
    intro g9 cap9 w9 hown hgrow hat9 hlt9;have h6:=HD.out.growAt 1 rfl hgrow (by simpa using hat9) hown;have HZ:Hid (Own B w0 w9 (rdB r bv st1::ownR 38 6 (.slice (some ⟨g9,0,none⟩) (acc++[x]).length cap9) (acc++[x]).length ((acc++[x]).flatMap zbh)::ss)):=zq (by
     have e1:(acc++[x]).flatMap zbh=acc.flatMap zbh++zbh x:=by rw [List.flatMap_append,zi3]
     have e2:(acc++[x]).length=acc.length+1:=by simp
     rw [e1,e2];exact h6)
    clear hown hgrow hat9 hlt9 h6 HD HW HNW HON HMX HM4 HO
    go_wp2_with fail
    go_step3
    exact .inr ⟨rfl,⟨acc++[x],st1,m,_,_,_,_,_,_,_,_,_,_,_,_,_,_,_,_,_,_,_,_,_,_,_,_,_,_,_,_,rfl,by omega,by simp,by rw [List.length_append];simp;omega,hn,hat1,HNX.out,HZ.out⟩,by simp [lenOf];omega⟩
 ·intro K1
  go_wp2_with fail
  refine HC.out.mono ?_;rintro e w1 ⟨rfl,h1⟩;have H1:=zq h1;clear h1 HC;by_cases hbig:256<n
  ·have hbI:(256:Int)<(n:Int):=by omega
   have HNO:Hid (res=([],⟨s1.at_,true⟩)):=zq (by rw [HL.out,if_pos hbig])
   go_wp2_with fail
   go_step3
   exact .inl ⟨rfl,s1,_,_,_,_,_,_,_,_,_,_,_,_,_,_,_,_,_,_,_,_,_,_,_,_,_,_,_,_,rfl,hs1,HNO.out,H1.out⟩
  ·have hbI:decide ((256:Int)<(n:Int))=false:=by simp;omega
   have HNO:Hid (res=rdGo (rdReq bs) n [] s1):=zq (by rw [HL.out,if_neg hbig])
   go_wp2_with fail
   go_step3
   rename_i hK
   refine hK _ _ ?_;exact K1 _ _ ⟨[],s1,n,none,0,0,_,_,_,_,_,_,_,_,_,_,_,_,_,_,_,_,_,_,_,_,_,_,_,_,_,rfl,rfl,rfl,by simp,by omega,hs1,HNO.out,(H1.out.row0 (E:=38) (sz:=6)).swap⟩
theorem zen (h:Own B w0 W (rdB r bv s::ss)) (hb:RdOk w0 B bv bs ss) (hs:s.at_≤65536):
  Calls Tryz.prog 248 #[.pointer (some ⟨r,0,none⟩),.func (.func 206) #[] #[]] W fun e w'=> ∃ao cap,e= .returned (.slice ao (rdL bs (zb0 bs) s).1.length cap)∧(rdL bs (zb0 bs) s).2.at_≤65536∧Own B w0 w' (rdB r bv (rdL bs (zb0 bs) s).2::ownR 177 2 (.slice ao (rdL bs (zb0 bs) s).1.length cap) (rdL bs (zb0 bs) s).1.length ((rdL bs (zb0 bs) s).1.flatMap za2)::ss):=by
 obtain ⟨i0,hi,hz0,hz1,hz2⟩:=info_parts Tryz.infoVote;have HB:=zq hb;have hs1:=(zek (bs:=bs) hs hb.l).1;have HC:=zq (za3 h hb hs);have HL:Hid (rdL bs (zb0 bs) s=if 256<(rdN bs s).1 then ([],⟨(rdN bs s).2.at_,true⟩) else rdGo (zb0 bs) (rdN bs s).1 [] (rdN bs s).2):=zq rfl;generalize rdL bs (zb0 bs) s=res at*;generalize (rdN bs s).1=n at*;generalize (rdN bs s).2=s1 at*;clear h hb hs;go_enter Tryz.func248,Tryz.ntmps248
 go_wp2_with fail
 refine zc2 0 1 (fun a' w'=> ∃(st:Rs) (u1 u2 u3 u4 u5 u6 u7 u8 u9 u10 u11 u12 u13 u14 u15 u16 u17 u18 u19 u20 u21 u22 u23 u24 u25 u26 u27 u28:Value),a'= {tmps:=#[.pointer (some ⟨r,0,none⟩),u1,u2,u3,u4,u5,u6,u7,u8,u9,u10,u11,u12,u13,u14,u15,u16,u17,u18,u19,u20,u21,u22,u23,u24,u25,u26,u27,u28],defers:=[]}∧st.at_≤65536∧res=([],⟨st.at_,true⟩)∧Own B w0 w' (rdB r bv st::ss))
  (fun a' w'=> ∃(acc:List (Int×Int)) (st:Rs) (m:Nat) (ao:Option Addr) (k cap:Nat) (nI:Int) (t2 t3 t7 t8 t9 t10 t11 t12 t13 t14 t15 t16 t17 t18 t19 t20 t21 t22 t23 t24 t25 t26 t27 t28:Value),a'= {tmps:=#[.pointer (some ⟨r,0,none⟩),.func (.func 206) #[] #[],t2,t3,.slice none 0 0,.slice ao k cap,.int .i64 nI,t7,t8,t9,t10,t11,t12,t13,t14,t15,t16,t17,t18,t19,t20,t21,t22,t23,t24,t25,t26,t27,t28],defers:=[]}∧nI=(n:Int)∧k=acc.length∧n=acc.length+m∧n≤256∧st.at_≤65536∧res=rdGo (zb0 bs) m acc st∧Own B w0 w' (rdB r bv st::ownR 177 2 (.slice ao acc.length cap) acc.length (acc.flatMap za2)::ss))
  (fun _ _=>0) (fun a _=>300-lenOf (a.tmps.getD 5 undef)) rfl rfl (by decide) ?_ ?_ ?_
 ·rintro a' w' ⟨st,u1,u2,u3,u4,u5,u6,u7,u8,u9,u10,u11,u12,u13,u14,u15,u16,u17,u18,u19,u20,u21,u22,u23,u24,u25,u26,u27,u28,rfl,hat,hres,ho⟩
  have z2:=zab ho.blk_out 2;have x2:w'.cell? ⟨r,2,none⟩=some (.bool st.bad):=by rw [zac ho.blk_out];rfl
  have HE:=zq (ho.store 2 (.bool true));clear ho
  go_wp2_with fail
  simp only [Exit.two];go_ret
  refine ⟨none,0,?_,?_,?_⟩
  ·rw [hres];rfl
  ·rw [hres];exact hat
  ·rw [hres];exact (HE.out.row0 (E:=177) (sz:=2)).swap
 ·rintro a' w' ⟨acc,st,m,ao,k,cap,nI,t2,t3,t7,t8,t9,t10,t11,t12,t13,t14,t15,t16,t17,t18,t19,t20,t21,t22,t23,t24,t25,t26,t27,t28,rfl,rfl,rfl,hnm,hn,hat,hres,ho⟩
  have x2:w'.cell? ⟨r,2,none⟩=some (.bool st.bad):=by rw [zac ho.blk_out];rfl
  have HO:=zq ho;obtain ⟨at_,bad⟩:=st;simp only at x2 hat;cases bad with
  | true=>
   have HNO:=zq (hres.trans (zjo _ _ _ _ rfl));clear ho hres
   go_wp2_with fail
   go_step3
   exact .inl ⟨rfl,⟨⟨at_,true⟩,_,_,_,_,_,_,_,_,_,_,_,_,_,_,_,_,_,_,_,_,_,_,_,_,_,_,_,_,rfl,hat,HNO.out,HO.out.dropAt 1 (by simp)⟩,by simp [lenOf];omega⟩
  | false=>
   cases m with
   | zero=>
    have hlI:((acc.length:Int)==(n:Int))=true:=by simp;omega
    have HNO:=zq (hres.trans (zgp _ _ _ rfl));clear ho hres
    go_wp2_with fail
    simp only [Exit.two];go_ret
    refine ⟨ao,cap,?_,?_,?_⟩
    ·rw [HNO.out];rfl
    ·rw [HNO.out];exact hat
    ·rw [HNO.out];exact HO.out
   | succ m=>
    have hlI:((acc.length:Int)==(n:Int))=false:=by simp;omega
    have HNX:=zq (hres.trans (zfi _ m acc ⟨at_,false⟩ rfl));have HC1:=zq (vote_any ho (HB.out.sub (by simp+contextual)) hat);clear ho hres
    go_wp2_with fail
    refine HC1.out.mono ?_;rintro e w1 ⟨rfl,hat1,h1⟩;generalize hone:zb0 bs ⟨at_,false⟩=o1 at*;obtain ⟨x,st1⟩:=o1;have hd:=h1.alloc (.cells #[.int .i64 x.1,.int .i64 x.2] 177 (0,0));have HD:=zq hd;have HW:=zq (zam (hd.get 1 rfl));have HNW:Hid (∀j u,(za2 x)[j]?=some u→(w1.alloc (.cells #[.int .i64 x.1,.int .i64 x.2] 177 (0,0))).cell? ((⟨w1.heap.size,0,none⟩:Addr).add j)=some u):=zq (World.news_of_block (heap_alloc_new w1 (.cells #[.int .i64 x.1,.int .i64 x.2] 177 (0,0))));have HON:Hid (∀u∈za2 x,u.oneCell'=true):=zq (voteOne x);have HMX:=zq (small_max' (k:=acc.length) (by omega));have HM4:Hid ((acc.length+1)*16≤140737488355328):=zq (by omega);clear hd h1 HC1 x2
    go_wp2_with (at_builtin;refine wpList_append_lies _ rfl (.tmp 20) (.tmp 24) 40 rfl 0 177 i0 (.agg #[.int .i64 0,.int .i64 0]) 2 16 Tryz.underlying40 hi hz0 hz1 hz2 rfl (by decide) _ acc.length _ rfl HW.out ⟨w1.heap.size,0,none⟩ 1 1 (za2 x) rfl rfl HNW.out HON.out (by decide) HMX.out HM4.out (Nat.zero_le _) _ rfl ?_)
    intro g9 cap9 w9 hown hgrow hat9 hlt9;have h6:=HD.out.growAt 1 rfl hgrow (by simpa using hat9) hown;have HZ:Hid (Own B w0 w9 (rdB r bv st1::ownR 177 2 (.slice (some ⟨g9,0,none⟩) (acc++[x]).length cap9) (acc++[x]).length ((acc++[x]).flatMap za2)::ss)):=zq (by
     have e1:(acc++[x]).flatMap za2=acc.flatMap za2++za2 x:=by rw [List.flatMap_append,zi3]
     have e2:(acc++[x]).length=acc.length+1:=by simp
     rw [e1,e2];exact h6)
    clear hown hgrow hat9 hlt9 h6 HD HW HNW HON HMX HM4 HO
    go_wp2_with fail
    go_step3
    exact .inr ⟨rfl,⟨acc++[x],st1,m,_,_,_,_,_,_,_,_,_,_,_,_,_,_,_,_,_,_,_,_,_,_,_,_,_,_,_,_,rfl,by omega,by simp,by rw [List.length_append];simp;omega,hn,hat1,HNX.out,HZ.out⟩,by simp [lenOf];omega⟩
 ·intro K1
  go_wp2_with fail
  refine HC.out.mono ?_;rintro e w1 ⟨rfl,h1⟩;have H1:=zq h1;clear h1 HC;by_cases hbig:256<n
  ·have hbI:(256:Int)<(n:Int):=by omega
   have HNO:Hid (res=([],⟨s1.at_,true⟩)):=zq (by rw [HL.out,if_pos hbig])
   go_wp2_with fail
   go_step3
   exact .inl ⟨rfl,s1,_,_,_,_,_,_,_,_,_,_,_,_,_,_,_,_,_,_,_,_,_,_,_,_,_,_,_,_,rfl,hs1,HNO.out,H1.out⟩
  ·have hbI:decide ((256:Int)<(n:Int))=false:=by simp;omega
   have HNO:Hid (res=rdGo (zb0 bs) n [] s1):=zq (by rw [HL.out,if_neg hbig])
   go_wp2_with fail
   go_step3
   rename_i hK
   refine hK _ _ ?_;exact K1 _ _ ⟨[],s1,n,none,0,0,_,_,_,_,_,_,_,_,_,_,_,_,_,_,_,_,_,_,_,_,_,_,_,_,_,rfl,rfl,rfl,by simp,by omega,hs1,HNO.out,(H1.out.row0 (E:=177) (sz:=2)).swap⟩
end
end Go.Proofs.YtannckelmojkoaaGreat
