/- Parts of the proof, one behind the other. -/
import Derived.Test.YtannckelmojkoaaGreatPrpB28
set_option maxHeartbeats 32000000
set_option maxRecDepth 100000
set_option linter.unusedVariables false
set_option linter.unusedSimpArgs false
namespace Go.Proofs.YtannckelmojkoaaGreat
open Go.RowKit Go.Heap
theorem zga {a b:Int} (ha:0≤a) (hb:0≤b) (ha2:a<9007199254740992) (hb2:b<9007199254740992) (w:World):Calls Tryz.prog 229 #[mtV (a,b)] w fun e w'=>e= .returned (.tuple #[.int .i64 a,.int .i64 b])∧w=w':=by
 have h1: ∀wx,(convert 347 3 (.float .f64 (FloatKind.f64.nearest a))).run Tryz.prog wx= .ok (.int .i64 a) wx:=fun wx=>run_convert_float_int wx _ _ _ _ _ _ (by kernel_rfl) (by kernel_rfl) (zqj ha ha2);have h2: ∀wx,(convert 347 3 (.float .f64 (FloatKind.f64.nearest b))).run Tryz.prog wx= .ok (.int .i64 b) wx:=fun wx=>run_convert_float_int wx _ _ _ _ _ _ (by kernel_rfl) (by kernel_rfl) (zqj hb hb2);unfold mtV;simp only;clear ha hb ha2 hb2;generalize FloatKind.f64.nearest a=na at*;generalize FloatKind.f64.nearest b=nb at*;go_enter Tryz.func229,Tryz.ntmps229
 go_wp2_with fail
 go_ret2
 exact ⟨rfl,rfl⟩
def MtSm (l:List (Int×Int)):Prop:= ∀q∈l,0≤q.1∧q.1≤1000000∧0≤q.2∧q.2≤1000000000000
def sum1 (l:List (Int×Int)):Int:=(l.map Prod.fst).sum
def sum2 (l:List (Int×Int)):Int:=(l.map Prod.snd).sum
theorem zn3 {α:Type} (g:α→Int) (l:List α) (k:Nat) (hk:k<l.length):((l.take (k+1)).map g).sum=((l.take k).map g).sum+g l[k]:=by
 rw [List.take_succ_eq_append_getElem hk,List.map_append,List.sum_append];simp
theorem zkw {α:Type} (g:α→Int) (m:Int) (hm:0≤m): ∀l:List α,(∀a∈l,0≤g a∧g a≤m)→0≤(l.map g).sum∧(l.map g).sum≤m*l.length
 | [],_=>by simp
 | a::l,h=>by
  have ih:=zkw g m hm l (fun b hb=>h b (List.mem_cons_of_mem _ hb));have ha:=h a List.mem_cons_self;simp only [List.map_cons,List.sum_cons,List.length_cons];rw [Int.natCast_add,Int.mul_add];omega
theorem zta {l:List (Int×Int)} (h:MtSm l) (hl:l.length≤100):0≤sum1 l∧sum1 l≤100000000:=by
 have:=zkw Prod.fst 1000000 (by omega) l (fun q hq=>⟨(h q hq).1,(h q hq).2.1⟩);unfold sum1;omega
theorem ztb {l:List (Int×Int)} (h:MtSm l) (hl:l.length≤100):0≤sum2 l∧sum2 l≤100000000000000:=by
 have:=zkw Prod.snd 1000000000000 (by omega) l (fun q hq=>⟨(h q hq).2.2.1,(h q hq).2.2.2⟩);unfold sum2;omega
theorem MtSm.take {l:List (Int×Int)} (h:MtSm l) (k:Nat):MtSm (l.take k):=fun q hq=>h q (List.mem_of_mem_take hq)
section
variable {w:World} {b o cap:Nat} {l:List (Int×Int)}
theorem zn9 (h: ∀k,(hk:k<l.length)→w.cell? ⟨b,o+k,none⟩=some (mtV l[k])) (hs:MtSm l) (hl:l.length≤100):Calls Tryz.prog 230 #[.slice (some ⟨b,o,none⟩) l.length cap] w fun e w'=>e= .returned (mtV (sum1 l,sum2 l))∧w=w':=by
 have hz:(0:Nat)=FloatKind.f64.nearest 0:=zm9.symm;go_enter Tryz.func230,Tryz.ntmps230
 go_wp2_with fail
 go_loop [3,8] (fun z i=> ∃k:Nat,k≤l.length∧i= .int .i64 k∧z=mtV (sum1 (l.take k),sum2 (l.take k))) (fun _ i=>l.length-(intOf i).toNat)
 case atStart=>exact ⟨0,by omega,rfl,by simp [sum1,sum2,mtV,zm9]⟩
 case round=>
  obtain ⟨k,hk,rfl,rfl⟩:=hrel;have hk0:(0:Int)≤k:=by omega
  by_cases hlt:k<l.length
  ·have hkI:(k:Int)<(l.length:Int):=by omega
   have hc:=h k hlt;have hq:=hs l[k] (List.getElem_mem hlt);have g1:=zta (hs.take k) (by simp;omega);have g2:=ztb (hs.take k) (by simp;omega);have e1:sum1 (l.take (k+1))=sum1 (l.take k)+l[k].1:=zn3 Prod.fst l k hlt;have e2:sum2 (l.take (k+1))=sum2 (l.take k)+l[k].2:=zn3 Prod.snd l k hlt;have E1:=zq e1;have E2:=zq e2;clear h hs e1 e2 hz;generalize sum1 (l.take k)=p at*;generalize sum2 (l.take k)=q at*;generalize hu:l[k]=u at*;obtain ⟨a,c⟩:=u;simp only at hq;have hsum: ∀wx,(binOp .add 269 (.complex .f64 (FloatKind.f64.nearest p) (FloatKind.f64.nearest q)) (.complex .f64 (FloatKind.f64.nearest a) (FloatKind.f64.nearest c))).run Tryz.prog wx= .ok (.complex .f64 (FloatKind.f64.nearest (p+a)) (FloatKind.f64.nearest (q+c))) wx:=fun wx=>
    run_complex_sum wx .add (.inl rfl) _ _ _ _ _ _ _ _ (fl_csum (by omega) (by omega) (by omega) (by omega) (by omega) (by omega))
   unfold mtV at hc⊢;simp only at hc⊢;clear hu hq g1 g2;have HE:Hid (Value.complex .f64 (FloatKind.f64.nearest (p+a)) (FloatKind.f64.nearest (q+c))=mtV (sum1 (l.take (k+1)),sum2 (l.take (k+1)))):=zq (by rw [E1.out,E2.out]);clear E1 E2;generalize FloatKind.f64.nearest p=np at*;generalize FloatKind.f64.nearest q=nq at*;generalize FloatKind.f64.nearest a=na at*;generalize FloatKind.f64.nearest c=nc at*;generalize FloatKind.f64.nearest (p+a)=npa at*;generalize FloatKind.f64.nearest (q+c)=nqc at*
   go_wp2_with fail
   go_round
   case rel=>exact ⟨k+1,by omega,by go_num,HE.out⟩
   case measure=>simp [intOf];omega
  ·obtain rfl:k=l.length:=by omega
   have hkI:decide ((l.length:Int)<(l.length:Int))=false:=by simp
   rw [List.take_length];unfold mtV
   go_wp2_with fail
   go_ret
   exact ⟨rfl,rfl⟩
theorem slow_any {z:Int×Int} {num den:Int} (h: ∀k,(hk:k<l.length)→w.cell? ⟨b,o+k,none⟩=some (mtV l[k])) (hs:MtSm (z::l)) (hl:l.length≤100) (hl0:0<l.length) (h1:0≤num∧num≤8) (h2:0≤den∧den≤8):
  Calls Tryz.prog 172 #[.int .i64 num,.int .i64 den,mtV z,.slice (some ⟨b,o,none⟩) l.length cap] w fun e w'=>e= .returned (.bool (decide (z.1*den*l.length<num*sum1 l)))∧w=w':=by
 obtain ⟨z1,z2⟩:=z;have hs':MtSm l:=fun q hq=>hs q (List.mem_cons_of_mem _ hq);have hz:=hs (z1,z2) List.mem_cons_self;have g1:=zta hs' hl;have g2:=ztb hs' hl;have HT:=zq (zn9 (cap:=cap) h hs' hl);simp only at hz;have HP:=zq (fun w=>zga (a:=z1) (b:=z2) hz.1 hz.2.2.1 (by omega) (by omega) w);have HQ:=zq (fun w=>zga (a:=sum1 l) (b:=sum2 l) g1.1 g2.1 (by omega) (by omega) w);obtain ⟨hz1,hz2,-,-⟩:=hz;clear h hs hs' g2;generalize sum1 l=m at*;generalize sum2 l=m2 at*;generalize mtV (z1,z2)=mz at*;generalize mtV (m,m2)=mq at*;have hlz:((l.length:Int)==0)=false:=by rw [beq_eq_false_iff_ne];omega
 have hn0:(0:Int)≤(l.length:Int):=by omega
 have hn1:(l.length:Int)≤100:=by omega
 have p1:0≤z1*den∧z1*den≤8000000:=⟨Int.mul_nonneg hz1 h2.1,by have:=Int.mul_le_mul hz2 h2.2 h2.1 (by omega:(0:Int)≤1000000);omega⟩;have p2:0≤z1*den*(l.length:Int)∧z1*den*(l.length:Int)≤800000000:=⟨Int.mul_nonneg p1.1 hn0,by have:=Int.mul_le_mul p1.2 hn1 hn0 (by omega:(0:Int)≤8000000);omega⟩;have p3:0≤num*m∧num*m≤800000000:=⟨Int.mul_nonneg h1.1 g1.1,by have:=Int.mul_le_mul h1.2 g1.2 g1.1 (by omega:(0:Int)≤8);omega⟩;have q1:IntKind.i64.wrap (z1*den)=z1*den:=IntWalk.i64_in _ (by omega);have q2:IntKind.i64.wrap (z1*den*(l.length:Int))=z1*den*(l.length:Int):=IntWalk.i64_in _ (by omega);have q3:IntKind.i64.wrap (num*m)=num*m:=IntWalk.i64_in _ (by omega);go_enter Tryz.func172,Tryz.ntmps172
 go_wp2_with fail
 refine (HP.out _).mono ?_;rintro e w' ⟨rfl,rfl⟩
 go_wp2_with fail
 refine HT.out.mono ?_;rintro e w' ⟨rfl,rfl⟩
 go_wp2_with fail
 refine (HQ.out _).mono ?_;rintro e w' ⟨rfl,rfl⟩
 go_wp2_with fail
 go_ret
 exact ⟨rfl,rfl⟩
end
def lateK (om:Int) (z:Int×Int) (l:List (Int×Int)):Bool:=decide (0<z.1)&&(decide (0<sum1 l)&&decide (sum2 l*z.1+om*z.1*sum1 l<z.2*sum1 l))
section
variable {w:World} {b o cap:Nat} {l:List (Int×Int)}
theorem zzl {z:Int×Int} {om:Int} (h: ∀k,(hk:k<l.length)→w.cell? ⟨b,o+k,none⟩=some (mtV l[k])) (hs:MtSm (z::l)) (hl:l.length≤100) (hl0:0<l.length) (h1:0≤om∧om≤64) (hz1:z.1≤1000) (hz2:z.2≤1000000000) (hm1:sum1 l≤1000) (hm2:sum2 l≤1000000000):
  Calls Tryz.prog 173 #[.int .i64 om,mtV z,.slice (some ⟨b,o,none⟩) l.length cap] w fun e w'=>e= .returned (.bool (lateK om z l))∧w=w':=by
 obtain ⟨n,t⟩:=z;have hs':MtSm l:=fun q hq=>hs q (List.mem_cons_of_mem _ hq);have hz:=hs (n,t) List.mem_cons_self;have g1:=zta hs' hl;have g2:=ztb hs' hl;have HT:=zq (zn9 (cap:=cap) h hs' hl);simp only at hz hz1 hz2;obtain ⟨hn0,-,ht0,-⟩:=hz;have HP:=zq (fun w=>zga (a:=n) (b:=t) hn0 ht0 (by omega) (by omega) w);have HQ:=zq (fun w=>zga (a:=sum1 l) (b:=sum2 l) g1.1 g2.1 (by omega) (by omega) w);unfold lateK;simp only;have g1:=g1.1;have g2:=g2.1;clear h hs hs';generalize sum1 l=m at*;generalize sum2 l=u at*;generalize mtV (n,t)=mz at*;generalize mtV (m,u)=mq at*;have hlz:((l.length:Int)==0)=false:=by rw [beq_eq_false_iff_ne];omega
 have p1:0≤t*m∧t*m≤1000000000000:=⟨Int.mul_nonneg ht0 g1,by have:=Int.mul_le_mul hz2 hm1 g1 (by omega:(0:Int)≤1000000000);omega⟩;have p2:0≤u*n∧u*n≤1000000000000:=⟨Int.mul_nonneg g2 hn0,by have:=Int.mul_le_mul hm2 hz1 hn0 (by omega:(0:Int)≤1000000000);omega⟩;have p3:0≤om*n∧om*n≤64000:=⟨Int.mul_nonneg h1.1 hn0,by have:=Int.mul_le_mul h1.2 hz1 hn0 (by omega:(0:Int)≤64);omega⟩;have p4:0≤om*n*m∧om*n*m≤64000000:=⟨Int.mul_nonneg p3.1 g1,by have:=Int.mul_le_mul p3.2 hm1 g1 (by omega:(0:Int)≤64000);omega⟩;have q1:IntKind.i64.wrap (t*m)=t*m:=IntWalk.i64_in _ (by omega);have q2:IntKind.i64.wrap (u*n)=u*n:=IntWalk.i64_in _ (by omega);have q3:IntKind.i64.wrap (om*n)=om*n:=IntWalk.i64_in _ (by omega);have q4:IntKind.i64.wrap (om*n*m)=om*n*m:=IntWalk.i64_in _ (by omega);have q5:IntKind.i64.wrap (u*n+om*n*m)=u*n+om*n*m:=IntWalk.i64_in _ (by omega);clear p1 p2 p3 p4;by_cases hn:n≤0
 ·have e1:decide (0<n)=false:=by simp;omega
  have e2:decide (n≤0)=true:=by simp;omega
  rw [e1,Bool.false_and];clear hn e1;go_enter Tryz.func173,Tryz.ntmps173
  go_wp2_with fail
  refine zc7 0 (fun a' w'=> ∃u:Nat→Value,a'= {tmps:=#[u 0,u 1,u 2,u 3,u 4,u 5,u 6,u 7,u 8,u 9,u 10,u 11,u 12,u 13,u 14,u 15,u 16,u 17,u 18,u 19,u 20,u 21,u 22,u 23,u 24,u 25,u 26,u 27,u 28,u 29,u 30,u 31,u 32,u 33,u 34,u 35,u 36,u 37,u 38,u 39,u 40,u 41,u 42,u 43],defers:=[]}∧w'=w) rfl ?_ ?_
  ·go_wp2_with fail
   with_reducible refine (HP.out _).mono ?_
   rintro e w' ⟨rfl,rfl⟩
   go_wp2_with fail
   with_reducible refine HT.out.mono ?_
   rintro e w' ⟨rfl,rfl⟩
   go_wp2_with fail
   with_reducible refine (HQ.out _).mono ?_
   rintro e w' ⟨rfl,rfl⟩
   go_wp2_with fail
   go_step3
   exact ⟨rfl,zb2 _ (by kernel_rfl) rfl⟩
  ·rintro a' w' ⟨u,rfl,rfl⟩
   go_wp2_with fail
   simp only [Exit.noGoto];go_ret
   exact ⟨rfl,rfl⟩
 ·have e1:decide (0<n)=true:=by simp;omega
  have e2:decide (n≤0)=false:=by simp;omega
  rw [e1,Bool.true_and];clear hn e1;by_cases hm:m≤0
  ·have e3:decide (0<m)=false:=by simp;omega
   have e4:decide (m≤0)=true:=by simp;omega
   rw [e3,Bool.false_and];clear hm e3;go_enter Tryz.func173,Tryz.ntmps173
   go_wp2_with fail
   refine zc7 0 (fun a' w'=> ∃u:Nat→Value,a'= {tmps:=#[u 0,u 1,u 2,u 3,u 4,u 5,u 6,u 7,u 8,u 9,u 10,u 11,u 12,u 13,u 14,u 15,u 16,u 17,u 18,u 19,u 20,u 21,u 22,u 23,u 24,u 25,u 26,u 27,u 28,u 29,u 30,u 31,u 32,u 33,u 34,u 35,u 36,u 37,u 38,u 39,u 40,u 41,u 42,u 43],defers:=[]}∧w'=w) rfl ?_ ?_
   ·go_wp2_with fail
    with_reducible refine (HP.out _).mono ?_
    rintro e w' ⟨rfl,rfl⟩
    go_wp2_with fail
    with_reducible refine HT.out.mono ?_
    rintro e w' ⟨rfl,rfl⟩
    go_wp2_with fail
    with_reducible refine (HQ.out _).mono ?_
    rintro e w' ⟨rfl,rfl⟩
    go_wp2_with fail
    go_step3
    exact ⟨rfl,zb2 _ (by kernel_rfl) rfl⟩
   ·rintro a' w' ⟨u,rfl,rfl⟩
    go_wp2_with fail
    simp only [Exit.noGoto];go_ret
    exact ⟨rfl,rfl⟩
  ·have e3:decide (0<m)=true:=by simp;omega
   have e4:decide (m≤0)=false:=by simp;omega
   rw [e3,Bool.true_and];clear hm e3;go_enter Tryz.func173,Tryz.ntmps173
   go_wp2_with fail
   refine zc7 0 (fun a' w'=>False) rfl ?_ (fun _ _ h=>h.elim)
   go_wp2_with fail
   with_reducible refine (HP.out _).mono ?_
   rintro e w' ⟨rfl,rfl⟩
   go_wp2_with fail
   with_reducible refine HT.out.mono ?_
   rintro e w' ⟨rfl,rfl⟩
   go_wp2_with fail
   with_reducible refine (HQ.out _).mono ?_
   rintro e w' ⟨rfl,rfl⟩
   go_wp2_with fail
   simp only [Exit.one];go_ret
   exact ⟨rfl,rfl⟩
def slowK (c:Cf) (z:Int×Int) (l:List (Int×Int)):Bool:=decide (z.1*c.de*l.length<c.nu*sum1 l)
theorem ztn {c:Cf} {z:Int×Int} {l:List (Int×Int)} (hl:0<l.length):zcu c (z::l)=(slowK c z l || lateK c.om z l):=by
 have he:l.isEmpty=false:=by cases l with | nil=>simp at hl | cons=>rfl
 unfold zcu slowP lateP slowK lateK sum1 sum2;simp only [he];simp
abbrev cfB (c:Cf):Obj:= .cells (cfA c) 30 (0,0)
theorem zpo {c:Cf} (hc:CfOk c) {z:Int×Int} {g:Nat} (hcap:l.length+1≤cap) (h0:w.cell? ⟨g,0,none⟩=some (mtV z)) (h: ∀k,(hk:k<l.length)→w.cell? ⟨g,1+k,none⟩=some (mtV l[k])) (hs:MtSm (z::l)) (hl:l.length≤100) (hl0:0<l.length) (hz1:z.1≤1000) (hz2:z.2≤1000000000) (hm1:sum1 l≤1000) (hm2:sum2 l≤1000000000):
  Calls Tryz.prog 94 #[.agg (cfA c),.slice (some ⟨g,0,none⟩) (l.length+1) cap] w fun e w'=>e= .returned (.bool (zcu c (z::l)))∧Upd [] w w':=by
 rw [ztn hl0];have hg:g<w.heap.size:=Held.cell_size h0;have H:=zq ((Own.start (Below.refl w.heap.size w) (Nat.le_refl _)).box (cfB c));have HS:=zq (fun (W:World) (h: ∀k,(hk:k<l.length)→W.cell? ⟨g,1+k,none⟩=some (mtV l[k]))=>slow_any (o:=1) (z:=z) (num:=c.nu) (den:=c.de) (cap:=cap-1) h hs hl hl0 ⟨hc.nu1,hc.nu2⟩ ⟨by have:=hc.de1;omega,hc.de2⟩);have HL:=zq (fun (W:World) (h: ∀k,(hk:k<l.length)→W.cell? ⟨g,1+k,none⟩=some (mtV l[k]))=>zzl (o:=1) (z:=z) (om:=c.om) (cap:=cap-1) h hs hl hl0 ⟨hc.om1,hc.om2⟩ hz1 hz2 hm1 hm2);have HH:=zq h;obtain ⟨sl,hsl⟩: ∃b,b=slowK c z l:=⟨_,rfl⟩;obtain ⟨la,hla⟩: ∃b,b=lateK c.om z l:=⟨_,rfl⟩;have HS:Hid (∀(W:World),(∀k,(hk:k<l.length)→W.cell? ⟨g,1+k,none⟩=some (mtV l[k]))→Calls Tryz.prog 172 #[.int .i64 c.nu,.int .i64 c.de,mtV z,.slice (some ⟨g,1,none⟩) l.length (cap-1)] W fun e w'=>e= .returned (.bool sl)∧W=w'):=zq (by rw [hsl];exact HS.out);rw [←hla] at HL;rw [←hsl,←hla];have H0:=zq h0;clear hsl hla h hs hm1 hm2 hz1 hz2 h0;have hlz:((l.length:Int)+1==0)=false:=by rw [beq_eq_false_iff_ne];omega
 have hl1:(1:Int)≤(l.length:Int)+1:=by omega
 have hl2:(0:Int)<(l.length:Int)+1:=by omega
 have hcI:(l.length:Int)+1≤(cap:Int):=by omega
 generalize mtV z=mz at*;go_enter Tryz.func94,Tryz.ntmps94
 go_wp2_with fail
 generalize World.alloc w _=w1 at*;have x0:w1.cell? ⟨g,0,none⟩=some mz:=(H.out.below.cell hg).trans H0.out;have HX:Hid (∀n k,(hk:k<l.length)→(w1.drewN n).cell? ⟨g,1+k,none⟩=some (mtV l[k])):=zq (fun n k hk=>(H.out.below.cell hg).trans (HH.out k hk));have y8:=zaa (H.out.blkAt 0 rfl) 8 (v:= .int .i64 c.nu) rfl;have y9:=zaa (H.out.blkAt 0 rfl) 9 (v:= .int .i64 c.de) rfl;have y11:=zaa (H.out.blkAt 0 rfl) 11 (v:= .int .i64 c.om) rfl;refine zc7 1 (fun a' w'=> ∃u:Nat→Value,a'= {tmps:=#[u 0,u 1,u 2,u 3,u 4,u 5,u 6,u 7,u 8,u 9,u 10,u 11,u 12,u 13,u 14,u 15,u 16,u 17,u 18,u 19,u 20,u 21,u 22,u 23,u 24,u 25],defers:=[]}∧(sl || la)=true∧Upd [] w w') rfl ?_ ?_
 ·cases sl with
  | true=>
   go_wp2_with fail
   go_quiet ((go_at_call 172;exact zas (HS.out _ (HX.out _))))
   go_wp2_with fail
   go_step3
   exact ⟨rfl,zb2 _ (by kernel_rfl) ⟨rfl,Upd.of_below (H.out.upd0 ((Upd.refl _ _).drewN _)).below⟩⟩
  | false=>
   go_wp2_with fail
   go_quiet ((go_at_call 172;exact zas (HS.out _ (HX.out _))))
   go_wp2_with fail
   generalize hw2:World.drewN w1 _=w2;have HX2:Hid (∀n k,(hk:k<l.length)→(w2.drewN n).cell? ⟨g,1+k,none⟩=some (mtV l[k])):=zq (by rw [←hw2];exact fun n k hk=>HX.out 0 k hk);have x0:w2.cell? ⟨g,0,none⟩=some mz:=by rw [←hw2];exact x0
   have H2:Hid (Own w.heap.size w w2 [blk w.heap.size (cfB c)]):=zq (by rw [←hw2];exact H.out.upd0 ((Upd.refl _ _).drewN _));have y11:=zaa (H2.out.blkAt 0 rfl) 11 (v:= .int .i64 c.om) rfl;clear hw2 HX H;cases la with
   | true=>
    go_quiet ((go_at_call 173;exact zas (HL.out _ (HX2.out _))))
    go_wp2_with fail
    go_step3
    exact ⟨rfl,zb2 _ (by kernel_rfl) ⟨rfl,Upd.of_below (H2.out.upd0 ((Upd.refl _ _).drewN _)).below⟩⟩
   | false=>
    go_quiet ((go_at_call 173;exact zas (HL.out _ (HX2.out _))))
    go_wp2_with fail
    go_step3
    go_wp2_with fail
    simp only [Exit.one];go_ret
    exact ⟨rfl,Upd.of_below (H2.out.upd0 ((Upd.refl _ _).drewN _)).below⟩
 ·rintro a' w' ⟨u,rfl,hb,hu⟩
  have HB:=zq hb;have HU:=zq hu;clear hb hu
  go_wp2_with fail
  simp only [Exit.noGoto];go_ret
  exact ⟨by rw [HB.out];rfl,HU.out⟩
end
section
variable {B:Nat} {w0 W:World} {ss rs:List Res} {c g cap:Nat} {l:List (Int×Int)} {A:List Nat} {y:Lg}
end
theorem mod_r (F:Td→Td) (hF: ∀t,(F t).r=t.r) (l:List Td) (k:Nat):(l.modify k F).map (·.r)=l.map (·.r):=by
 refine List.ext_getElem? (fun j=> ?_);rw [List.getElem?_map,List.getElem?_modify,List.getElem?_map];cases l[j]? with
 | none=>rfl
 | some t=>
  simp only [Option.map_eq_map,Option.map_some];split
  ·rw [hF]
  ·rfl
theorem cnt_r (l:List Td) (c:Int):l.countP (fun t=>t.r.client==c)=(l.map (·.r)).countP (fun r=>r.client==c):=by rw [List.countP_map];rfl
theorem mod_mem {α:Type} {F:α→α} {l:List α} {k:Nat} {t:α} (h:t∈l.modify k F):t∈l∨ ∃u∈l,t=F u:=by
 obtain ⟨j,hj⟩:=List.mem_iff_getElem?.1 h;rw [List.getElem?_modify] at hj;cases hu:l[j]? with
 | none=>rw [hu] at hj;simp at hj
 | some u=>
  rw [hu] at hj;simp only [Option.map_eq_map,Option.map_some,Option.some.injEq] at hj;have hm:=List.mem_of_getElem? hu;split at hj
  ·exact .inr ⟨u,hm,hj.symm⟩
  ·exact .inl (hj ▸ hm)
theorem tell_r (f node:Nat) (clock:Int) (t:Td):(tellT f node clock t).r=t.r:=by unfold tellT;dsimp only;split<;>rfl
theorem tell_by (f node:Nat) (clock:Int) (t:Td):(tellT f node clock t).by_.length=t.by_.length:=by unfold tellT;dsimp only;split<;>simp
theorem zti (f node:Nat) (clock:Int) (t:Td):(tellT f node clock t).since=t.since∨(tellT f node clock t).since=clock:=by
 unfold tellT
 dsimp only
 split
 ·exact .inr rfl
 ·exact .inl rfl
theorem ins_cnt (l:List Td) (r:Rq) (c:Int):(tabIn l r).countP (fun t=>t.r.client==c)≤l.countP (fun t=>t.r.client==c)+if tabIs l r=false∧r.client=c then 1 else 0:=by
 unfold tabIn;cases h:tabIs l r with
 | true=>simp
 | false=>
  have e:=ze2 l (tabK l r) (newTd r) (zkz l r);simp only [Bool.false_eq_true,if_false];rw [e,List.countP_append,List.countP_cons];have e2:l.countP (fun t=>t.r.client==c)=(l.take (tabK l r)).countP (fun t=>t.r.client==c)+(l.drop (tabK l r)).countP (fun t=>t.r.client==c):=by rw [←List.countP_append,List.take_append_drop]
  rw [e2];have e3:((newTd r).r.client==c)=(r.client==c):=rfl;rw [e3];by_cases hc:r.client=c
  ·simp [hc];omega
  ·simp [hc]
theorem ins_mem {l:List Td} {r:Rq} {t:Td} (h:t∈tabIn l r):t∈l∨t=newTd r:=by
 unfold tabIn at h;split at h
 ·exact .inl h
 ·rw [ze2 l (tabK l r) (newTd r) (zkz l r)] at h
  rcases List.mem_append.1 h with h | h
  ·exact .inl (List.mem_of_mem_take h)
  ·rcases List.mem_cons.1 h with h | h
   ·exact .inr h
   ·exact .inl (List.mem_of_mem_drop h)
theorem zwt {f:Nat} {cl:Int} {l:List Td} {r:Rq} {node clock:Int} (h:TabOk cl l) (hc0:0≤r.client) (hc1:r.client<cl) (h0:0≤clock) (h1:clock≤1048576):TabOk cl (zet f cl l r node clock):=by
 unfold zet;split
 ·rename_i he
  have hfull:zee l r=false:=by
   unfold tabE at he;cases hf:zee l r with
   | false=>rfl
   | true=>rw [hf] at he;split at he<;>simp at he
  refine ⟨fun t ht=> ?_,fun c=> ?_⟩
  ·have hin: ∀u∈tabIn l r,0≤u.r.client∧u.r.client<cl∧u.by_.length=13∧0≤u.since∧u.since≤1048576:=fun u hu=>by
    rcases ins_mem hu with hu | hu
    ·exact h.c u hu
    ·subst hu;exact ⟨hc0,hc1,zds r,(by show (0:Int)≤0;omega),(by show (0:Int)≤1048576;omega)⟩
   rcases mod_mem ht with ht | ⟨u,hu,rfl⟩
   ·exact hin t ht
   ·obtain ⟨g1,g2,g3,g4,g5⟩:=hin u hu
    rw [tell_r,tell_by];refine ⟨g1,g2,g3,?_⟩;rcases zti f node.toNat clock u with e | e<;>rw [e]
    ·exact ⟨g4,g5⟩
    ·exact ⟨h0,h1⟩
  ·rw [cnt_r,mod_r _ (tell_r f node.toNat clock),←cnt_r]
   have hi:=ins_cnt l r c;have hn:=h.n c;by_cases hx:tabIs l r=false∧r.client=c
   ·rw [if_pos hx] at hi
    unfold zee at hfull;rw [hx.1] at hfull;simp only [Bool.not_false,Bool.true_and,decide_eq_false_iff_not] at hfull;rw [hx.2] at hfull;omega
   ·rw [if_neg hx] at hi
    omega
 ·exact h
section
variable {B:Nat} {w0 w W W':World} {ss rs:List Res} {x:Np} {s s':Ns} {l l':Nt}
theorem nd_has (h:NdIs B w0 W x s l ss) (r:Rq) (node:Int):Calls Tryz.prog 165 #[ptrV x.tb,rqAgg r,.int .i64 node] W fun e w'=>e= .returned (.bool (zcl s.tab r node))∧Upd [] W w':=by
 obtain ⟨tv,htb⟩:=h.tbAt;exact zwv htb (Nat.le_trans (zhf h.ok.tab h.ok.c.cl2) (by omega)) r node
theorem zrk (h:NdIs B w0 W x s l ss) (r:Rq) (hc0:0≤r.client) (hc1:r.client<s.c.cl) (node:Nat) (hn:node≤3*s.c.f):
  Calls Tryz.prog 234 #[ptrV x.tb,rqAgg r,.int .i64 node,.int .i64 s.now] W fun e w'=>(∃b1 b2:Bool,e= .returned (.tuple #[.bool b1,.bool b2,.int .i64 (tabE s.c.f s.c.cl s.tab r node)]))∧NdIs B w0 w' x (putT s r node) l ss:=by
 obtain ⟨v,rr,cc,d,g⟩:=h.lens 2 (by omega) (by omega);have hok:=h.ok;have d1:Own B w0 W (blk x.tb (tabOb s.c.f s.c.cl v.tv)::tdR v.tv s.tab::(ss++rr)):=Own.open d;refine (zww d1 (fun q hq=>(hok.tab.c q hq).2.2.1) (Nat.le_trans (zhf hok.tab hok.c.cl2) (by omega)) hok.c.f1 hok.c.f2 r hc0 hc1 node s.now hn).mono ?_;rintro e w' ⟨he,v',ho⟩;exact ⟨he,g w' (putT s r node) {v with tv:=v'} ss (joinR (tabL x.tb s.c.f s.c.cl v' (zet s.c.f s.c.cl s.tab r node s.now))) {hok with tab:=zwt hok.tab hc0 hc1 hok.now0 hok.now1} {cc with} rfl (Own.shut (rs:=tabL x.tb s.c.f s.c.cl v' (zet s.c.f s.c.cl s.tab r node s.now)) ho)⟩
theorem nd_last (h:NdIs B w0 W x s l ss) (k:Int) (h0:0≤k) (h1:k<s.c.cl):Calls Tryz.prog 58 #[ptrV x.bk,.int .i64 k] W fun e w'=>e= .returned (.int .i64 (lastL s.bk k))∧W=w':=by
 obtain ⟨v,rr,c,d,g⟩:=h.lens 5 (by omega) (by omega);have hok:=h.ok;have d1:Own B w0 W (lgL v.lg++(ss++rr)):=Own.open d;obtain ⟨k,rfl⟩:=Int.eq_ofNat_of_zero_le h0;have hrp:v.lg.rp=s.bk.rp:=by rw [←c.lg];rfl
 have hk:k<v.lg.rp.length:=by rw [hrp,hok.bkn];omega
 have:=zu5 d1 c.lo k hk;rw [c.lp] at this;refine this.mono ?_;rintro e w' ⟨he,rfl⟩;refine ⟨?_,rfl⟩;rw [he];unfold lastL;have hk2:k<s.bk.rp.length:=by rw [←hrp];exact hk
 rw [if_pos ⟨h0,by omega⟩,Int.toNat_natCast,List.getD_eq_getElem?_getD,List.getElem?_eq_getElem hk2];simp [hrp]
end
section
variable {m:Ms} {p:NSt} {r:Rq}
theorem rq_bad (hr:m.rs=[r]) (h:rqSealed p.2 p.1.c.cl r=false):zbw m p=(3,p):=by unfold zbw;simp only [hr,List.headD_cons,h];rfl
theorem rq_old (hr:m.rs=[r]) (h:rqSealed p.2 p.1.c.cl r=true) (h2:r.time≤lastL p.1.bk r.client) (h3:m.kind≠1∨r.time≠lastL p.1.bk r.client):zbw m p=(1,p):=by
 unfold zbw;simp only [hr,List.headD_cons,h,Bool.not_true,Bool.false_eq_true,if_false];rw [if_pos h2,if_pos h3]
theorem rq_two (hr:m.rs=[r]) (h:rqSealed p.2 p.1.c.cl r=true) (hk:m.kind=2) (h2: ¬r.time≤lastL p.1.bk r.client):zbw m p=if zcl p.1.tab r m.fm then (1,p) else if zcl p.1.tab r p.1.id then (0,(putT p.1 r m.fm,p.2)) else if tabE p.1.c.f p.1.c.cl p.1.tab r p.1.id≠0 then (2,p) else (0,(putT (propS (putT p.1 r p.1.id,p.2) r).1 r m.fm,(propS (putT p.1 r p.1.id,p.2) r).2)):=by
 unfold zbw;simp only [hr,List.headD_cons,h,Bool.not_true,Bool.false_eq_true,if_false];rw [if_neg h2];simp only [hk];cases h3:zcl p.1.tab r m.fm<;>cases h4:zcl p.1.tab r p.1.id<;>simp [h3,h4]
theorem putT_no {s:Ns} (h:tabE s.c.f s.c.cl s.tab r s.id≠0):putT s r s.id=s:=by
 unfold putT zet;rw [if_neg h]
end
theorem zwg {l:Nt} {cl:Int} {r:Rq} (h:rqSealed l cl r=true):0≤r.client∧r.client<cl∧1≤r.time∧r.time≤1048576:=by
 unfold rqSealed at h;simp only [Bool.and_eq_true] at h;have h1:=h.1;unfold okReq inW at h1;simp only [Bool.and_eq_true,decide_eq_true_eq] at h1;obtain ⟨⟨⟨⟨⟨h2,h3⟩,⟨h4,h5⟩⟩,-⟩,-⟩,-⟩:=h1;exact ⟨h2,by omega,h4,h5⟩
section
variable {B:Nat} {w0 w W W':World} {ss rs:List Res} {x:Np} {s s':Ns} {l l':Nt}
theorem zit (h:NdIs B w0 W x s l ss) (r:Rq) (hn:l.length≤900000000) (ho:s.out.length≤900000000):
  Calls Tryz.prog 166 #[ptrV x.p,rqAgg r] W fun e w'=>e= .returned (.tuple #[])∧NdIs B w0 w' x (propS (s,l) r).1 (propS (s,l) r).2 ss:=by
 obtain ⟨fin,hfin⟩: ∃fin,fin=propS (s,l) r:=⟨_,rfl⟩;rw [←hfin];obtain ⟨mm,hmm⟩: ∃mm:Value→Mm,mm=fun v=>batMm 2 0 0 0 v [r]:=⟨_,rfl⟩;have HS:Hid (∀W' (v:Value),NdIs B w0 W' x s l (mmR (batMm 2 0 0 0 v [r]) ss)→Calls Tryz.prog 160 #[ptrV x.p,.agg (mmA (batMm 2 0 0 0 v [r]))] W' fun e w'=>e= .returned (.tuple #[.int .i64 (sendN (s,l) (prgM r)),.bool (sendB (s,l) (prgM r))])∧NdIs B w0 w' x fin.1 fin.2 ss):=zq (fun W' v h=>by
  refine (ziu h (zlk (by simp)) hn ho).mono ?_;rintro e w' ⟨he,h2⟩;have h3:=zhz h2;rw [hfin];exact ⟨he,h3⟩)
 have H1:=zq (h.box (rqO r));clear hfin h hmm mm;unfold rqAgg;go_enter Tryz.func166,Tryz.ntmps166
 go_upto_region 1 with fail
 generalize W.heap.size=e0 at*;generalize World.alloc W _=w1 at*;obtain ⟨rr,hr,hk⟩:=H1.out.side;have b0:=zaa (hr.blkAt 0 rfl) 0 rfl;have b1:=zaa (hr.blkAt 0 rfl) 1 rfl;have b2:=zaa (hr.blkAt 0 rfl) 2 rfl;have b3:=zaa (hr.blkAt 0 rfl) 3 rfl;have b4:=zaa (hr.blkAt 0 rfl) 4 rfl;have b5:=zaa (hr.blkAt 0 rfl) 5 rfl;have H2:Hid (NdIs B w0 (w1.alloc (rqO r)) x s l (mmR (batMm 2 0 0 0 (.slice (some ⟨w1.heap.size,0,none⟩) 1 1) [r]) ss)):=zq (hk _ (mmR (batMm 2 0 0 0 (.slice (some ⟨w1.heap.size,0,none⟩) 1 1) [r]) ss) (znl hr.drop r));have HC:=zq (HS.out _ _ H2.out);generalize sendN (s,l) (prgM r)=sn at*;generalize sendB (s,l) (prgM r)=sb at*;clear hr hk H2 H1 HS
 go_wp2_with fail
 with_reducible refine HC.out.mono ?_
 rintro e w2 ⟨rfl,h2⟩;have HF:=zq h2;clear h2 HC b0 b1 b2 b3 b4 b5
 go_wp2_with fail
 refine bodyPost_end (results_none rfl _ _ _) rfl ?_;exact ⟨rfl,HF.out⟩
theorem zro {m:Mm} (h:NdIs B w0 W x s l (mmR m ss)) (hr1:m.rs.length=1) (hk:m.kind=2) (hfm:0≤m.fm∧m.fm≤3*s.c.f) (hn:l.length≤300000000) (ho:s.out.length≤300000000):
  Calls Tryz.prog 176 #[ptrV x.p,.agg (mmA m)] W fun e w'=>e= .returned (.int .i64 (zbw m.ms (s,l)).1)∧NdIs B w0 w' x (zbw m.ms (s,l)).2.1 (zbw m.ms (s,l)).2.2 (mmR m ss):=by
 obtain ⟨kind,fm,view,inst,seq,res,a1,rs,c1,a2,vs,c2,a3,cts,c3,a4,pts,c4,rfl⟩:=ziq h;simp only at hr1 hk hfm;obtain ⟨r,rfl⟩:=List.length_eq_one_iff.1 hr1;subst hk;simp only [List.length_singleton] at h⊢;obtain ⟨nf,rfl⟩: ∃nf:Nat,fm=nf:=⟨fm.toNat,by omega⟩;have hnf:nf≤3*s.c.f:=by omega
 clear hfm;have hok:=h.ok;have hcl:=hok.c.cl2;have hid0:=hok.id0;obtain ⟨id,hid⟩: ∃id:Nat,s.id=id:=⟨s.id.toNat,by omega⟩;have hid3:id≤3*s.c.f:=by have:=hok.id1;omega
 have HID:=zq hid;clear hid;obtain ⟨fin,hfin⟩: ∃fin,fin=zbw (Mm.ms ⟨2,nf,view,inst,seq,res,.slice a1 1 c1,[r],.slice a2 vs.length c2,vs,.slice a3 cts.length c3,cts,.slice a4 pts.length c4,pts⟩) (s,l):=⟨_,rfl⟩;rw [←hfin];obtain ⟨r0,hs0,-⟩:=(h.alloc (mmO ⟨2,nf,view,inst,seq,res,.slice a1 1 c1,[r],.slice a2 vs.length c2,vs,.slice a3 cts.length c3,cts,.slice a4 pts.length c4,pts⟩)).side;obtain ⟨ao',cap',hv',hbc,-,-,-,h5⟩:=zcn (hs0.get 5 rfl);simp only [Value.slice.injEq] at hv';obtain ⟨rfl,-,rfl⟩:=hv';obtain ⟨b,o,rfl,hbs,hcs⟩:=h5 (by simp);obtain ⟨q0,q1,q2,q3,q4,q5⟩:=zba hcs 0 r (by simp);simp only [Nat.zero_mul,Nat.add_zero] at q0 q1 q2 q3 q4 q5;have hcap:(1:Int)≤(c1:Int):=by simp at hbc;omega
 have h1:=(h.box (mmO ⟨2,nf,view,inst,seq,res,.slice (some ⟨b,o,none⟩) 1 c1,[r],.slice a2 vs.length c2,vs,.slice a3 cts.length c3,cts,.slice a4 pts.length c4,pts⟩)).box (rqO r);simp only [zbf] at h1;have H1:=zq h1;have hb3:=heap_alloc_new W (mmO ⟨2,nf,view,inst,seq,res,.slice (some ⟨b,o,none⟩) 1 c1,[r],.slice a2 vs.length c2,vs,.slice a3 cts.length c3,cts,.slice a4 pts.length c4,pts⟩);have m6:=zaa hb3 6 rfl;have HFIN:=zq hfin;clear h h1 hcs h5 hbs hbc hs0 hb3 hfin hok hid0;go_enter Tryz.func176,Tryz.ntmps176
 go_upto_region 2 with fail
 clear q0 q1 q2 q3 q4 q5 m6 hcap;obtain ⟨e5,he5⟩: ∃e5,e5=W.heap.size+1:=⟨_,rfl⟩;rw [←he5] at H1⊢;generalize W.heap.size=e3 at*;clear he5;generalize World.alloc (World.alloc W _) _=w1 at*;have H1:Hid (NdIs B w0 w1 x s l (blk e5 (rqO r)::blk e3 (mmO ⟨2,nf,view,inst,seq,res,.slice (some ⟨b,o,none⟩) 1 c1,[r],.slice a2 vs.length c2,vs,.slice a3 cts.length c3,cts,.slice a4 pts.length c4,pts⟩)::mmR ⟨2,nf,view,inst,seq,res,.slice (some ⟨b,o,none⟩) 1 c1,[r],.slice a2 vs.length c2,vs,.slice a3 cts.length c3,cts,.slice a4 pts.length c4,pts⟩ ss)):=H1;obtain ⟨rr,hr,-⟩:=H1.out.drew.side;have b0:=zaa (hr.blkAt 0 rfl) 0 rfl;have b1:=zaa (hr.blkAt 0 rfl) 1 rfl;have b2:=zaa (hr.blkAt 0 rfl) 2 rfl;have b3:=zaa (hr.blkAt 0 rfl) 3 rfl;have b4:=zaa (hr.blkAt 0 rfl) 4 rfl;have b5:=zaa (hr.blkAt 0 rfl) 5 rfl;have c1:=H1.out.drew.cell 1 rfl (by decide);have c16:=H1.out.drew.cell 16 rfl (by decide);clear hr;have HSE:=zq (zmc r H1.out.drew.ntAt H1.out.nok hcl);cases hse:rqSealed l s.c.cl r with
 | false=>
  rw [hse] at HSE;obtain rfl:fin=(3,(s,l)):=HFIN.out.trans (rq_bad rfl hse);clear hse HFIN;unfold rqAgg at HSE;refine Mix.wp_text2 (by kernel_rfl) (by kernel_rfl) ?_
  go_wp2_with fail
  with_reducible refine HSE.out.mono ?_
  rintro e w2 ⟨rfl,hu⟩;have HF:=zq (H1.out.drew.upd0 hu).drop.drop;clear b0 b1 b2 b3 b4 b5 c1 c16 hu HSE H1
  go_wp2_with fail
  refine ⟨by rfl,?_⟩
  go_wp2_with fail
  go_ret
  exact ⟨rfl,HF.out⟩
 | true=>
 rw [hse] at HSE;have HSD:=zq hse;obtain ⟨hc0,hc1,ht0,ht1⟩:=zwg hse;clear hse;unfold rqAgg at HSE;refine Mix.wp_text2 (by kernel_rfl) (by kernel_rfl) ?_
 go_wp2_with fail
 with_reducible refine HSE.out.mono ?_
 rintro e w2 ⟨rfl,hu⟩;have H2:=zq (H1.out.drew.upd0 hu);clear b0 b1 b2 b3 b4 b5 c1 c16 hu HSE H1
 go_wp2_with fail
 refine ⟨by rfl,?_⟩
 go_upto_region 4 with fail
 obtain ⟨rr,hr,-⟩:=H2.out.drew.side;have b0:=zaa (hr.blkAt 0 rfl) 0 rfl;have b1:=zaa (hr.blkAt 0 rfl) 1 rfl;have b2:=zaa (hr.blkAt 0 rfl) 2 rfl;have b3:=zaa (hr.blkAt 0 rfl) 3 rfl;have b4:=zaa (hr.blkAt 0 rfl) 4 rfl;have b5:=zaa (hr.blkAt 0 rfl) 5 rfl;have c22:=H2.out.drew.cell 22 rfl (by decide);clear hr;have HLA:=zq (nd_last H2.out.drew r.client hc0 hc1);refine Mix.wp_text2 (by kernel_rfl) (by kernel_rfl) ?_
 go_wp2_with fail
 with_reducible refine HLA.out.mono ?_
 rintro e w3 ⟨rfl,rfl⟩;have H3:=zq H2.out.drew;clear b0 b1 b2 b3 b4 b5 c22 HLA H2;generalize World.drew w2=w3 at*
 go_wp2_with fail
 refine ⟨by rfl,?_⟩;obtain ⟨rr,hr,-⟩:=H3.out.side;have b0:=zaa (hr.blkAt 0 rfl) 0 rfl;have b1:=zaa (hr.blkAt 0 rfl) 1 rfl;have b2:=zaa (hr.blkAt 0 rfl) 2 rfl;have b3:=zaa (hr.blkAt 0 rfl) 3 rfl;have b4:=zaa (hr.blkAt 0 rfl) 4 rfl;have b5:=zaa (hr.blkAt 0 rfl) 5 rfl;have k0:=zaa (hr.blkAt 1 rfl) 0 rfl;clear hr;by_cases hla:r.time≤lastL s.bk r.client
 ·have hlaB:decide (r.time≤lastL s.bk r.client)=true:=by simp [hla]
  obtain rfl:fin=(1,(s,l)):=HFIN.out.trans (rq_old rfl HSD.out hla (.inl (by show (2:Int)≠1;decide)));have HF:=zq H3.out.drop.drop;clear HFIN HSD H3 hla;generalize lastL s.bk r.client=la at*
  go_wp2_with fail
  go_ret
  exact ⟨rfl,HF.out⟩
 have hlaB:decide (r.time≤lastL s.bk r.client)=false:=by simp;omega
 have HFIN:=zq (HFIN.out.trans (rq_two rfl HSD.out rfl hla));clear HSD hla;generalize lastL s.bk r.client=la at*;have k1:w3.cell? ⟨e3,1,none⟩=some (.int .i64 nf):=by obtain ⟨rr,hr,-⟩:=H3.out.side;exact zaa (hr.blkAt 1 rfl) 1 rfl
 go_upto_region 14 with fail
 clear b0 b1 b2 b3 b4 b5 k0 k1 hlaB;obtain ⟨rr,hr,-⟩:=H3.out.drew.side;have b0:=zaa (hr.blkAt 0 rfl) 0 rfl;have b1:=zaa (hr.blkAt 0 rfl) 1 rfl;have b2:=zaa (hr.blkAt 0 rfl) 2 rfl;have b3:=zaa (hr.blkAt 0 rfl) 3 rfl;have b4:=zaa (hr.blkAt 0 rfl) 4 rfl;have b5:=zaa (hr.blkAt 0 rfl) 5 rfl;have c19:=H3.out.drew.cell 19 rfl (by decide);clear hr;have HHA:=zq (nd_has H3.out.drew r (nf:Int));unfold rqAgg at HHA;cases hha:zcl s.tab r (nf:Int) with
 | true=>
  rw [hha] at HHA;obtain rfl:fin=(1,(s,l)):=by refine HFIN.out.trans ?_;exact if_pos hha
  clear hha HFIN;refine Mix.wp_text2 (by kernel_rfl) (by kernel_rfl) ?_
  go_wp2_with fail
  with_reducible refine HHA.out.mono ?_
  rintro e w4 ⟨rfl,hu⟩;have HF:=zq (H3.out.drew.upd0 hu).drop.drop;clear b0 b1 b2 b3 b4 b5 c19 hu HHA H3
  go_wp2_with fail
  refine ⟨by rfl,?_⟩
  go_wp2_with fail
  go_ret
  exact ⟨rfl,HF.out⟩
 | false=>
 rw [hha] at HHA;have HFIN:=zq (HFIN.out.trans (if_neg (by show¬zcl s.tab r nf=true;rw [hha];decide)));have HNH:=zq hha;clear hha;refine Mix.wp_text2 (by kernel_rfl) (by kernel_rfl) ?_
 go_wp2_with fail
 with_reducible refine HHA.out.mono ?_
 rintro e w4 ⟨rfl,hu⟩;have H4:=zq (H3.out.drew.upd0 hu);clear b0 b1 b2 b3 b4 b5 c19 hu HHA H3
 go_wp2_with fail
 refine ⟨by rfl,?_⟩
 go_upto_region 16 with fail
 obtain ⟨rr,hr,-⟩:=H4.out.drew.side;have b0:=zaa (hr.blkAt 0 rfl) 0 rfl;have b1:=zaa (hr.blkAt 0 rfl) 1 rfl;have b2:=zaa (hr.blkAt 0 rfl) 2 rfl;have b3:=zaa (hr.blkAt 0 rfl) 3 rfl;have b4:=zaa (hr.blkAt 0 rfl) 4 rfl;have b5:=zaa (hr.blkAt 0 rfl) 5 rfl;have c19:=H4.out.drew.cell 19 rfl (by decide);have c15:=H4.out.drew.cell 15 rfl (by decide);clear hr;have HHB:=zq (nd_has H4.out.drew r s.id);unfold rqAgg at HHB;cases hhb:zcl s.tab r s.id with
 | true=>
  rw [hhb] at HHB;have hcc:=hc1;have hnff:=hnf;obtain rfl:fin=(0,(putT s r nf,l)):=HFIN.out.trans (if_pos hhb);clear hhb HFIN HNH;refine Mix.wp_text2 (by kernel_rfl) (by kernel_rfl) ?_
  go_wp2_with fail
  with_reducible refine HHB.out.mono ?_
  rintro e w5 ⟨rfl,hu⟩;have H5:=zq (H4.out.drew.upd0 hu);clear b0 b1 b2 b3 b4 b5 c19 c15 hu HHB H4
  go_wp2_with fail
  refine ⟨by rfl,?_⟩;obtain ⟨rr,hr,-⟩:=H5.out.side;have k0:=zaa (hr.blkAt 1 rfl) 0 rfl;clear hr
  go_upto_region 22 with fail
  clear k0;obtain ⟨rr,hr,-⟩:=H5.out.drew.side;have b0:=zaa (hr.blkAt 0 rfl) 0 rfl;have b1:=zaa (hr.blkAt 0 rfl) 1 rfl;have b2:=zaa (hr.blkAt 0 rfl) 2 rfl;have b3:=zaa (hr.blkAt 0 rfl) 3 rfl;have b4:=zaa (hr.blkAt 0 rfl) 4 rfl;have b5:=zaa (hr.blkAt 0 rfl) 5 rfl;have c19:=H5.out.drew.cell 19 rfl (by decide);have c17:=H5.out.drew.cell 17 rfl (by decide);clear hr;have HNW:=zq (zgw H5.out.drew);have HPT:=zq (zrk H5.out.drew r hc0 hcc nf hnff);unfold rqAgg at HPT;refine Held.wp_held [(x.p,19,[ptrV x.tb]),(e5,0,[.int .i64 r.client,.int .i64 r.time,.int .i64 r.kind,.int .i64 r.key,.int .i64 r.val,.int .i64 r.sl]),(x.p,17,[ptrV x.t])] [(3,0),(4,1),(9,2)] [11] [(11,true),(1,false)] (by kernel_rfl) (by kernel_rfl) ⟨⟨c19,trivial⟩,⟨b0,b1,b2,b3,b4,b5,trivial⟩,⟨c17,trivial⟩,trivial⟩ ?_;simp only [Held.cutAt,Held.walk,List.take_succ_cons,List.take_zero,List.drop_succ_cons,List.drop_zero]
  go_wp2_with fail
  with_reducible refine HNW.out.mono ?_
  rintro e w' ⟨rfl,rfl⟩
  go_wp2_with fail
  refine ⟨⟨⟨c19,trivial⟩,⟨b0,b1,b2,b3,b4,b5,trivial⟩,⟨c17,trivial⟩,trivial⟩,?_⟩
  go_wp2_with fail
  with_reducible refine HPT.out.mono ?_
  rintro e w9 ⟨⟨bx,by_,rfl⟩,h9⟩;have HF:=zq h9.drop.drop;clear b0 b1 b2 b3 b4 b5 c19 c17 h9 HPT HNW H5
  go_wp2_with fail
  refine ⟨trivial,?_⟩
  go_wp2_with fail
  refine ⟨trivial,by rfl,⟨⟨rfl,.inl ⟨by kernel_rfl,rfl⟩⟩,⟨rfl,.inr ⟨by kernel_rfl,by kernel_rfl⟩⟩,⟨rfl,.inl ⟨by kernel_rfl,rfl⟩⟩,trivial⟩,?_⟩
  go_wp2_with fail
  go_ret
  exact ⟨rfl,HF.out⟩
 | false=>
 rw [hhb] at HHB;have HFIN:=zq (HFIN.out.trans (if_neg (by rw [hhb];decide)));clear hhb HNH;refine Mix.wp_text2 (by kernel_rfl) (by kernel_rfl) ?_
 go_wp2_with fail
 with_reducible refine HHB.out.mono ?_
 rintro e w5 ⟨rfl,hu⟩;have H5:=zq (H4.out.drew.upd0 hu);clear b0 b1 b2 b3 b4 b5 c19 c15 hu HHB H4
 go_wp2_with fail
 refine ⟨by rfl,?_⟩
 go_upto_region 17 with fail
 obtain ⟨rr,hr,-⟩:=H5.out.drew.side;have b0:=zaa (hr.blkAt 0 rfl) 0 rfl;have b1:=zaa (hr.blkAt 0 rfl) 1 rfl;have b2:=zaa (hr.blkAt 0 rfl) 2 rfl;have b3:=zaa (hr.blkAt 0 rfl) 3 rfl;have b4:=zaa (hr.blkAt 0 rfl) 4 rfl;have b5:=zaa (hr.blkAt 0 rfl) 5 rfl;have c19:=H5.out.drew.cell 19 rfl (by decide);have c15:=H5.out.drew.cell 15 rfl (by decide);have c17:=H5.out.drew.cell 17 rfl (by decide);clear hr;have HNW:=zq (zgw H5.out.drew);have HPT0:=zrk H5.out.drew r hc0 hc1 id hid3;rw [←HID.out] at HPT0;have HPT:=zq HPT0;unfold rqAgg at HPT;obtain ⟨te,hte⟩: ∃te,te=tabE s.c.f s.c.cl s.tab r s.id:=⟨_,rfl⟩;obtain ⟨sp,hsp⟩: ∃sp,sp=putT s r s.id:=⟨_,rfl⟩;have HFIN:Hid (fin=if tabE s.c.f s.c.cl s.tab r s.id≠0 then (2,(s,l)) else (0,(putT (propS (putT s r s.id,l) r).1 r nf,(propS (putT s r s.id,l) r).2))):=HFIN;rw [←hte,←hsp] at HPT HFIN;have HSP:Hid ((te≠0→sp=s)∧sp.out=s.out∧sp.c=s.c∧sp.id=s.id∧sp.now=s.now):=zq (by rw [hte,hsp];exact ⟨fun h=>putT_no h,rfl,rfl,rfl,rfl⟩);clear hte hsp HPT0;refine Held.wp_held [(x.p,19,[ptrV x.tb]),(e5,0,[.int .i64 r.client,.int .i64 r.time,.int .i64 r.kind,.int .i64 r.key,.int .i64 r.val,.int .i64 r.sl]),(x.p,15,[.int .i64 s.id]),(x.p,17,[ptrV x.t])] [(3,0),(4,1),(8,2),(12,3)] [14] [(14,true),(1,false)] (by kernel_rfl) (by kernel_rfl) ⟨⟨c19,trivial⟩,⟨b0,b1,b2,b3,b4,b5,trivial⟩,⟨c15,trivial⟩,⟨c17,trivial⟩,trivial⟩ ?_;simp only [Held.cutAt,Held.walk,List.take_succ_cons,List.take_zero,List.drop_succ_cons,List.drop_zero]
 go_wp2_with fail
 with_reducible refine HNW.out.mono ?_
 rintro e w' ⟨rfl,rfl⟩
 go_wp2_with fail
 refine ⟨⟨⟨c19,trivial⟩,⟨b0,b1,b2,b3,b4,b5,trivial⟩,⟨c15,trivial⟩,⟨c17,trivial⟩,trivial⟩,?_⟩
 go_wp2_with fail
 with_reducible refine HPT.out.mono ?_
 rintro e w6 ⟨⟨bx,by_,rfl⟩,h6⟩;have H6:Hid (NdIs B w0 w6 x sp l (blk e5 (rqO r)::blk e3 (mmO ⟨2,nf,view,inst,seq,res,.slice (some ⟨b,o,none⟩) 1 c1,[r],.slice a2 vs.length c2,vs,.slice a3 cts.length c3,cts,.slice a4 pts.length c4,pts⟩)::mmR ⟨2,nf,view,inst,seq,res,.slice (some ⟨b,o,none⟩) 1 c1,[r],.slice a2 vs.length c2,vs,.slice a3 cts.length c3,cts,.slice a4 pts.length c4,pts⟩ ss)):=zq h6;clear b0 b1 b2 b3 b4 b5 c19 c15 c17 h6 HPT HNW H5
 go_wp2_with fail
 refine ⟨trivial,?_⟩
 go_wp2_with fail
 refine ⟨trivial,by rfl,⟨⟨rfl,.inl ⟨by kernel_rfl,rfl⟩⟩,⟨rfl,.inr ⟨by kernel_rfl,by kernel_rfl⟩⟩,⟨rfl,.inl ⟨by kernel_rfl,rfl⟩⟩,⟨rfl,.inl ⟨by kernel_rfl,rfl⟩⟩,trivial⟩,?_⟩;by_cases hte:te=0
 ·subst hte
  obtain ⟨p,hp⟩: ∃p,p=propS (sp,l) r:=⟨_,rfl⟩;have hfin:fin=(0,(putT p.1 r nf,p.2)):=HFIN.out.trans (by rw [hp];exact if_neg (fun h=>h rfl));obtain ⟨-,ho2,hcc2,hii,-⟩:=HSP.out;have HPR:=zq (zit H6.out r (by omega) (by rw [ho2];omega));rw [←hp] at HPR;have HK:Hid (p.1.c=s.c):=zq (by rw [hp];exact (by unfold propS;obtain ⟨o,e,-,-⟩:=zdp (sp,l) (prgM r);rw [e];exact hcc2));have hcc:r.client<p.1.c.cl:=by rw [HK.out];exact hc1
  have hnff:nf≤3*p.1.c.f:=by rw [HK.out];exact hnf
  subst hfin;unfold rqAgg at HPR;obtain ⟨rr,hr,-⟩:=H6.out.side;have b0:=zaa (hr.blkAt 0 rfl) 0 rfl;have b1:=zaa (hr.blkAt 0 rfl) 1 rfl;have b2:=zaa (hr.blkAt 0 rfl) 2 rfl;have b3:=zaa (hr.blkAt 0 rfl) 3 rfl;have b4:=zaa (hr.blkAt 0 rfl) 4 rfl;have b5:=zaa (hr.blkAt 0 rfl) 5 rfl;clear hr;clear HFIN HSP ho2 hcc2 hii hp H6 HK;obtain ⟨sp2,lp2⟩:=p;simp only at HPR hcc hnff
  go_wp2_with fail
  with_reducible refine HPR.out.mono ?_
  rintro e w7 ⟨rfl,h7⟩;have H7:=zq h7;clear b0 b1 b2 b3 b4 b5 h7 HPR;obtain ⟨rr,hr,-⟩:=H7.out.side;have k0:=zaa (hr.blkAt 1 rfl) 0 rfl;clear hr
  go_upto_region 22 with fail
  clear k0;obtain ⟨rr,hr,-⟩:=H7.out.drew.side;have b0:=zaa (hr.blkAt 0 rfl) 0 rfl;have b1:=zaa (hr.blkAt 0 rfl) 1 rfl;have b2:=zaa (hr.blkAt 0 rfl) 2 rfl;have b3:=zaa (hr.blkAt 0 rfl) 3 rfl;have b4:=zaa (hr.blkAt 0 rfl) 4 rfl;have b5:=zaa (hr.blkAt 0 rfl) 5 rfl;have c19:=H7.out.drew.cell 19 rfl (by decide);have c17:=H7.out.drew.cell 17 rfl (by decide);clear hr;have HNW:=zq (zgw H7.out.drew);have HPT:=zq (zrk H7.out.drew r hc0 hcc nf hnff);unfold rqAgg at HPT;refine Held.wp_held [(x.p,19,[ptrV x.tb]),(e5,0,[.int .i64 r.client,.int .i64 r.time,.int .i64 r.kind,.int .i64 r.key,.int .i64 r.val,.int .i64 r.sl]),(x.p,17,[ptrV x.t])] [(3,0),(4,1),(9,2)] [11] [(11,true),(1,false)] (by kernel_rfl) (by kernel_rfl) ⟨⟨c19,trivial⟩,⟨b0,b1,b2,b3,b4,b5,trivial⟩,⟨c17,trivial⟩,trivial⟩ ?_;simp only [Held.cutAt,Held.walk,List.take_succ_cons,List.take_zero,List.drop_succ_cons,List.drop_zero]
  go_wp2_with fail
  with_reducible refine HNW.out.mono ?_
  rintro e w' ⟨rfl,rfl⟩
  go_wp2_with fail
  refine ⟨⟨⟨c19,trivial⟩,⟨b0,b1,b2,b3,b4,b5,trivial⟩,⟨c17,trivial⟩,trivial⟩,?_⟩
  go_wp2_with fail
  with_reducible refine HPT.out.mono ?_
  rintro e w9 ⟨⟨bx,by_,rfl⟩,h9⟩;have HF:=zq h9.drop.drop;clear b0 b1 b2 b3 b4 b5 c19 c17 h9 HPT HNW H7
  go_wp2_with fail
  refine ⟨trivial,?_⟩
  go_wp2_with fail
  refine ⟨trivial,by rfl,⟨⟨rfl,.inl ⟨by kernel_rfl,rfl⟩⟩,⟨rfl,.inr ⟨by kernel_rfl,by kernel_rfl⟩⟩,⟨rfl,.inl ⟨by kernel_rfl,rfl⟩⟩,trivial⟩,?_⟩
  go_wp2_with fail
  go_ret
  exact ⟨rfl,HF.out⟩
 ·have hteB:(te !=0)=true:=by simp [hte]
  obtain rfl:sp=s:=HSP.out.1 hte;obtain rfl:fin=(2,(sp,l)):=HFIN.out.trans (if_pos hte);have HF:=zq H6.out.drop.drop;clear HFIN HSP H6 hte
  go_wp2_with fail
  go_ret
  exact ⟨rfl,HF.out⟩
end
structure Wf (p:NSt):Prop where
 c:CfOk p.1.c
 sm:SmN p.1
 pt:PtOk p.1
structure KeepG (a b:Ns):Prop where
 gd:b.gd=a.gd
 used:b.used=a.used
 bad:b.bad=a.bad
 stale:b.stale=a.stale
 shut:b.shut=a.shut
 full:b.full=a.full
theorem KeepG.refl (a:Ns):KeepG a a:=⟨rfl,rfl,rfl,rfl,rfl,rfl⟩
theorem KeepG.trans {a b c:Ns} (h:KeepG a b) (g:KeepG b c):KeepG a c:=⟨g.gd.trans h.gd,g.used.trans h.used,g.bad.trans h.bad,g.stale.trans h.stale,g.shut.trans h.shut,g.full.trans h.full⟩
theorem KeepN.g {a b:Ns} (h:KeepN a b):KeepG a b:=⟨h.gd,h.used,h.bad,h.stale,h.shut,h.full⟩
structure Gr (n:Nat) (p q:NSt):Prop where
 out:q.1.out.length≤p.1.out.length+n
 nt:q.2.length≤p.2.length+n
 c:q.1.c=p.1.c
 sm:SmN q.1
 pt:PtOk q.1
 g:KeepG p.1 q.1
theorem Gr.wf {n:Nat} {p q:NSt} (h:Gr n p q) (g:Wf p):Wf q:=⟨h.c ▸ g.c,h.sm,h.pt⟩
theorem Gr.refl {p:NSt} (h:Wf p):Gr 0 p p:=⟨Nat.le_refl _,Nat.le_refl _,rfl,h.sm,h.pt,.refl _⟩
theorem Gr.trans {n m:Nat} {p q r:NSt} (h:Gr n p q) (g:Gr m q r):Gr (n+m) p r:=⟨by have:=h.out;have:=g.out;omega,by have:=h.nt;have:=g.nt;omega,g.c.trans h.c,g.sm,g.pt,h.g.trans g.g⟩
theorem Gr.mono {n m:Nat} {p q:NSt} (h:Gr n p q) (hm:n≤m):Gr m p q:=⟨by have:=h.out;omega,by have:=h.nt;omega,h.c,h.sm,h.pt,h.g⟩
theorem Gr.of {n:Nat} {p q:NSt} (w:Wf p) (h:Grow n p q) (hs:SmN q.1):Gr n p q:=⟨h.out,h.nt,h.k.c,hs,w.pt.of h.k.pts,h.k.g⟩
theorem gr_send (m:Ms) {p:NSt} (h:Wf p):Gr 13 p (sendS p m):= .of h (znc p m h.c.f2) (h.sm.ins (zn0 _ _))
theorem zuv (k:Nat) (seq:Int) {p:NSt} (h:Wf p):Gr 90 p (zcz k seq p):=let ⟨a,b⟩:=zor k seq p h.c.f2 h.sm;.of h a b
theorem zuw (k:Nat) (st:In) {p:NSt} (h:Wf p) (hs:InSm st):Gr 0 p (zbp p.1 k st,p.2):=⟨Nat.le_refl _,Nat.le_refl _,rfl,h.sm.set hs,h.pt,⟨rfl,rfl,rfl,rfl,rfl,rfl⟩⟩
theorem zqy {α:Type} (g:NSt→α→NSt) (n:Nat) (hg: ∀p a,Wf p→Gr n p (g p a)): ∀(l:List α) (p:NSt),Wf p→Gr (n*l.length) p (l.foldl g p)
 | [],p,h=>by simpa using Gr.refl h
 | a::l,p,h=>by
  have h1:=hg p a h;have h2:=zqy g n hg l (g p a) (h1.wf h);refine (h1.trans h2).mono ?_;rw [List.length_cons,Nat.mul_add];omega
theorem znr (i:In) (bt:Int) (hb:0≤bt) (rs:List Rq):((pickB i bt rs).length:Int)≤bt:=by
 unfold pickB
 suffices h: ∀(rs:List Rq) (b:List Rq),(b.length:Int)≤bt→((rs.foldl (fun b r=>if (b.length:Int)<bt∧ !usedI i r then b++[r] else b) b).length:Int)≤bt by exact h rs [] (by simpa using hb)
 intro rs
 induction rs with
 | nil=>intro b h;exact h
 | cons r rs ih=>
  intro b h;rw [List.foldl_cons];refine ih _ ?_;split
  ·rename_i hc
   rw [List.length_append,List.length_singleton];omega
  ·exact h
theorem zj0 (p:NSt) (k:Nat) (h:Wf p):Gr 103 p (zaw p k):=by
 unfold zaw;simp only;split
 ·exact (Gr.refl h).mono (by omega)
 ·split
  ·exact (Gr.refl h).mono (by omega)
  ·have hb:(pickB (insAt p.1 k) p.1.c.bt (zai p.1.tab)).length≤4:=by
    have:=znr (insAt p.1 k) p.1.c.bt (by have:=h.c.bt1;omega) (zai p.1.tab);have:=h.c.bt2;omega
   have g1:=zuw k (preI (insAt p.1 k) (nextI (insAt p.1 k)) (pickB (insAt p.1 k) p.1.c.bt (zai p.1.tab))) h ((zq5 hb).sm (h.sm k));have w1:=g1.wf h;have w2:Wf ({zbp p.1 k (preI (insAt p.1 k) (nextI (insAt p.1 k)) (pickB (insAt p.1 k) p.1.c.bt (zai p.1.tab))) with pre:=setRow p.1.pre k (nextI (insAt p.1 k)) (p.1.view+1)},p.2):=⟨w1.c,w1.sm,w1.pt⟩;have g2:=gr_send (balM' 3 p.1.view k (nextI (insAt p.1 k)) (pickB (insAt p.1 k) p.1.c.bt (zai p.1.tab))) w2;have g3:=zuv k (nextI (insAt p.1 k)) (g2.wf w2);have g4:=g2.trans g3;exact ⟨g4.out,g4.nt,g4.c,g4.sm,g4.pt,⟨g4.g.gd,g4.g.used,g4.g.bad,g4.g.stale,g4.g.shut,g4.g.full⟩⟩
def tick1 (p:NSt):NSt:=(List.range (p.1.c.f+1)).foldl zaw p
def tick2 (p:NSt):NSt:=if p.1.now%p.1.c.ag=0 then zle p else p
def tick3 (p:NSt):NSt:=if !(insAt p.1 0).on&&decide (p.1.since+p.1.c.wa≤p.1.now) then zfk p else p
def tick4 (p:NSt):NSt:=if (insAt p.1 0).on&&oldP p.1 then zfk p else p
def zeh (p:NSt):NSt:=({p.1 with now:=p.1.now+1},p.2)
theorem zms (p:NSt):tickS p=if p.1.stop then p else if 1048576≤p.1.now then ({p.1 with stop:=true},p.2) else zk6 (tick4 (tick3 (tick2 (tick1 (zeh p))))):=rfl
theorem zzb {p:NSt} (h:Wf p):Gr 515 p (tick1 p):=(zqy zaw 103 zj0 _ p h).mono (by rw [List.length_range];have:=h.c.f2;omega)
end Go.Proofs.YtannckelmojkoaaGreat
