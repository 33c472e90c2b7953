/- Parts of the proof, one behind the other. -/
import Derived.Test.YtannckelmojkoaaGreatAgnB15
import Derived.Deep.DeepCutAuto
import Derived.Deep.CutBlock
set_option maxHeartbeats 32000000
set_option maxRecDepth 100000
set_option linter.unusedVariables false
set_option linter.unusedSimpArgs false
namespace Go.Proofs.YtannckelmojkoaaGreat
open Go.RowKit Go.Heap
section
variable {B:Nat} {w0 w W:World} {ss:List Res} {t:Nat} {now:Int} {cv:Value}
theorem zre (h0:0≤now) (h1:now≤1000000) (h:Own B w0 W (blk t (clkO now cv)::ss)):Calls Tryz.prog 88 #[.pointer (some ⟨t,0,none⟩)] W fun e w'=>e= .returned (.bool true)∧Own B w0 w' (blk t (clkO (now+1) cv)::ss):=by
 have c0:=zaa h.blk_out 0 rfl;have f0:=zac h.blk_out 0;have H1:=zq (Own.storeTo h 0 (.int .i64 (now+1)) (o':=clkO (now+1) cv) rfl);clear h;go_enter Tryz.func88,Tryz.ntmps88
 go_wp2_with fail
 go_ret
 exact ⟨rfl,H1.out⟩
theorem ready0 (hb:W.heap[t]?=some tabO):Calls Tryz.prog 157 #[.pointer (some ⟨t,0,none⟩)] W fun e w'=>e= .returned (.slice none 0 0)∧W=w':=by
 have c2:=zaa hb 2 rfl;clear hb;go_enter Tryz.func157,Tryz.ntmps157
 go_wp2_with fail
 go_loop [3,11] (fun o i=>o= .slice none 0 0∧i= .int .i64 0) (fun _ _=>0)
 case atStart=>exact ⟨rfl,rfl⟩
 case round=>
  obtain ⟨rfl,rfl⟩:=hrel
  go_wp2_with fail
  go_ret
  exact ⟨rfl,rfl⟩
theorem tall0 (hb:W.heap[t]?=some tabO):Calls Tryz.prog 164 #[.pointer (some ⟨t,0,none⟩)] W fun e w'=>e= .returned (.slice none 0 0)∧W=w':=by
 have c2:=zaa hb 2 rfl;clear hb;go_enter Tryz.func164,Tryz.ntmps164
 go_wp2_with fail
 go_loop [3,11] (fun o i=>o= .slice none 0 0∧i= .int .i64 0) (fun _ _=>0)
 case atStart=>exact ⟨rfl,rfl⟩
 case round=>
  obtain ⟨rfl,rfl⟩:=hrel
  go_wp2_with fail
  go_ret
  exact ⟨rfl,rfl⟩
theorem zuq {P:Program} {ops:Array Oper} {rest:List Oper} {o:Oper} {a:Act} {Q:Exit→Act→World→Prop} {w:World} {v:Value} (hg:o.guard=none) (h:(execOp a.eval o).run P w= .ok (.value v) w) (hk:wpList P ops Q rest (a.put o.dst v) w):wpList P ops Q (o::rest) a w:=by
 refine wpList_plain hg fun K hK=> ?_;unfold Oper.wp;rw [h];exact hK _ _ hk
theorem parts0 (w:World):Calls Tryz.prog 229 #[.complex .f64 0 0] w fun e w'=>e= .returned (.tuple #[.int .i64 0,.int .i64 0])∧w=w':=by
 have hcv: ∀wx,(convert 347 3 (.float .f64 0)).run Tryz.prog wx= .ok (.int .i64 0) wx:=fun wx=>by kernel_rfl
 go_enter Tryz.func229,Tryz.ntmps229
 go_wp2_with fail
 go_ret2
 exact ⟨rfl,rfl⟩
theorem total0 {b o cap:Nat} (h:w.cell? ⟨b,o,none⟩=some (.complex .f64 0 0)):Calls Tryz.prog 230 #[.slice (some ⟨b,o,none⟩) 1 cap] w fun e w'=>e= .returned (.complex .f64 0 0)∧w=w':=by
 go_enter Tryz.func230,Tryz.ntmps230
 go_wp2_with fail
 go_loop [3,8] (fun z i=> ∃k:Nat,k≤1∧i= .int .i64 k∧z= .complex .f64 0 0) (fun _ i=>1-(intOf i).toNat)
 case atStart=>exact ⟨0,by omega,rfl,rfl⟩
 case round=>
  obtain ⟨k,hk,rfl,rfl⟩:=hrel;by_cases hlt:k<1
  ·obtain rfl:k=0:=by omega
   go_upto_region 5 with fail
   go_upto_region 6 with (refine zuq rfl (v:= .complex .f64 0 0) (by kernel_rfl) ?_)
   go_wp2_with fail
   go_round
   case rel=>exact ⟨1,by omega,rfl,rfl⟩
   case measure=>simp [intOf]
  ·obtain rfl:k=1:=by omega
   go_wp2_with fail
   go_ret
   exact ⟨rfl,rfl⟩
theorem slow0 {b o cap:Nat} {num den:Int} (h1:0≤num∧num≤8) (h2:0≤den∧den≤8) (h:w.cell? ⟨b,o,none⟩=some (.complex .f64 0 0)):Calls Tryz.prog 172 #[.int .i64 num,.int .i64 den,.complex .f64 0 0,.slice (some ⟨b,o,none⟩) 1 cap] w fun e w'=>e= .returned (.bool false)∧w=w':=by
 have HP:=zq parts0;have HT:=zq (total0 (cap:=cap) h);go_enter Tryz.func172,Tryz.ntmps172
 go_wp2_with fail
 refine (HP.out _).mono ?_;rintro e w' ⟨rfl,rfl⟩
 go_wp2_with fail
 refine HT.out.mono ?_;rintro e w' ⟨rfl,rfl⟩
 go_wp2_with fail
 refine (HP.out _).mono ?_;rintro e w' ⟨rfl,rfl⟩
 go_wp2_with fail
 go_ret
 exact ⟨rfl,rfl⟩
theorem late0 {b o cap:Nat} {om:Int} (h:w.cell? ⟨b,o,none⟩=some (.complex .f64 0 0)):Calls Tryz.prog 173 #[.int .i64 om,.complex .f64 0 0,.slice (some ⟨b,o,none⟩) 1 cap] w fun e w'=>e= .returned (.bool false)∧w=w':=by
 have HP:=zq parts0;have HT:=zq (total0 (cap:=cap) h);go_enter Tryz.func173,Tryz.ntmps173
 go_wp2_with fail
 refine zb4 0 (fun a' w'=> ∃u:Nat→Value,a'= {tmps:=#[u 0,u 1,u 2,u 3,u 4,u 5,u 6,u 7,u 8,u 9,u 10,u 11,u 12,u 13,u 14,u 15,u 16,u 17,u 18,u 19,u 20,u 21,u 22,u 23,u 24,u 25,u 26,u 27,u 28,u 29,u 30,u 31,u 32,u 33,u 34,u 35,u 36,u 37,u 38,u 39,u 40,u 41,u 42,u 43],defers:=[]}∧w'=w) rfl ?_ ?_
 ·go_wp2_with fail
  refine (HP.out _).mono ?_;rintro e w' ⟨rfl,rfl⟩
  go_wp2_with fail
  refine HT.out.mono ?_;rintro e w' ⟨rfl,rfl⟩
  go_wp2_with fail
  refine (HP.out _).mono ?_;rintro e w' ⟨rfl,rfl⟩
  go_wp2_with fail
  go_step3
  exact ⟨rfl,zbw _ (by kernel_rfl) rfl⟩
 ·rintro a' w' ⟨u,rfl,rfl⟩
  go_wp2_with fail
  simp only [Exit.noGoto];go_ret
  exact ⟨rfl,rfl⟩
theorem zuj {fl sh:Int} {b cap:Nat} (hc:2≤cap) (h0:w.cell? ⟨b,0,none⟩=some (.complex .f64 0 0)) (h1:w.cell? ⟨b,1,none⟩=some (.complex .f64 0 0)):Calls Tryz.prog 94 #[.agg (cfgF fl sh),.slice (some ⟨b,0,none⟩) 2 cap] w fun e w'=>e= .returned (.bool false)∧Upd [] w w':=by
 have hcap: ¬cap=1:=by omega
 have hb:b<w.heap.size:=Held.cell_size h0;go_enter Tryz.func94,Tryz.ntmps94
 go_wp2_with fail
 have HS:=zq (fun (W:World) (h:W.cell? ⟨b,1,none⟩=some (.complex .f64 0 0))=>slow0 (o:=1) (num:=1) (den:=2) (cap:=cap-1) (by omega) (by omega) h);have HL:=zq (fun (W:World) (h:W.cell? ⟨b,1,none⟩=some (.complex .f64 0 0))=>late0 (o:=1) (om:=8) (cap:=cap-1) h);have H:=zq ((Own.start (Below.refl w.heap.size w) (Nat.le_refl _)).box (.cells (cfgF fl sh) 30 (0,0)));generalize World.alloc w _=w1 at*;have x0:w1.cell? ⟨b,0,none⟩=some (.complex .f64 0 0):=(H.out.below.cell hb).trans h0;have x1:w1.cell? ⟨b,1,none⟩=some (.complex .f64 0 0):=(H.out.below.cell hb).trans h1;have y8:=zaa (H.out.blkAt 0 rfl) 8 (v:= .int .i64 1) rfl;have y9:=zaa (H.out.blkAt 0 rfl) 9 (v:= .int .i64 2) rfl;have y11:=zaa (H.out.blkAt 0 rfl) 11 (v:= .int .i64 8) rfl;refine zb4 0 (fun a' w'=>False) rfl ?_ (fun _ _ h=>h.elim)
 go_wp2_with fail
 go_quiet ((go_at_call 172;exact zap (HS.out _ x1)))
 go_wp2_with fail
 generalize hw2:World.drewN w1 _=w2;have H2:Own w.heap.size w w2 [blk w.heap.size (.cells (cfgF fl sh) 30 (0,0))]:=by rw [←hw2];exact H.out.upd0 ((Upd.refl _ _).drewN _)
 have H2:=zq H2;clear hw2 H x0 x1 y8 y9 y11;have x0:w2.cell? ⟨b,0,none⟩=some (.complex .f64 0 0):=(H2.out.below.cell hb).trans h0;have x1:w2.cell? ⟨b,1,none⟩=some (.complex .f64 0 0):=(H2.out.below.cell hb).trans h1;have y11:=zaa (H2.out.blkAt 0 rfl) 11 (v:= .int .i64 8) rfl
 go_quiet ((go_at_call 173;exact zap (HL.out _ x1)))
 go_wp2_with fail
 go_step3
 go_wp2_with fail
 simp only [Exit.one];go_ret
 exact ⟨rfl,Upd.of_below (below_drewN H2.out.below _)⟩
end
theorem zk9 (f:Nat) (view inst:Int) (w:World) (g1:1≤f) (g2:f≤4):Calls Tryz.prog 142 #[.int .i64 f,.int .i64 view,.int .i64 inst] w fun e w'=>e= .returned (.int .i64 (zam f view inst))∧w=w':=by
 have hM:=zq (fun w=>zkp (f:Int) w (by omega) (by omega));have hN:=zq (fun w=>za4 (f:Int) w (by omega) (by omega));cases h1:decide (view<0) with
 | true=>
  have hv:zam f view inst= -1:=by
   unfold zam;simp only [decide_eq_false_iff_not,decide_eq_true_eq] at h1;rw [if_neg (by omega)]
  rw [hv];clear hv;go_enter Tryz.func142,Tryz.ntmps142
  go_wp2_with fail
  refine (hM.out _).mono ?_;rintro e w' ⟨rfl,rfl⟩
  go_wp2_with fail
  go_ret
  exact ⟨rfl,rfl⟩
 | false=>
  cases h2:decide ((12:Int)<view) with
  | true=>
   have hv:zam f view inst= -1:=by
    unfold zam;simp only [decide_eq_false_iff_not,decide_eq_true_eq] at h1 h2;rw [if_neg (by omega)]
   rw [hv];clear hv;go_enter Tryz.func142,Tryz.ntmps142
   go_wp2_with fail
   refine (hM.out _).mono ?_;rintro e w' ⟨rfl,rfl⟩
   go_wp2_with fail
   go_ret
   exact ⟨rfl,rfl⟩
  | false=>
   cases h3:decide (inst<0) with
   | true=>
    have hv:zam f view inst= -1:=by
     unfold zam;simp only [decide_eq_false_iff_not,decide_eq_true_eq] at h1 h2 h3;rw [if_neg (by omega)]
    rw [hv];clear hv;go_enter Tryz.func142,Tryz.ntmps142
    go_wp2_with fail
    refine (hM.out _).mono ?_;rintro e w' ⟨rfl,rfl⟩
    go_wp2_with fail
    go_ret
    exact ⟨rfl,rfl⟩
   | false=>
    cases h4:decide ((f:Int)<inst) with
    | true=>
     have hv:zam f view inst= -1:=by
      unfold zam;simp only [decide_eq_false_iff_not,decide_eq_true_eq] at h1 h2 h3 h4;rw [if_neg (by omega)]
     rw [hv];clear hv;go_enter Tryz.func142,Tryz.ntmps142
     go_wp2_with fail
     refine (hM.out _).mono ?_;rintro e w' ⟨rfl,rfl⟩
     go_wp2_with fail
     go_ret
     exact ⟨rfl,rfl⟩
    | false=>
     have hv:zam f view inst=(view+inst).tmod (3*(f:Int)+1):=by
      unfold zam;simp only [decide_eq_false_iff_not] at h1 h2 h3 h4;rw [if_pos ⟨by omega,by omega,by omega,by omega⟩,Int.tmod_eq_emod_of_nonneg (by omega)]
     have hz:(3*(f:Int)+1==0)=false:=by simp;omega
     have hz':decide (3*(f:Int)+1=0)=false:=by simp;omega
     have hlo: -9223372036854775808≤view+inst∧view+inst≤9223372036854775807:=by simp only [decide_eq_false_iff_not] at h1 h2 h3 h4;omega
     rw [hv];clear hv;go_enter Tryz.func142,Tryz.ntmps142
     go_wp2_with fail
     refine (hM.out _).mono ?_;rintro e w' ⟨rfl,rfl⟩
     go_wp2_with fail
     refine (hN.out _).mono ?_;rintro e w' ⟨rfl,rfl⟩
     go_wp2_with fail
     go_ret
     exact ⟨rfl,rfl⟩
section
variable {B:Nat} {w0 w W:World} {ss:List Res} {p gd t nt tbb:Nat} {fl sh id now st u bd sl sht fu:Int} {v1 tb vt bk mt pt bg v2 v3 cv:Value}
theorem zkq {t g:Nat} (hb:W.heap[t]?=some (mtO g)) (hg:W.heap[g]?=some mgO):
  Calls Tryz.prog 95 #[.pointer (some ⟨t,0,none⟩)] W fun e w'=> ∃b cap,e= .returned (.slice (some ⟨b,0,none⟩) 2 cap)∧2≤cap∧w'.cell? ⟨b,0,none⟩=some (.complex .f64 0 0)∧w'.cell? ⟨b,1,none⟩=some (.complex .f64 0 0)∧Upd [] W w':=by
 obtain ⟨i0,hi,hz0,hz1,hz2⟩:=info_parts Tryz.infocx;have c0:W.cell? ⟨t,0,none⟩=some (.slice (some ⟨g,0,none⟩) 2 2):=by rw [zab hb];rfl
 have hr:=zw3 hg cx_size (by decide);have HO:=zq cx_one;have HL:Hid ((madeCells #[.complex .f64 0 0] 2).toList=[.complex .f64 0 0,.complex .f64 0 0]):=zq (by kernel_rfl);clear hb hg;generalize (madeCells #[.complex .f64 0 0] 2).toList=cs at*;go_enter Tryz.func95,Tryz.ntmps95
 go_wp2_with (at_builtin;refine zd5 rfl (.tmp 6) 169 rfl 269 i0 (.complex .f64 0 0) 1 16 Tryz.underlying169 hi hz0 hz1 hz2 rfl (by decide) _ _ _ rfl hr HO.out (by decide) ?_)
 intro v w' ho hu;have HU:=zq hu;have hrd:=owns_reads ho;obtain ⟨ao,cap,rfl,hcap,-,-,-,h5⟩:=hrd;rcases ho.2 with ⟨hv,-⟩ | ⟨b,cap',cur,hv,-⟩
 ·simp only [Value.slice.injEq] at hv;omega
 simp only [Value.slice.injEq] at hv;obtain ⟨rfl,-,rfl⟩:=hv;obtain ⟨b',o',e,-,hc⟩:=h5 (by omega);simp only [Option.some.injEq,Addr.mk.injEq,and_true] at e;obtain ⟨rfl,rfl⟩:=e;have x0:=hc 0 (by omega);have x1:=hc 1 (by omega);rw [HL.out] at x0 x1;have X0:=zq x0;have X1:=zq x1;clear ho hu hc x0 x1 h5
 go_wp2_with fail
 go_ret
 exact ⟨b,cap,rfl,hcap,X0.out,X1.out,HU.out⟩
theorem mg_two:(madeCells #[.complex .f64 0 0] 2)=#[.complex .f64 0 0,.complex .f64 0 0]:=by kernel_rfl
theorem reset0 {m g:Nat} (h:Own B w0 W (blk g mgO::blk m (mtO g)::ss)):Calls Tryz.prog 96 #[.pointer (some ⟨m,0,none⟩)] W fun e w'=>e= .returned (.tuple #[])∧Own B w0 w' (blk g mgO::blk m (mtO g)::ss):=by
 have H:=zq h;have c0:=zaa (h.blkAt 1 rfl) 0 rfl;clear h;go_enter Tryz.func96,Tryz.ntmps96
 go_wp2_with fail
 go_loopw [8] (fun i wr=> ∃k:Nat,k≤2∧i= .int .i64 k∧Hid (Own B w0 wr (blk g mgO::blk m (mtO g)::ss))) (fun i _=>2-(intOf i).toNat)
 case atStart=>exact ⟨0,by omega,rfl,H⟩
 case round=>
  clear H c0;obtain ⟨k,hk,rfl,H⟩:=hrel;have c0:=zaa (H.out.blkAt 1 rfl) 0 rfl;by_cases hlt:k<2
  ·have hkI:(k:Int)<2:=by omega
   have hb:=H.out.blkAt 0 rfl;unfold mgO at hb;rw [mg_two] at hb;have f0:=zac hb k;have hcell:wr.cell? ⟨g,k,none⟩=some (.complex .f64 0 0):=by
    rcases (by omega:k=0∨k=1) with rfl | rfl
    ·exact zaa hb 0 rfl
    ·exact zaa hb 1 rfl
   have H2:Hid (Own B w0 (wr.setCell ⟨g,k,none⟩ (.complex .f64 0 0)) (blk g mgO::blk m (mtO g)::ss)):=zq (by
    refine Own.storeTo H.out k (.complex .f64 0 0) ?_;unfold mgO;rw [mg_two];rcases (by omega:k=0∨k=1) with rfl | rfl<;>rfl)
   have hst:(store ⟨g,k,none⟩ (.complex .f64 0 0)).run Tryz.prog wr= .ok () (wr.setCell ⟨g,k,none⟩ (.complex .f64 0 0)):=by
    rw [run_store _ _ _ _ _ rfl];simp [stored,hcell,f0]
   clear hb
   go_wp2_with fail
   go_roundw
   case rel=>exact ⟨k+1,by omega,by go_num,H2⟩
   case measure=>simp [intOf];omega
  ·have hkI:decide ((k:Int)<2)=false:=by simp;omega
   go_wp2_with fail
   refine bodyPost_end (results_none rfl _ _ _) rfl ?_;exact ⟨rfl,H.out⟩
theorem zmt (k:Int) (h:Own B w0 W (segR p 141 (ndT fl sh id nt t v1 tb vt gd bk mt pt bg v2 v3 st u bd sl sht fu)::ss)):Calls Tryz.prog 155 #[.pointer (some ⟨p,0,none⟩),.int .i64 k] W fun e w'=>e= .returned (.bool (zam 1 0 k==id))∧ ∃n,w'=W.drewN n:=by
 have HP:=zq (fun w=>zk9 1 0 k w (by omega) (by omega));obtain ⟨c0,-⟩:=zaf h 0 rfl 0 rfl;obtain ⟨c15,-⟩:=zaf h 0 rfl 15 rfl;obtain ⟨c29,-⟩:=zaf h 0 rfl 29 rfl;clear h;go_enter Tryz.func155,Tryz.ntmps155
 go_wp2_with fail
 go_quiet ((go_at_call 142;exact zap (HP.out _)))
 go_wp2_with fail
 go_ret
 exact ⟨rfl,_,rfl⟩
theorem old0 (h:Own B w0 W (segR p 141 (ndT fl sh id nt t v1 (.pointer (some ⟨tbb,0,none⟩)) vt gd bk mt pt bg v2 v3 st u bd sl sht fu)::blk tbb tabO::ss)):Calls Tryz.prog 93 #[.pointer (some ⟨p,0,none⟩)] W fun e w'=>e= .returned (.bool false)∧W=w':=by
 have HR:=zq (ready0 (h.blkAt 1 rfl));obtain ⟨c19,-⟩:=zaf h 0 rfl 19 rfl;clear h;go_enter Tryz.func93,Tryz.ntmps93
 go_wp2_with fail
 refine HR.out.mono ?_;rintro e w' ⟨rfl,rfl⟩
 go_wp2_with fail
 go_loop [13] (fun i=>i= .int .i64 0) (fun _=>0)
 case atStart=>rfl
 case round=>
  subst hrel
  go_wp2_with fail
  go_ret
  exact ⟨rfl,rfl⟩
end
theorem new_at {f:Nat} {num ah s:Int}:plAt (newI f num ah) s=none∨plAt (newI f num ah) s=some (zbq f):=by
 unfold plAt newI;cases idx s with
 | none=>exact .inl rfl
 | some k=>
  simp only [Option.bind_some,List.getElem?_replicate];split
  ·exact .inr rfl
  ·exact .inl rfl
theorem zsp (f:Nat) (num ah s:Int):(zau (newI f num ah) s).2=false:=by
 unfold zau;rcases new_at (f:=f) (num:=num) (ah:=ah) (s:=s) with h | h<;>rw [h]<;>rfl
theorem zkr (f:Nat) (num ah s:Int):zai (newI f num ah) s=none:=by
 unfold zai;rcases new_at (f:=f) (num:=num) (ah:=ah) (s:=s) with h | h<;>rw [h]<;>rfl
theorem zif (f:Nat): ∀n,zdy (List.replicate n (zbq f))=0
 | 0=>rfl
 | n+1=>by rw [List.replicate_succ,zdy,zif f n];rfl
theorem new_next (f:Nat) (num ah:Int):nextI (newI f num ah)=1:=by unfold nextI newI;rw [zif]
theorem zms (f:Nat) (num ah:Int):doneI (newI f num ah)=0:=by unfold doneI newI;rfl
section
variable {B:Nat} {w0 w W:World} {ss:List Res} {p gd t nt ia ic i:Nat} {fl sh id now st u bd sl sht fu num:Int} {tb vt bk mt pt bg v2 v3 q0 q1:Value}
abbrev inR (ia ic:Nat) (q0 q1:Value):Res:=ownR 142 1 (.slice (some ⟨ia,0,none⟩) 2 ic) 2 [q0,q1]
theorem zck {A:List Nat} (h:(inR ia ic q0 q1).At w A):w.cell? ⟨ia,0,none⟩=some q0∧w.cell? ⟨ia,1,none⟩=some q1:=by
 obtain ⟨-,q2,-⟩:=zd1 (zjh h);exact ⟨q2 0 (by simp),q2 1 (by simp)⟩
abbrev nqL (p gd nt t ia ic:Nat) (fl sh id:Int) (tb vt bk mt pt bg v2 v3:Value) (st u bd sl sht fu:Int) (q0 q1:Value) (ss:List Res):List Res:=
 segR p 141 (ndT fl sh id nt t (.slice (some ⟨ia,0,none⟩) 2 ic) tb vt gd bk mt pt bg v2 v3 st u bd sl sht fu)::inR ia ic q0 q1::ss
theorem slots0 (k:Nat) (hk:k<2) (hq:(k=0∧q0= .pointer (some ⟨i,0,none⟩))∨(k=1∧q1= .pointer (some ⟨i,0,none⟩))) (h:AtI B w0 W i (newI 1 num 4) (nqL p gd nt t ia ic fl sh id tb vt bk mt pt bg v2 v3 st u bd sl sht fu q0 q1 ss)):
  Calls Tryz.prog 162 #[.pointer (some ⟨p,0,none⟩),.int .i64 k] W fun e w'=>e= .returned (.tuple #[])∧AtI B w0 w' i (newI 1 num 4) (nqL p gd nt t ia ic fl sh id tb vt bk mt pt bg v2 v3 st u bd sl sht fu q0 q1 ss):=by
 have H:=zq h;obtain ⟨c18,-⟩:=zaf h.ss_own 0 rfl 18 rfl;obtain ⟨r0,r1⟩:=zck (h.ss_own.get 1 rfl);have hkI:(k:Int)<2:=by omega
 have rk:W.cell? ⟨ia,k,none⟩=some (.pointer (some ⟨i,0,none⟩)):=by
  rcases hq with ⟨rfl,rfl⟩ | ⟨rfl,rfl⟩
  ·exact r0
  ·exact r1
 clear h r0 r1 hq;go_enter Tryz.func162,Tryz.ntmps162
 go_wp2_with fail
 refine (zex H.out).mono ?_;rintro e w' ⟨rfl,rfl⟩;have hon:(newI 1 num 4).on=true:=rfl;rw [hon];clear c18 rk hon
 go_wp2_with fail
 go_loopw [5] (fun s wr=> ∃n:Nat,n≤16∧s= .int .i64 ((n:Int)+1)∧Hid (AtI B w0 wr i (newI 1 num 4) (nqL p gd nt t ia ic fl sh id tb vt bk mt pt bg v2 v3 st u bd sl sht fu q0 q1 ss))) (fun s _=>17-(intOf s).toNat)
 case atStart=>exact ⟨0,by omega,rfl,H⟩
 case round=>
  clear H;obtain ⟨n,hn,rfl,H⟩:=hrel;by_cases hlt:n<16
  ·have hnI:(n:Int)+1≤16:=by omega
   have HC:=zq (znm H.out ((n:Int)+1));have hc2:=zsp 1 num 4 ((n:Int)+1)
   go_wp2_with fail
   refine HC.out.mono ?_;rintro e w1 ⟨v,rfl,hu,-,-⟩;rw [hc2];have H1:=zq (H.out.upd0 hu);have HM:=zq (zl6 H1.out ((n:Int)+1));clear HC hc2 hu H
   go_wp2_with fail
   refine HM.out.mono ?_;rintro e w2 ⟨c,rfl,ht,h2⟩;rw [zkr] at ht⊢;obtain ⟨ao,cap,co,cav,rfl,-⟩:=zxt ht (p:=⟨0,0,0,[],[]⟩) rfl;have H2:=zq h2;clear ht h2 HM H1;simp only [List.length_nil,ctAgg,Option.isSome_none]
   go_wp2_with fail
   go_roundw
   case rel=>exact ⟨n+1,by omega,by go_num,zq (H2.out.alloc _)⟩
   case measure=>simp [intOf];omega
  ·have hnI:decide ((n:Int)+1≤16)=false:=by simp;omega
   go_wp2_with fail
   refine bodyPost_end (results_none rfl _ _ _) rfl ?_;exact ⟨rfl,H.out⟩
end
theorem zbs {P:Program} {f:FuncId} {args:Array Value} {w:World} {n:Nat} {v:Value} (h:Calls P f args (w.drewN n) fun e w'=>e= .returned v∧ ∃m,w'=(w.drewN n).drewN m):Calls P f args (w.drewN n) fun e w''=>e= .returned v∧ ∃m,w''=w.drewN m:=
 h.mono fun _ _ ⟨he,m,hm⟩=>⟨he,n+m,by rw [hm];simp [World.drewN,Nat.add_assoc]⟩
section
variable {B:Nat} {w0 w W:World} {ss:List Res} {p gd t nt ia ic i tbb:Nat} {fl sh id now st u bd sl sht fu num:Int} {tb vt bk mt pt bg v2 v3 q0 q1:Value}
theorem ztj (k:Nat) (hk:k<2) (hq:(k=0∧q0= .pointer (some ⟨i,0,none⟩))∨(k=1∧q1= .pointer (some ⟨i,0,none⟩))) (h:AtI B w0 W i (newI 1 num 4) (nqL p gd nt t ia ic fl sh id (.pointer (some ⟨tbb,0,none⟩)) vt bk mt pt bg v2 v3 st u bd sl sht fu q0 q1 (blk tbb tabO::ss))):
  Calls Tryz.prog 89 #[.pointer (some ⟨p,0,none⟩),.int .i64 k] W fun e w'=>e= .returned (.tuple #[])∧Upd [] W w':=by
 have H:=zq h;obtain ⟨c18,-⟩:=zaf h.ss_own 0 rfl 18 rfl;obtain ⟨c19,-⟩:=zaf h.ss_own 0 rfl 19 rfl;obtain ⟨c3,-⟩:=zaf h.ss_own 0 rfl 3 rfl;obtain ⟨r0,r1⟩:=zck (h.ss_own.get 1 rfl);have hkI:(k:Int)<2:=by omega
 have rk:W.cell? ⟨ia,k,none⟩=some (.pointer (some ⟨i,0,none⟩)):=by
  rcases hq with ⟨rfl,rfl⟩ | ⟨rfl,rfl⟩
  ·exact r0
  ·exact r1
 clear h r0 r1 hq;have HX:Hid (∀w,Upd [] W w→Calls Tryz.prog 154 #[.pointer (some ⟨i,0,none⟩)] w fun e w'=>e= .returned (.int .i64 1)∧Upd [] w w'):=zq (fun w hu=>(zx6 (H.out.upd0 hu)).mono (by rw [new_next];exact fun _ _ h=>h));have HI:Hid (∀w,Upd [] W w→Calls Tryz.prog 73 #[.pointer (some ⟨i,0,none⟩)] w fun e w'=>e= .returned (.bool true)∧w=w'):=zq (fun w hu=>zex (H.out.upd0 hu));have HD:Hid (∀w,Upd [] W w→Calls Tryz.prog 156 #[.pointer (some ⟨i,0,none⟩)] w fun e w'=>e= .returned (.int .i64 0)∧w=w'):=zq (fun w hu=>(zx5 (H.out.upd0 hu)).mono (by rw [zms];exact fun _ _ h=>h));have HP:=zq (fun w (hu:Upd [] W w)=>zmt (k:Int) (H.out.upd0 hu).ss_own);have HR:=zq (fun w (hu:Upd [] W w)=>ready0 ((H.out.upd0 hu).ss_own.blkAt 2 rfl));go_enter Tryz.func89,Tryz.ntmps89
 go_wp2_with fail
 refine (HX.out _ (Upd.refl _ _)).mono ?_;rintro e w1 ⟨rfl,hu⟩;have HU:=zq hu;have d3:=zaj hu c3;have d19:=zaj hu c19;clear hu HX c18 c19 c3 rk H;cases hp:(zam 1 0 (k:Int)==id) with
 | false=>
  rw [hp] at HP
  go_wp2_with fail
  go_quiet (first | (go_at_call 73;exact zap (HI.out _ (HU.out.drewN _))) | (go_at_call 155;exact zbs (HP.out _ (HU.out.drewN _))))
  go_wp2_with fail
  refine bodyPost_ret (results_none rfl _ _ _) rfl ?_;exact ⟨rfl,HU.out.drewN _⟩
 | true=>
  rw [hp] at HP
  go_wp2_with fail
  go_quiet (first | (go_at_call 73;exact zap (HI.out _ (HU.out.drewN _))) | (go_at_call 156;exact zap (HD.out _ (HU.out.drewN _))) | (go_at_call 155;exact zbs (HP.out _ (HU.out.drewN _))))
  go_wp2_with fail
  refine (HR.out _ (HU.out.drewN _)).mono ?_;rintro e w2 ⟨rfl,rfl⟩
  go_wp2_with fail
  go_loop [6,49] (fun b i=>b= .slice none 0 0∧i= .int .i64 0) (fun _ _=>0)
  case atStart=>exact ⟨rfl,rfl⟩
  case round=>
   obtain ⟨rfl,rfl⟩:=hrel
   go_wp2_with fail
   first | refine bodyPost_ret (results_none rfl _ _ _) rfl ?_ | refine bodyPost_end (results_none rfl _ _ _) rfl ?_
   exact ⟨rfl,HU.out.drewN _⟩
abbrev twoL (x0 x1:Ins) (l:List Res):List Res:=instR x0::instR x1::l
abbrev ptrI (x:Ins):Value:= .pointer (some ⟨x.i,0,none⟩)
theorem all0 {x0 x1:Ins} (e0:x0.st=newI 1 0 4) (e1:x1.st=newI 1 1 4) (h:Own B w0 W (twoL x0 x1 (nqL p gd nt t ia ic fl sh id tb vt bk mt pt bg v2 v3 st u bd sl sht fu (ptrI x0) (ptrI x1) ss))):
  Calls Tryz.prog 163 #[.pointer (some ⟨p,0,none⟩)] W fun e w'=>e= .returned (.bool true)∧W=w':=by
 have HI0:Hid (Calls Tryz.prog 73 #[ptrI x0] W fun e w'=>e= .returned (.bool true)∧W=w'):=zq ((zdk h rfl).mono (by
  have:x0.on=true:=congrArg In.on e0;rw [this];exact fun _ _ h=>h))
 have HI1:Hid (Calls Tryz.prog 73 #[ptrI x1] W fun e w'=>e= .returned (.bool true)∧W=w'):=zq ((zdk h.swap rfl).mono (by
  have:x1.on=true:=congrArg In.on e1;rw [this];exact fun _ _ h=>h))
 obtain ⟨c18,-⟩:=zaf h 2 rfl 18 rfl;obtain ⟨r0,r1⟩:=zck (h.get 3 rfl);clear h e0 e1;go_enter Tryz.func163,Tryz.ntmps163
 go_wp2_with fail
 go_loop [10] (fun i=> ∃k:Nat,k≤2∧i= .int .i64 k) (fun i=>2-(intOf i).toNat)
 case atStart=>exact ⟨0,by omega,rfl⟩
 case round=>
  obtain ⟨k,hk,rfl⟩:=hrel;rcases (by omega:k=0∨k=1∨k=2) with rfl | rfl | rfl
  ·go_wp2_with fail
   refine HI0.out.mono ?_;rintro e w' ⟨rfl,rfl⟩
   go_wp2_with fail
   go_round
   case rel=>exact ⟨1,by omega,rfl⟩
   case measure=>simp [intOf]
  ·go_wp2_with fail
   refine HI1.out.mono ?_;rintro e w' ⟨rfl,rfl⟩
   go_wp2_with fail
   go_round
   case rel=>exact ⟨2,by omega,rfl⟩
   case measure=>simp [intOf]
  ·go_wp2_with fail
   go_ret
   exact ⟨rfl,rfl⟩
end
section
variable {B:Nat} {w0 w W:World} {ss:List Res} {p gd t nt ia ic i0 i1 tbb bgb:Nat} {fl sh id now st u bd sl sht fu num:Int} {tb vt bk mt pt bg v2 v3 q0 q1:Value}
def TwoI (B:Nat) (w0 W:World) (i0 i1:Nat) (rest:List Res):Prop:= ∃x0 x1:Ins,x0.i=i0∧x1.i=i1∧x0.st=newI 1 0 4∧x1.st=newI 1 1 4∧Own B w0 W (instR x0::instR x1::rest)
theorem TwoI.upd0 {W':World} {rest:List Res} (h:TwoI B w0 W i0 i1 rest) (hu:Upd [] W W'):TwoI B w0 W' i0 i1 rest:=let ⟨x0,x1,a,b,c,d,e⟩:=h;⟨x0,x1,a,b,c,d,e.upd0 hu⟩
theorem TwoI.own {rest:List Res} (h:TwoI B w0 W i0 i1 rest):Own B w0 W rest:=let ⟨_,_,_,_,_,_,e⟩:=h;e.drop.drop
theorem TwoI.at0 {r1 r2:Res} {rest:List Res} (h:TwoI B w0 W i0 i1 (r1::r2::rest)): ∃x1:Ins,x1.i=i1∧x1.st=newI 1 1 4∧AtI B w0 W i0 (newI 1 0 4) (r1::r2::instR x1::rest):=by
 obtain ⟨x0,x1,a,b,c,d,e⟩:=h;exact ⟨x1,b,d,x0,a,c,e.perm ((List.perm_append_comm (l₁:=[instR x1]) (l₂:=[r1,r2]) |>.append_right _).cons _)⟩
theorem TwoI.of0 {r1 r2:Res} {rest:List Res} {x1:Ins} (b:x1.i=i1) (d:x1.st=newI 1 1 4) (h:AtI B w0 W i0 (newI 1 0 4) (r1::r2::instR x1::rest)):TwoI B w0 W i0 i1 (r1::r2::rest):=by
 obtain ⟨x0,a,c,e⟩:=h;exact ⟨x0,x1,a,b,c,d,e.perm ((List.perm_append_comm (l₁:=[r1,r2]) (l₂:=[instR x1]) |>.append_right _).cons _)⟩
theorem TwoI.at1 {r1 r2:Res} {rest:List Res} (h:TwoI B w0 W i0 i1 (r1::r2::rest)): ∃x0:Ins,x0.i=i0∧x0.st=newI 1 0 4∧AtI B w0 W i1 (newI 1 1 4) (r1::r2::instR x0::rest):=by
 obtain ⟨x0,x1,a,b,c,d,e⟩:=h;exact ⟨x0,a,c,x1,b,d,e.swap.perm ((List.perm_append_comm (l₁:=[instR x0]) (l₂:=[r1,r2]) |>.append_right _).cons _)⟩
theorem TwoI.of1 {r1 r2:Res} {rest:List Res} {x0:Ins} (b:x0.i=i0) (d:x0.st=newI 1 0 4) (h:AtI B w0 W i1 (newI 1 1 4) (r1::r2::instR x0::rest)):TwoI B w0 W i0 i1 (r1::r2::rest):=by
 obtain ⟨x1,a,c,e⟩:=h;have e2:Own B w0 W (instR x1::instR x0::r1::r2::rest):=e.perm ((List.perm_append_comm (l₁:=[r1,r2]) (l₂:=[instR x0]) |>.append_right _).cons _);exact ⟨x0,x1,b,a,d,c,e2.swap⟩
abbrev pI (i:Nat):Value:= .pointer (some ⟨i,0,none⟩)
abbrev qqL (p gd nt t ia ic i0 i1:Nat) (fl sh id:Int) (tb vt bk mt pt bg v2 v3:Value) (st u bd sl sht fu:Int) (ss:List Res):List Res:=nqL p gd nt t ia ic fl sh id tb vt bk mt pt bg v2 v3 st u bd sl sht fu (pI i0) (pI i1) ss
theorem zxe (k:Nat) (hk:k<2) (h:TwoI B w0 W i0 i1 (qqL p gd nt t ia ic i0 i1 fl sh id tb vt bk mt pt bg v2 v3 st u bd sl sht fu ss)):
  Calls Tryz.prog 162 #[.pointer (some ⟨p,0,none⟩),.int .i64 k] W fun e w'=>e= .returned (.tuple #[])∧TwoI B w0 w' i0 i1 (qqL p gd nt t ia ic i0 i1 fl sh id tb vt bk mt pt bg v2 v3 st u bd sl sht fu ss):=by
 rcases (by omega:k=0∨k=1) with rfl | rfl
 ·obtain ⟨x1,a,b,h1⟩:=h.at0
  exact (slots0 0 (by omega) (.inl ⟨rfl,rfl⟩) h1).mono fun e w' ⟨q1,q2⟩=>⟨q1,TwoI.of0 a b q2⟩
 ·obtain ⟨x0,a,b,h1⟩:=h.at1
  exact (slots0 1 (by omega) (.inr ⟨rfl,rfl⟩) h1).mono fun e w' ⟨q1,q2⟩=>⟨q1,TwoI.of1 a b q2⟩
theorem zp9 (k:Nat) (hk:k<2) (h:TwoI B w0 W i0 i1 (qqL p gd nt t ia ic i0 i1 fl sh id (pI tbb) vt bk mt pt bg v2 v3 st u bd sl sht fu (blk tbb tabO::ss))):
  Calls Tryz.prog 89 #[.pointer (some ⟨p,0,none⟩),.int .i64 k] W fun e w'=>e= .returned (.tuple #[])∧Upd [] W w':=by
 rcases (by omega:k=0∨k=1) with rfl | rfl
 ·obtain ⟨x0,x1,a,b,c,d,e⟩:=h
  have e':Own B w0 W (instR x0::(qqL p gd nt t ia ic i0 i1 fl sh id (pI tbb) vt bk mt pt bg v2 v3 st u bd sl sht fu (blk tbb tabO::instR x1::ss))):=e.perm ((List.perm_append_comm (l₁:=[instR x1]) (l₂:=[_,_,_]) |>.append_right _).cons _);exact ztj 0 (by omega) (.inl ⟨rfl,rfl⟩) ⟨x0,a,c,e'⟩
 ·obtain ⟨x0,x1,a,b,c,d,e⟩:=h
  have e':Own B w0 W (instR x1::(qqL p gd nt t ia ic i0 i1 fl sh id (pI tbb) vt bk mt pt bg v2 v3 st u bd sl sht fu (blk tbb tabO::instR x0::ss))):=e.swap.perm ((List.perm_append_comm (l₁:=[instR x0]) (l₂:=[_,_,_]) |>.append_right _).cons _);exact ztj 1 (by omega) (.inr ⟨rfl,rfl⟩) ⟨x1,b,d,e'⟩
theorem all_two (h:TwoI B w0 W i0 i1 (qqL p gd nt t ia ic i0 i1 fl sh id tb vt bk mt pt bg v2 v3 st u bd sl sht fu ss)):
  Calls Tryz.prog 163 #[.pointer (some ⟨p,0,none⟩)] W fun e w'=>e= .returned (.bool true)∧W=w':=by
 obtain ⟨x0,x1,rfl,rfl,c,d,e⟩:=h;exact all0 c d e
theorem zdq {rest:List Res} (h:TwoI B w0 W i0 i1 rest):(Calls Tryz.prog 73 #[pI i0] W fun e w'=>e= .returned (.bool true)∧W=w')∧
  (Calls Tryz.prog 156 #[pI i0] W fun e w'=>e= .returned (.int .i64 0)∧W=w')∧Calls Tryz.prog 156 #[pI i1] W fun e w'=>e= .returned (.int .i64 0)∧W=w':=by
 obtain ⟨x0,x1,rfl,rfl,c,d,e⟩:=h;refine ⟨(zdk e rfl).mono ?_,(zmj e rfl).mono ?_,(zmj e.swap rfl).mono ?_⟩
 ·have h9:x0.on=true:=congrArg In.on c
  rw [h9];exact fun _ _ h=>h
 ·rw [c];intro _ _ h;have:=zms 1 0 4;unfold DoneP at h;rw [this] at h;exact h
 ·rw [d];intro _ _ h;have:=zms 1 1 4;unfold DoneP at h;rw [this] at h;exact h
theorem zx8:(madeCells #[.int .i64 0,.int .i64 0,.int .i64 0,.int .i64 0,.int .i64 0,.int .i64 0,.int .i64 0,.slice none 0 0,.slice none 0 0,.slice none 0 0,.slice none 0 0] 22)=#[.int .i64 0,.int .i64 0,.int .i64 0,.int .i64 0,.int .i64 0,.int .i64 0,.int .i64 0,.slice none 0 0,.slice none 0 0,.slice none 0 0,.slice none 0 0,.int .i64 0,.int .i64 0,.int .i64 0,.int .i64 0,.int .i64 0,.int .i64 0,.int .i64 0,.slice none 0 0,.slice none 0 0,.slice none 0 0,.slice none 0 0]:=by kernel_rfl
theorem again0 (h:TwoI B w0 W i0 i1 (qqL p gd nt t ia ic i0 i1 fl sh id (pI tbb) vt bk mt pt (.slice (some ⟨bgb,0,none⟩) 2 2) v2 v3 st u bd sl sht fu (blk tbb tabO::blk bgb bgO::ss))):
  Calls Tryz.prog 91 #[.pointer (some ⟨p,0,none⟩)] W fun e w'=>e= .returned (.tuple #[])∧TwoI B w0 w' i0 i1 (qqL p gd nt t ia ic i0 i1 fl sh id (pI tbb) vt bk mt pt (.slice (some ⟨bgb,0,none⟩) 2 2) v2 v3 st u bd sl sht fu (blk tbb tabO::blk bgb bgO::ss)):=by
 have H:=zq h;obtain ⟨c18,-⟩:=zaf h.own 0 rfl 18 rfl;clear h;go_enter Tryz.func91,Tryz.ntmps91
 go_wp2_with fail
 go_loopw [18] (fun i wr=> ∃k:Nat,k≤2∧i= .int .i64 k∧Hid (TwoI B w0 wr i0 i1 (qqL p gd nt t ia ic i0 i1 fl sh id (pI tbb) vt bk mt pt (.slice (some ⟨bgb,0,none⟩) 2 2) v2 v3 st u bd sl sht fu (blk tbb tabO::blk bgb bgO::ss)))) (fun i _=>2-(intOf i).toNat)
 case atStart=>exact ⟨0,by omega,rfl,H⟩
 case round=>
  clear H c18;obtain ⟨k,hk,rfl,H⟩:=hrel;by_cases hlt:k<2
  ·have hkI:(k:Int)<2:=by omega
   have HS:=zq (zxe k hlt H.out)
   go_wp2_with fail
   refine HS.out.mono ?_;rintro e w1 ⟨rfl,h1⟩;have H1:=zq h1;clear h1 HS
   go_wp2_with fail
   go_roundw
   case rel=>exact ⟨k+1,by omega,by go_num,H1⟩
   case measure=>simp [intOf];omega
  ·have hkI:decide ((k:Int)<2)=false:=by simp;omega
   obtain ⟨c29,-⟩:=zaf H.out.own 0 rfl 29 rfl;obtain ⟨c30,-⟩:=zaf H.out.own 0 rfl 30 rfl
   go_wp2_with fail
   go_quiet (fail)
   go_wp2_with fail
   refine (all_two (TwoI.upd0 H.out ((Upd.refl _ _).drewN _))).mono ?_;rintro e w2 ⟨rfl,rfl⟩;obtain ⟨c25,-⟩:=zaf H.out.own 0 rfl 25 rfl;have H2:=zq (fun n=>TwoI.upd0 H.out ((Upd.refl _ _).drewN n))
   go_upto_block 2 with fail
   go_cut [] (fun wr=>Hid (TwoI B w0 wr i0 i1 (qqL p gd nt t ia ic i0 i1 fl sh id (pI tbb) vt bk mt pt (.slice (some ⟨bgb,0,none⟩) 2 2) v2 v3 st u bd sl sht fu (blk tbb tabO::blk bgb bgO::ss))))
   case first=>
    go_wp2_with fail
    go_loopw [71] (fun i wr=> ∃k:Nat,k≤2∧i= .int .i64 k∧Hid (TwoI B w0 wr i0 i1 (qqL p gd nt t ia ic i0 i1 fl sh id (pI tbb) vt bk mt pt (.slice (some ⟨bgb,0,none⟩) 2 2) v2 v3 st u bd sl sht fu (blk tbb tabO::blk bgb bgO::ss)))) (fun i _=>2-(intOf i).toNat)
    case atStart=>exact ⟨0,by omega,rfl,zq (H2.out _)⟩
    case round=>
     clear H H2 c25 c29 c30 hlt hkI;obtain ⟨k,hk,rfl,H⟩:=hrel;rcases (by omega:k=0∨k=1∨k=2) with rfl | rfl | rfl
     ·have hb:=H.out.own.blkAt 3 rfl
      unfold bgO at hb;rw [zx8] at hb;have y0:wr.cell? ⟨bgb,0,none⟩=some (.int .i64 0):=zaa hb 0 rfl;have y1:wr.cell? ⟨bgb,1,none⟩=some (.int .i64 0):=zaa hb 1 rfl;have y2:wr.cell? ⟨bgb,2,none⟩=some (.int .i64 0):=zaa hb 2 rfl;have y3:wr.cell? ⟨bgb,3,none⟩=some (.int .i64 0):=zaa hb 3 rfl;have y4:wr.cell? ⟨bgb,4,none⟩=some (.int .i64 0):=zaa hb 4 rfl;have y5:wr.cell? ⟨bgb,5,none⟩=some (.int .i64 0):=zaa hb 5 rfl;have y6:wr.cell? ⟨bgb,6,none⟩=some (.int .i64 0):=zaa hb 6 rfl;have y7:wr.cell? ⟨bgb,7,none⟩=some (.slice none 0 0):=zaa hb 7 rfl;have y8:wr.cell? ⟨bgb,8,none⟩=some (.slice none 0 0):=zaa hb 8 rfl;have y9:wr.cell? ⟨bgb,9,none⟩=some (.slice none 0 0):=zaa hb 9 rfl;have y10:wr.cell? ⟨bgb,10,none⟩=some (.slice none 0 0):=zaa hb 10 rfl;have hlb:=block_lt hb;obtain ⟨c29,-⟩:=zaf H.out.own 0 rfl 29 rfl;have hpl:p<wr.heap.size:=Held.cell_size c29;clear hb
      go_wp2_with fail
      go_quiet (fail)
      go_wp2_with fail
      go_roundw
      case rel=>exact ⟨1,by omega,rfl,zq (H.out.upd0 (((Upd.refl _ _).alloc _).drewN _))⟩
      case measure=>simp [intOf]
     ·have hb:=H.out.own.blkAt 3 rfl
      unfold bgO at hb;rw [zx8] at hb;have y0:wr.cell? ⟨bgb,11,none⟩=some (.int .i64 0):=zaa hb 11 rfl;have y1:wr.cell? ⟨bgb,12,none⟩=some (.int .i64 0):=zaa hb 12 rfl;have y2:wr.cell? ⟨bgb,13,none⟩=some (.int .i64 0):=zaa hb 13 rfl;have y3:wr.cell? ⟨bgb,14,none⟩=some (.int .i64 0):=zaa hb 14 rfl;have y4:wr.cell? ⟨bgb,15,none⟩=some (.int .i64 0):=zaa hb 15 rfl;have y5:wr.cell? ⟨bgb,16,none⟩=some (.int .i64 0):=zaa hb 16 rfl;have y6:wr.cell? ⟨bgb,17,none⟩=some (.int .i64 0):=zaa hb 17 rfl;have y7:wr.cell? ⟨bgb,18,none⟩=some (.slice none 0 0):=zaa hb 18 rfl;have y8:wr.cell? ⟨bgb,19,none⟩=some (.slice none 0 0):=zaa hb 19 rfl;have y9:wr.cell? ⟨bgb,20,none⟩=some (.slice none 0 0):=zaa hb 20 rfl;have y10:wr.cell? ⟨bgb,21,none⟩=some (.slice none 0 0):=zaa hb 21 rfl;have hlb:=block_lt hb;obtain ⟨c29,-⟩:=zaf H.out.own 0 rfl 29 rfl;have hpl:p<wr.heap.size:=Held.cell_size c29;clear hb
      go_wp2_with fail
      go_quiet (fail)
      go_wp2_with fail
      go_roundw
      case rel=>exact ⟨2,by omega,rfl,zq (H.out.upd0 (((Upd.refl _ _).alloc _).drewN _))⟩
      case measure=>simp [intOf]
     ·go_wp2_with fail
      go_meet
      exact H
   case rest=>
    clear H H2 hkI hlt c29 c30 c25;have H:=hcut;clear hcut;obtain ⟨c18,-⟩:=zaf H.out.own 0 rfl 18 rfl
    go_wp2_with fail
    obtain ⟨r0,r1⟩:=zck (H.out.own.get 1 rfl);obtain ⟨-,HD0,HD1⟩:=zdq H.out;have HD0:=zq HD0;have HD1:=zq HD1
    go_loop [97] (fun i=> ∃k:Nat,k≤2∧i= .int .i64 k) (fun i=>2-(intOf i).toNat)
    case atStart=>exact ⟨0,by omega,rfl⟩
    case round=>
     obtain ⟨k,hk,rfl⟩:=hrel;rcases (by omega:k=0∨k=1∨k=2) with rfl | rfl | rfl
     ·go_wp2_with fail
      refine HD0.out.mono ?_;rintro e w' ⟨rfl,rfl⟩
      go_wp2_with fail
      go_round
      case rel=>exact ⟨1,by omega,rfl⟩
      case measure=>simp [intOf]
     ·go_wp2_with fail
      refine HD1.out.mono ?_;rintro e w' ⟨rfl,rfl⟩
      go_wp2_with fail
      go_round
      case rel=>exact ⟨2,by omega,rfl⟩
      case measure=>simp [intOf]
     ·obtain ⟨c19,-⟩:=zaf H.out.own 0 rfl 19 rfl
      have HT:=zq (tall0 (H.out.own.blkAt 2 rfl));clear HD0 HD1 r0 r1
      go_wp2_with fail
      refine HT.out.mono ?_;rintro e w' ⟨rfl,rfl⟩
      go_wp2_with fail
      go_loop [136] (fun i=>i= .int .i64 0) (fun _=>0)
      case atStart=>rfl
      case round=>
       subst hrel
       go_wp2_with fail
       first | refine bodyPost_end (results_none rfl _ _ _) rfl ?_ | refine bodyPost_ret (results_none rfl _ _ _) rfl ?_
       exact ⟨rfl,H.out⟩
end
end Go.Proofs.YtannckelmojkoaaGreat
