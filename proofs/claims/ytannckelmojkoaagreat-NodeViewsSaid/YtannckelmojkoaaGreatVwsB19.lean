/- Parts of the proof, one behind the other. -/
import Derived.Test.YtannckelmojkoaaGreatVwsB18
set_option maxHeartbeats 32000000
set_option maxRecDepth 100000
set_option linter.unusedVariables false
set_option linter.unusedSimpArgs false
namespace Go.Proofs.YtannckelmojkoaaGreat
open Go.RowKit Go.Heap
theorem zv0 {W:World} (cs:Array Value) (T:TypeId) (n b:Nat) (hb:W.heap.size=b) (hn:cs.size=n) (hm:n≤1000):Reads (W.alloc (.cells cs T (0,0))) (.slice (some ⟨b,0,none⟩) n n) 1 n cs.toList:=by
 subst hb;refine ⟨_,n,rfl,Nat.le_refl _,by unfold maxLen;omega,by simp [hn],(fun e=>by cases e),fun _=>⟨W.heap.size,0,rfl,by simp,fun j hj=> ?_⟩⟩;rw [zac (heap_alloc_new W _)];simp
def ze7 (l:Nt) (cl:Int) (rs:List Rq) (k:Nat):Bool:=rqSealed l cl (reqAt rs k)&&(decide (k=0) || decide (cmpRq (reqAt rs (k-1)) (reqAt rs k)<0))
def ze8 (l:Nt) (most cl:Int) (rs:List Rq):Bool:=decide ((rs.length:Int)≤most)&&allR rs.length (ze7 l cl rs)
section
variable {B:Nat} {w0 w W W':World} {ss rs:List Res} {nt nm:Nat} {v bv:Value} {l:Nt}
theorem zoy (a b:Rq) (W:World):Calls Tryz.prog 257 #[rqAgg a,rqAgg b] W fun e w'=>e= .returned (.int .i64 (cmpRq a b))∧Upd [] W w':=by
 have h1:=(((Own.start (Below.refl W.heap.size W) (Nat.le_refl _)).box (rqO a)).box (rqO b)).drew;simp only [zav] at h1;have x0:((W.alloc (rqO a)).alloc (rqO b)).drew.cell? ⟨W.heap.size,0,none⟩=some (.int .i64 a.client):=zaa (h1.blkAt 1 rfl) 0 rfl;have y0:((W.alloc (rqO a)).alloc (rqO b)).drew.cell? ⟨W.heap.size+1,0,none⟩=some (.int .i64 b.client):=zaa (h1.blkAt 0 rfl) 0 rfl;have x1:((W.alloc (rqO a)).alloc (rqO b)).drew.cell? ⟨W.heap.size,1,none⟩=some (.int .i64 a.time):=zaa (h1.blkAt 1 rfl) 1 rfl;have y1:((W.alloc (rqO a)).alloc (rqO b)).drew.cell? ⟨W.heap.size+1,1,none⟩=some (.int .i64 b.time):=zaa (h1.blkAt 0 rfl) 1 rfl;have x2:((W.alloc (rqO a)).alloc (rqO b)).drew.cell? ⟨W.heap.size,2,none⟩=some (.int .i64 a.kind):=zaa (h1.blkAt 1 rfl) 2 rfl;have y2:((W.alloc (rqO a)).alloc (rqO b)).drew.cell? ⟨W.heap.size+1,2,none⟩=some (.int .i64 b.kind):=zaa (h1.blkAt 0 rfl) 2 rfl;have x3:((W.alloc (rqO a)).alloc (rqO b)).drew.cell? ⟨W.heap.size,3,none⟩=some (.int .i64 a.key):=zaa (h1.blkAt 1 rfl) 3 rfl;have y3:((W.alloc (rqO a)).alloc (rqO b)).drew.cell? ⟨W.heap.size+1,3,none⟩=some (.int .i64 b.key):=zaa (h1.blkAt 0 rfl) 3 rfl;have x4:((W.alloc (rqO a)).alloc (rqO b)).drew.cell? ⟨W.heap.size,4,none⟩=some (.int .i64 a.val):=zaa (h1.blkAt 1 rfl) 4 rfl;have y4:((W.alloc (rqO a)).alloc (rqO b)).drew.cell? ⟨W.heap.size+1,4,none⟩=some (.int .i64 b.val):=zaa (h1.blkAt 0 rfl) 4 rfl;have x5:((W.alloc (rqO a)).alloc (rqO b)).drew.cell? ⟨W.heap.size,5,none⟩=some (.int .i64 a.sl):=zaa (h1.blkAt 1 rfl) 5 rfl;have y5:((W.alloc (rqO a)).alloc (rqO b)).drew.cell? ⟨W.heap.size+1,5,none⟩=some (.int .i64 b.sl):=zaa (h1.blkAt 0 rfl) 5 rfl;have hu:Upd [] W ((W.alloc (rqO a)).alloc (rqO b)).drew:=Upd.of_below h1.below;have HU:=zq hu;have HC:=zq (fun x y (w:World)=>zqj x y w);have HE:Hid (cmpRq a b=orI [cmpI a.client b.client,cmpI a.time b.time,cmpI a.kind b.kind,cmpI a.key b.key,cmpI a.val b.val,cmpI a.sl b.sl]):=zq rfl;have HO:=zq (fun (w:World) n (hn:w.heap.size=n) xs (hx:xs.length=6) (cs:Array Value) (hc:cs.toList=intC xs)=>zvg (xs:=xs) (by rw [hx,←hc];exact zv0 (W:=w) cs 3 6 n hn (by rw [←Array.length_toList,hc];simp [hx]) (by omega)) (by omega));have hsz:((W.alloc (rqO a)).alloc (rqO b)).drew.heap.size=W.heap.size+1+1:=by simp [World.drew]
 clear h1 hu;generalize cmpRq a b=res at*;unfold rqAgg;go_enter Tryz.func257,Tryz.ntmps257
 go_upto_region 1 with fail
 refine Held.wp_held [(W.heap.size,0,[.int .i64 a.client]),(W.heap.size+1,0,[.int .i64 b.client]),(W.heap.size,1,[.int .i64 a.time]),(W.heap.size+1,1,[.int .i64 b.time]),(W.heap.size,2,[.int .i64 a.kind]),(W.heap.size+1,2,[.int .i64 b.kind]),(W.heap.size,3,[.int .i64 a.key]),(W.heap.size+1,3,[.int .i64 b.key]),(W.heap.size,4,[.int .i64 a.val]),(W.heap.size+1,4,[.int .i64 b.val]),(W.heap.size,5,[.int .i64 a.sl]),(W.heap.size+1,5,[.int .i64 b.sl])] [(1,0),(3,1),(6,2),(8,3),(12,4),(15,5),(19,6),(22,7),(26,8),(29,9),(32,10),(34,11)] [37] [(5,true),(5,true),(7,true),(7,true),(7,true),(5,true),(3,false)] (by kernel_rfl) (by kernel_rfl) ⟨⟨x0,trivial⟩,⟨y0,trivial⟩,⟨x1,trivial⟩,⟨y1,trivial⟩,⟨x2,trivial⟩,⟨y2,trivial⟩,⟨x3,trivial⟩,⟨y3,trivial⟩,⟨x4,trivial⟩,⟨y4,trivial⟩,⟨x5,trivial⟩,⟨y5,trivial⟩,trivial⟩ ?_;simp only [Held.cutAt,Held.walk,List.take_succ_cons,List.take_zero,List.drop_succ_cons,List.drop_zero]
 go_wp2_with fail
 refine (HC.out a.client b.client _).mono ?_;rintro e w' ⟨rfl,rfl⟩
 go_wp2_with fail
 refine ⟨⟨⟨x0,trivial⟩,⟨y0,trivial⟩,⟨x1,trivial⟩,⟨y1,trivial⟩,⟨x2,trivial⟩,⟨y2,trivial⟩,⟨x3,trivial⟩,⟨y3,trivial⟩,⟨x4,trivial⟩,⟨y4,trivial⟩,⟨x5,trivial⟩,⟨y5,trivial⟩,trivial⟩,?_⟩
 go_wp2_with fail
 refine (HC.out a.time b.time _).mono ?_;rintro e w' ⟨rfl,rfl⟩
 go_wp2_with fail
 refine ⟨⟨⟨x0,trivial⟩,⟨y0,trivial⟩,⟨x1,trivial⟩,⟨y1,trivial⟩,⟨x2,trivial⟩,⟨y2,trivial⟩,⟨x3,trivial⟩,⟨y3,trivial⟩,⟨x4,trivial⟩,⟨y4,trivial⟩,⟨x5,trivial⟩,⟨y5,trivial⟩,trivial⟩,?_⟩
 go_wp2_with fail
 refine (HC.out a.kind b.kind _).mono ?_;rintro e w' ⟨rfl,rfl⟩
 go_wp2_with fail
 refine ⟨⟨⟨x0,trivial⟩,⟨y0,trivial⟩,⟨x1,trivial⟩,⟨y1,trivial⟩,⟨x2,trivial⟩,⟨y2,trivial⟩,⟨x3,trivial⟩,⟨y3,trivial⟩,⟨x4,trivial⟩,⟨y4,trivial⟩,⟨x5,trivial⟩,⟨y5,trivial⟩,trivial⟩,?_⟩
 go_wp2_with fail
 refine (HC.out a.key b.key _).mono ?_;rintro e w' ⟨rfl,rfl⟩
 go_wp2_with fail
 refine ⟨⟨⟨x0,trivial⟩,⟨y0,trivial⟩,⟨x1,trivial⟩,⟨y1,trivial⟩,⟨x2,trivial⟩,⟨y2,trivial⟩,⟨x3,trivial⟩,⟨y3,trivial⟩,⟨x4,trivial⟩,⟨y4,trivial⟩,⟨x5,trivial⟩,⟨y5,trivial⟩,trivial⟩,?_⟩
 go_wp2_with fail
 refine (HC.out a.val b.val _).mono ?_;rintro e w' ⟨rfl,rfl⟩
 go_wp2_with fail
 refine ⟨⟨⟨x0,trivial⟩,⟨y0,trivial⟩,⟨x1,trivial⟩,⟨y1,trivial⟩,⟨x2,trivial⟩,⟨y2,trivial⟩,⟨x3,trivial⟩,⟨y3,trivial⟩,⟨x4,trivial⟩,⟨y4,trivial⟩,⟨x5,trivial⟩,⟨y5,trivial⟩,trivial⟩,?_⟩
 go_wp2_with fail
 refine (HC.out a.sl b.sl _).mono ?_;rintro e w' ⟨rfl,rfl⟩
 go_wp2_with fail
 refine ⟨⟨⟨x0,trivial⟩,⟨y0,trivial⟩,⟨x1,trivial⟩,⟨y1,trivial⟩,⟨x2,trivial⟩,⟨y2,trivial⟩,⟨x3,trivial⟩,⟨y3,trivial⟩,⟨x4,trivial⟩,⟨y4,trivial⟩,⟨x5,trivial⟩,⟨y5,trivial⟩,trivial⟩,?_⟩
 go_wp2_with fail
 refine (HO.out _ _ hsz [cmpI a.client b.client,cmpI a.time b.time,cmpI a.kind b.kind,cmpI a.key b.key,cmpI a.val b.val,cmpI a.sl b.sl] rfl _ rfl).mono ?_;rintro e w' ⟨rfl,rfl⟩
 go_wp2_with fail
 refine ⟨trivial,?_⟩
 go_wp2_with fail
 refine ⟨trivial,by rfl,⟨⟨rfl,.inl ⟨by kernel_rfl,rfl⟩⟩,⟨rfl,.inl ⟨by kernel_rfl,rfl⟩⟩,⟨rfl,.inl ⟨by kernel_rfl,rfl⟩⟩,⟨rfl,.inl ⟨by kernel_rfl,rfl⟩⟩,⟨rfl,.inl ⟨by kernel_rfl,rfl⟩⟩,⟨rfl,.inl ⟨by kernel_rfl,rfl⟩⟩,⟨rfl,.inl ⟨by kernel_rfl,rfl⟩⟩,⟨rfl,.inl ⟨by kernel_rfl,rfl⟩⟩,⟨rfl,.inl ⟨by kernel_rfl,rfl⟩⟩,⟨rfl,.inl ⟨by kernel_rfl,rfl⟩⟩,⟨rfl,.inl ⟨by kernel_rfl,rfl⟩⟩,⟨rfl,.inl ⟨by kernel_rfl,rfl⟩⟩,trivial⟩,?_⟩
 go_wp2_with fail
 go_ret
 rw [HE.out];exact ⟨rfl,HU.out.alloc _⟩
theorem zle {w w':World} {b a:Nat} {y:Rq} (hu:Upd [] w w') (h:w.cell? ⟨b,a,none⟩=some (.int .i64 y.client)∧w.cell? ⟨b,a+1,none⟩=some (.int .i64 y.time)∧w.cell? ⟨b,a+2,none⟩=some (.int .i64 y.kind)∧w.cell? ⟨b,a+3,none⟩=some (.int .i64 y.key)∧w.cell? ⟨b,a+4,none⟩=some (.int .i64 y.val)∧w.cell? ⟨b,a+5,none⟩=some (.int .i64 y.sl)):
  w'.cell? ⟨b,a,none⟩=some (.int .i64 y.client)∧w'.cell? ⟨b,a+1,none⟩=some (.int .i64 y.time)∧w'.cell? ⟨b,a+2,none⟩=some (.int .i64 y.kind)∧w'.cell? ⟨b,a+3,none⟩=some (.int .i64 y.key)∧w'.cell? ⟨b,a+4,none⟩=some (.int .i64 y.val)∧w'.cell? ⟨b,a+5,none⟩=some (.int .i64 y.sl):=
 ⟨zap hu h.1,zap hu h.2.1,zap hu h.2.2.1,zap hu h.2.2.2.1,zap hu h.2.2.2.2.1,zap hu h.2.2.2.2.2⟩
theorem zor {rs:List Rq} {most cl:Int} (hn:NtAt W nt nm l) (hl:NtOk l) (hcl:cl≤4) (hb:Bat W bv rs) (hln:rs.length≤100000):
  Calls Tryz.prog 235 #[bv,.int .i64 most,.int .i64 cl,.pointer (some ⟨nt,0,none⟩)] W fun e w'=>e= .returned (.bool (ze8 l most cl rs))∧Upd [] W w':=by
 have HN:=zq hn;obtain ⟨ao,cap,rfl,hcap,h2,h3,h4,h5⟩:=hb;clear h2 h3 h4 hn;have H5:=zq h5;clear h5;by_cases hm:most<(rs.length:Int)
 ·have HE:Hid (ze8 l most cl rs=false):=zq (by unfold ze8;rw [decide_eq_false (by omega)];rfl)
  clear HN H5;go_enter Tryz.func235,Tryz.ntmps235
  go_wp2_with fail
  go_ret
  rw [HE.out];exact ⟨rfl,Upd.refl _ _⟩
 have hm':decide (most<(rs.length:Int))=false:=by simp;omega
 have HE:Hid (ze8 l most cl rs=allR rs.length (ze7 l cl rs)):=zq (by unfold ze8;rw [decide_eq_true (by omega)];simp);generalize ze8 l most cl rs=res at*;clear hm;go_enter Tryz.func235,Tryz.ntmps235
 go_wp2_with fail
 go_loopw [17] (fun i wr=> ∃k:Nat,k≤rs.length∧i= .int .i64 k∧Hid (∀j,j<k→ze7 l cl rs j=true)∧Hid (Upd [] W wr)) (fun i _=>rs.length-(intOf i).toNat)
 case atStart=>exact ⟨0,by omega,rfl,zq (by intro j hj;omega),zq (Upd.refl _ _)⟩
 case round=>
  obtain ⟨k,hk,rfl,HF,HU⟩:=hrel;by_cases hlt:k<rs.length
  ·have hkI:(k:Int)<(rs.length:Int):=by omega
   have hk0:(0:Int)≤(k:Int):=by omega
   have hcI:(rs.length:Int)≤(cap:Int):=by omega
   obtain ⟨b,o,rfl,hbs,hc⟩:=H5.out (by omega);obtain ⟨q0,q1,q2,q3,q4,q5⟩:=zle HU.out (zb4 hc k rs[k] (by simp));have HX:Hid (ze7 l cl rs k=(rqSealed l cl rs[k]&&(decide (k=0) || decide (cmpRq (reqAt rs (k-1)) rs[k]<0)))):=zq (by unfold ze7;rw [zjp hlt]);have HP:Hid (∀m,k=m+1→ ∃y,reqAt rs (k-1)=y∧ ∀w',Upd [] W w'→w'.cell? ⟨b,o+m*6,none⟩=some (.int .i64 y.client)∧w'.cell? ⟨b,o+m*6+1,none⟩=some (.int .i64 y.time)∧w'.cell? ⟨b,o+m*6+2,none⟩=some (.int .i64 y.kind)∧w'.cell? ⟨b,o+m*6+3,none⟩=some (.int .i64 y.key)∧w'.cell? ⟨b,o+m*6+4,none⟩=some (.int .i64 y.val)∧w'.cell? ⟨b,o+m*6+5,none⟩=some (.int .i64 y.sl)):=
    zq (fun m hm=>⟨rs[m]'(by omega),by subst hm;rw [Nat.add_sub_cancel,zjp (by omega)],fun w' hu=>zle hu (zb4 hc m (rs[m]'(by omega)) (by simp))⟩)
   clear hc hbs;generalize rs[k]=x at*;have HS:=zq (fun w (hu:Upd [] W w)=>zmo x (HN.out.upd hu) hl hcl);unfold rqAgg at HS;have hb0:=heap_alloc_new wr (rqO x);have hu1:=HU.out.alloc (rqO x);rcases (show k=0∨ ∃m,k=m+1 by cases k with | zero=>exact .inl rfl | succ m=>exact .inr ⟨m,rfl⟩) with hkm | ⟨m,hkm⟩
   ·have hgk:decide ((0:Int)<(k:Int))=false:=by simp;omega
    have hgkN:decide (0<k)=false:=by simp;omega
    have HK:=zq hkm;clear HP hkm;have HS1:=zq (HS.out (wr.alloc (rqO x)).drew hu1.drew);have HU1:=zq hu1.drew;have hbd:((wr.alloc (rqO x)).drew).heap[wr.heap.size]?=some (rqO x):=hb0;clear hb0 hu1;have g0:(wr.alloc (rqO x)).drew.cell? ⟨wr.heap.size,0,none⟩=some (.int .i64 x.client):=zaa (hbd) 0 rfl;have g1:(wr.alloc (rqO x)).drew.cell? ⟨wr.heap.size,0+1,none⟩=some (.int .i64 x.time):=zaa (hbd) 1 rfl;have g2:(wr.alloc (rqO x)).drew.cell? ⟨wr.heap.size,0+2,none⟩=some (.int .i64 x.kind):=zaa (hbd) 2 rfl;have g3:(wr.alloc (rqO x)).drew.cell? ⟨wr.heap.size,0+3,none⟩=some (.int .i64 x.key):=zaa (hbd) 3 rfl;have g4:(wr.alloc (rqO x)).drew.cell? ⟨wr.heap.size,0+4,none⟩=some (.int .i64 x.val):=zaa (hbd) 4 rfl;have g5:(wr.alloc (rqO x)).drew.cell? ⟨wr.heap.size,0+5,none⟩=some (.int .i64 x.sl):=zaa (hbd) 5 rfl;unfold rqO at*
    go_upto_region 6 with fail
    refine Held.wp_held2 [(wr.heap.size,0,[.int .i64 x.client,.int .i64 x.time,.int .i64 x.kind,.int .i64 x.key,.int .i64 x.val,.int .i64 x.sl])] [(0,0),(13,0),(14,0)] [15] [(4,true),(15,false)] (by kernel_rfl) (by kernel_rfl) ⟨⟨g0,g1,g2,g3,g4,g5,trivial⟩,trivial⟩ ?_;simp only [Held.cutAt,Held.walk,List.take_succ_cons,List.take_zero,List.drop_succ_cons,List.drop_zero]
    go_wp2_with fail
    refine HS1.out.mono ?_;rintro e w2 ⟨rfl,hu2⟩;have hbe:w2.heap[wr.heap.size]?=some (.cells #[.int .i64 x.client,.int .i64 x.time,.int .i64 x.kind,.int .i64 x.key,.int .i64 x.val,.int .i64 x.sl] 38 (0,0)):=(hu2.block _ (by simp [World.drew]) (by simp)).trans hbd;have HU2:=zq (HU1.out.trans hu2);clear hu2 HS1 HS g0 g1 g2 g3 g4 g5 hbd;have g0:w2.cell? ⟨wr.heap.size,0,none⟩=some (.int .i64 x.client):=zaa (hbe) 0 rfl;have g1:w2.cell? ⟨wr.heap.size,0+1,none⟩=some (.int .i64 x.time):=zaa (hbe) 1 rfl;have g2:w2.cell? ⟨wr.heap.size,0+2,none⟩=some (.int .i64 x.kind):=zaa (hbe) 2 rfl;have g3:w2.cell? ⟨wr.heap.size,0+3,none⟩=some (.int .i64 x.key):=zaa (hbe) 3 rfl;have g4:w2.cell? ⟨wr.heap.size,0+4,none⟩=some (.int .i64 x.val):=zaa (hbe) 4 rfl;have g5:w2.cell? ⟨wr.heap.size,0+5,none⟩=some (.int .i64 x.sl):=zaa (hbe) 5 rfl;cases hs:rqSealed l cl x with
    | false=>
     rw [hs] at HX;simp only [Bool.false_and] at HX
     go_wp2_with fail
     refine ⟨⟨⟨g0,g1,g2,g3,g4,g5,trivial⟩,trivial⟩,?_⟩
     go_wp2_with fail
     refine ⟨trivial,?_⟩
     go_wp2_with fail
     refine ⟨trivial,by rfl,⟨.inr ⟨⟨rfl,.inr ⟨by kernel_rfl,by kernel_rfl⟩⟩,trivial⟩,.inl ⟨rfl,rfl⟩,.inl ⟨rfl,rfl⟩,trivial⟩,?_⟩
     go_wp2_with fail
     go_ret
     rw [HE.out,zar _ hlt HX.out];exact ⟨rfl,HU2.out⟩
    | true=>
     rw [hs] at HX;rw [decide_eq_true HK.out] at HX;simp only [Bool.true_or,Bool.and_self] at HX
     go_wp2_with fail
     refine ⟨⟨⟨g0,g1,g2,g3,g4,g5,trivial⟩,trivial⟩,?_⟩
     go_wp2_with fail
     refine ⟨trivial,?_⟩
     go_wp2_with fail
     refine ⟨trivial,by rfl,⟨.inr ⟨⟨rfl,.inr ⟨by kernel_rfl,by kernel_rfl⟩⟩,trivial⟩,.inl ⟨rfl,rfl⟩,.inl ⟨rfl,rfl⟩,trivial⟩,?_⟩
     go_wp2_with fail
     go_roundw
     case rel=>exact ⟨k+1,by omega,by go_num,zq (fun j hj=>by rw [show j=k by have:=HK.out;omega];exact HX.out),HU2⟩
     case measure=>simp [intOf];omega
   ·obtain ⟨y,hy,hyc⟩:=HP.out m hkm
    have HY:=zq hyc;rw [hy] at HX;have hgk:(0:Int)<(k:Int):=by omega
    have hgkN:decide (0<k)=true:=by simp;omega
    have hmi:(k:Int)-1=(m:Int):=by omega
    have hmI:(m:Int)<(rs.length:Int):=by omega
    have hm0:(0:Int)≤(m:Int):=by omega
    have HK:=zq hkm;clear HP hyc hy hkm;have HS1:=zq (HS.out (wr.alloc (rqO x)).drew hu1.drew);have HU1:=zq hu1.drew;have hbd:((wr.alloc (rqO x)).drew).heap[wr.heap.size]?=some (rqO x):=hb0;clear hb0 hu1;have g0:(wr.alloc (rqO x)).drew.cell? ⟨wr.heap.size,0,none⟩=some (.int .i64 x.client):=zaa (hbd) 0 rfl;have g1:(wr.alloc (rqO x)).drew.cell? ⟨wr.heap.size,0+1,none⟩=some (.int .i64 x.time):=zaa (hbd) 1 rfl;have g2:(wr.alloc (rqO x)).drew.cell? ⟨wr.heap.size,0+2,none⟩=some (.int .i64 x.kind):=zaa (hbd) 2 rfl;have g3:(wr.alloc (rqO x)).drew.cell? ⟨wr.heap.size,0+3,none⟩=some (.int .i64 x.key):=zaa (hbd) 3 rfl;have g4:(wr.alloc (rqO x)).drew.cell? ⟨wr.heap.size,0+4,none⟩=some (.int .i64 x.val):=zaa (hbd) 4 rfl;have g5:(wr.alloc (rqO x)).drew.cell? ⟨wr.heap.size,0+5,none⟩=some (.int .i64 x.sl):=zaa (hbd) 5 rfl;obtain ⟨p0,p1,p2,p3,p4,p5⟩:=HY.out (wr.alloc (rqO x)).drew (by exact HU1.out);unfold rqO at*
    go_upto_region 6 with fail
    refine Held.wp_held2 [(wr.heap.size,0,[.int .i64 x.client,.int .i64 x.time,.int .i64 x.kind,.int .i64 x.key,.int .i64 x.val,.int .i64 x.sl]),(b,o+m*6,[.int .i64 y.client,.int .i64 y.time,.int .i64 y.kind,.int .i64 y.key,.int .i64 y.val,.int .i64 y.sl])] [(0,0),(13,1),(14,0)] [15] [(4,true),(15,false)] (by kernel_rfl) (by kernel_rfl) ⟨⟨g0,g1,g2,g3,g4,g5,trivial⟩,⟨p0,p1,p2,p3,p4,p5,trivial⟩,trivial⟩ ?_;simp only [Held.cutAt,Held.walk,List.take_succ_cons,List.take_zero,List.drop_succ_cons,List.drop_zero]
    go_wp2_with fail
    refine HS1.out.mono ?_;rintro e w2 ⟨rfl,hu2⟩;have hbe:w2.heap[wr.heap.size]?=some (.cells #[.int .i64 x.client,.int .i64 x.time,.int .i64 x.kind,.int .i64 x.key,.int .i64 x.val,.int .i64 x.sl] 38 (0,0)):=(hu2.block _ (by simp [World.drew]) (by simp)).trans hbd;have HU2:=zq (HU1.out.trans hu2);clear hu2 HS1 HS g0 g1 g2 g3 g4 g5 hbd p0 p1 p2 p3 p4 p5;have g0:w2.cell? ⟨wr.heap.size,0,none⟩=some (.int .i64 x.client):=zaa (hbe) 0 rfl;have g1:w2.cell? ⟨wr.heap.size,0+1,none⟩=some (.int .i64 x.time):=zaa (hbe) 1 rfl;have g2:w2.cell? ⟨wr.heap.size,0+2,none⟩=some (.int .i64 x.kind):=zaa (hbe) 2 rfl;have g3:w2.cell? ⟨wr.heap.size,0+3,none⟩=some (.int .i64 x.key):=zaa (hbe) 3 rfl;have g4:w2.cell? ⟨wr.heap.size,0+4,none⟩=some (.int .i64 x.val):=zaa (hbe) 4 rfl;have g5:w2.cell? ⟨wr.heap.size,0+5,none⟩=some (.int .i64 x.sl):=zaa (hbe) 5 rfl;obtain ⟨p0,p1,p2,p3,p4,p5⟩:=HY.out w2 (by exact HU2.out);cases hs:rqSealed l cl x with
    | false=>
     rw [hs] at HX;simp only [Bool.false_and] at HX
     go_wp2_with fail
     refine ⟨⟨⟨g0,g1,g2,g3,g4,g5,trivial⟩,⟨p0,p1,p2,p3,p4,p5,trivial⟩,trivial⟩,?_⟩
     go_wp2_with fail
     refine ⟨trivial,?_⟩
     go_wp2_with fail
     refine ⟨trivial,by rfl,⟨.inr ⟨⟨rfl,.inr ⟨by kernel_rfl,by kernel_rfl⟩⟩,trivial⟩,.inl ⟨rfl,rfl⟩,.inl ⟨rfl,rfl⟩,trivial⟩,?_⟩
     go_wp2_with fail
     go_ret
     rw [HE.out,zar _ hlt HX.out];exact ⟨rfl,HU2.out⟩
    | true=>
     rw [hs] at HX;have HC:=zq (zoy y x w2);unfold rqAgg at HC;have HX:=zq (HX.out);rw [decide_eq_false (show¬k=0 by have:=HK.out;omega)] at HX;simp only [Bool.false_or,Bool.true_and] at HX;generalize cmpRq y x=c at*
     go_wp2_with fail
     refine ⟨⟨⟨g0,g1,g2,g3,g4,g5,trivial⟩,⟨p0,p1,p2,p3,p4,p5,trivial⟩,trivial⟩,?_⟩
     go_wp2_with fail
     refine HC.out.mono ?_;rintro e w3 ⟨rfl,hu3⟩;have HU3:=zq (HU2.out.trans hu3);clear hu3 HC;by_cases hcc:0≤c
     ·have HX2:Hid (ze7 l cl rs k=false):=zq (HX.out.trans (by simp;omega))
      go_wp2_with fail
      refine ⟨trivial,?_⟩
      go_wp2_with fail
      refine ⟨trivial,by rfl,⟨.inr ⟨⟨rfl,.inr ⟨by kernel_rfl,by kernel_rfl⟩⟩,trivial⟩,.inr ⟨⟨rfl,.inr ⟨by kernel_rfl,by kernel_rfl⟩⟩,trivial⟩,.inr ⟨⟨rfl,.inr ⟨by kernel_rfl,by kernel_rfl⟩⟩,trivial⟩,trivial⟩,?_⟩
      go_wp2_with fail
      go_ret
      rw [HE.out,zar _ hlt HX2.out];exact ⟨rfl,HU3.out⟩
     ·have HX2:Hid (ze7 l cl rs k=true):=zq (HX.out.trans (by simp;omega))
      have hcc':decide (0≤c)=false:=by simp;omega
      go_wp2_with fail
      refine ⟨trivial,?_⟩
      go_wp2_with fail
      refine ⟨trivial,by rfl,⟨.inr ⟨⟨rfl,.inr ⟨by kernel_rfl,by kernel_rfl⟩⟩,trivial⟩,.inr ⟨⟨rfl,.inr ⟨by kernel_rfl,by kernel_rfl⟩⟩,trivial⟩,.inr ⟨⟨rfl,.inr ⟨by kernel_rfl,by kernel_rfl⟩⟩,trivial⟩,trivial⟩,?_⟩
      go_wp2_with fail
      go_roundw
      case rel=>exact ⟨k+1,by omega,by go_num,zq (fun j hj=>by
       by_cases e:j=k
       ·subst e;exact HX2.out
       ·exact HF.out j (by omega)),HU3⟩
      case measure=>simp [intOf];omega
  ·have hkI:decide ((k:Int)<(rs.length:Int))=false:=by simp;omega
   have HA:Hid (res=true):=zq (by rw [HE.out];exact zaw (fun j hj=>HF.out j (by omega)))
   go_wp2_with fail
   go_ret
   rw [HA.out];exact ⟨rfl,HU.out⟩
end
section
variable {B:Nat} {w0 w W W':World} {ss rs:List Res} {nt nm:Nat} {v bv:Value} {l:Nt}
abbrev mz:Obj:= .cells #[.int .i64 0,.int .i64 0,.int .i64 0,.int .i64 0,.int .i64 0,.int .i64 0,.slice none 0 0,.slice none 0 0,.slice none 0 0,.slice none 0 0] 47 (0,0)
abbrev balM (kind node:Int) (c:Ct) (vb:Value):Mm:=⟨kind,node,c.view,c.inst,c.seq,0,vb,c.rs,.slice none 0 0,[],.slice none 0 0,[],.slice none 0 0,[]⟩
theorem zcz {b:Nat} {T:TypeId} {c0 c1 c2 c3 c4 c5 c6 c7 c8 c9 v0 v1 v2 v3 v4 v5 v6 v7 v8 v9:Value} (h:Own B w0 W (blk b (.cells #[c0,c1,c2,c3,c4,c5,c6,c7,c8,c9] T (0,0))::rs)):Own B w0 ((((((((((W.setCell ⟨b,0,none⟩ v0).setCell ⟨b,1,none⟩ v1).setCell ⟨b,2,none⟩ v2).setCell ⟨b,3,none⟩ v3).setCell ⟨b,4,none⟩ v4).setCell ⟨b,5,none⟩ v5).setCell ⟨b,6,none⟩ v6).setCell ⟨b,7,none⟩ v7).setCell ⟨b,8,none⟩ v8).setCell ⟨b,9,none⟩ v9) (blk b (.cells #[v0,v1,v2,v3,v4,v5,v6,v7,v8,v9] T (0,0))::rs):=(Own.storeTo (Own.storeTo (Own.storeTo (Own.storeTo (Own.storeTo (Own.storeTo (Own.storeTo (Own.storeTo (Own.storeTo (Own.storeTo h 0 v0 (o':= .cells #[v0,c1,c2,c3,c4,c5,c6,c7,c8,c9] T (0,0)) rfl) 1 v1 (o':= .cells #[v0,v1,c2,c3,c4,c5,c6,c7,c8,c9] T (0,0)) rfl) 2 v2 (o':= .cells #[v0,v1,v2,c3,c4,c5,c6,c7,c8,c9] T (0,0)) rfl) 3 v3 (o':= .cells #[v0,v1,v2,v3,c4,c5,c6,c7,c8,c9] T (0,0)) rfl) 4 v4 (o':= .cells #[v0,v1,v2,v3,v4,c5,c6,c7,c8,c9] T (0,0)) rfl) 5 v5 (o':= .cells #[v0,v1,v2,v3,v4,v5,c6,c7,c8,c9] T (0,0)) rfl) 6 v6 (o':= .cells #[v0,v1,v2,v3,v4,v5,v6,c7,c8,c9] T (0,0)) rfl) 7 v7 (o':= .cells #[v0,v1,v2,v3,v4,v5,v6,v7,c8,c9] T (0,0)) rfl) 8 v8 (o':= .cells #[v0,v1,v2,v3,v4,v5,v6,v7,v8,c9] T (0,0)) rfl) 9 v9 (o':= .cells #[v0,v1,v2,v3,v4,v5,v6,v7,v8,v9] T (0,0)) rfl)
theorem zp6 (kind node:Int) {c:Ct} (hc:CtW W c):Calls Tryz.prog 290 #[.int .i64 kind,.int .i64 node,ctAgg c] W fun e w'=> ∃vb',e= .returned (.agg (mmA (balM kind node c vb')))∧Bat w' vb' c.rs∧Upd [] W w':=by
 obtain ⟨i0,hi,hz0,hz1,hz2⟩:=info_parts Tryz.infoReq;obtain ⟨⟨a1,k1,e1⟩,a2,k2,e2⟩:=hc.slices;obtain ⟨hb,hbn,-⟩:=hc;obtain ⟨view,inst,seq,vb,vv,rs,vs⟩:=c;simp only at e1 e2 hb hbn;subst e1 e2;have h1:=(((Own.start (Below.refl W.heap.size W) (Nat.le_refl _)).box (ctO view inst seq (.slice a1 rs.length k1) (.slice a2 vs.length k2))).box mz).drew;simp only [zav] at h1;have x0:=zaa (h1.blkAt 1 rfl) 0 rfl;have x1:=zaa (h1.blkAt 1 rfl) 1 rfl;have x2:=zaa (h1.blkAt 1 rfl) 2 rfl;have x3:=zaa (h1.blkAt 1 rfl) 3 rfl;have H1:=zq h1;have HB:=zq (hb.upd (M:=[]) (Upd.of_below h1.below) (by simp));have hone:=zdh rs;clear h1 hb;go_enter Tryz.func290,Tryz.ntmps290
 go_upto_region 1 with fail
 refine Held.wp_held [(W.heap.size,0,[.int .i64 view]),(W.heap.size,1,[.int .i64 inst]),(W.heap.size,2,[.int .i64 seq]),(W.heap.size,3,[.slice a1 rs.length k1])] [(3,0),(5,1),(7,2),(9,3)] [12] [(11,true),(2,false)] (by kernel_rfl) (by kernel_rfl) ⟨⟨x0,trivial⟩,⟨x1,trivial⟩,⟨x2,trivial⟩,⟨x3,trivial⟩,trivial⟩ ?_;simp only [Held.cutAt,Held.walk,List.take_succ_cons,List.take_zero,List.drop_succ_cons,List.drop_zero]
 go_wp2_with (at_builtin;refine zcs rfl (.tmp 16) 39 rfl 38 i0 (.agg #[.int .i64 0,.int .i64 0,.int .i64 0,.int .i64 0,.int .i64 0,.int .i64 0]) 6 48 Tryz.underlying39 hi hz0 hz1 hz2 rfl (by decide) _ _ _ rfl HB.out hone (by omega) ?_)
 intro v' w' ho hu;obtain ⟨ao,cap,rfl,-⟩:=owns_reads ho;have H2:=zq ((H1.out.row1 hu (E:=38) (sz:=6) (v:= .slice ao rs.length cap) (n:=rs.length) (xs:=zak rs) (by rw [show ((W.alloc (ctO view inst seq (.slice a1 rs.length k1) (.slice a2 vs.length k2))).alloc mz).drew.heap.size=W.heap.size+1+1 by simp [World.drew]];exact ho)).swap);have y0:=zaa (H2.out.blkAt 2 rfl) 0 rfl;have y1:=zaa (H2.out.blkAt 2 rfl) 1 rfl;have y2:=zaa (H2.out.blkAt 2 rfl) 2 rfl;have y3:=zaa (H2.out.blkAt 2 rfl) 3 rfl
 go_wp2_with fail
 refine ⟨⟨⟨y0,trivial⟩,⟨y1,trivial⟩,⟨y2,trivial⟩,⟨y3,trivial⟩,trivial⟩,?_⟩;have z0:=zaa (H2.out.blkAt 0 rfl) 0 rfl;have f0:=zab (H2.out.blkAt 0 rfl) 0;have z1:=zaa (H2.out.blkAt 0 rfl) 1 rfl;have f1:=zab (H2.out.blkAt 0 rfl) 1;have z2:=zaa (H2.out.blkAt 0 rfl) 2 rfl;have f2:=zab (H2.out.blkAt 0 rfl) 2;have z3:=zaa (H2.out.blkAt 0 rfl) 3 rfl;have f3:=zab (H2.out.blkAt 0 rfl) 3;have z4:=zaa (H2.out.blkAt 0 rfl) 4 rfl;have f4:=zab (H2.out.blkAt 0 rfl) 4;have z5:=zaa (H2.out.blkAt 0 rfl) 5 rfl;have f5:=zab (H2.out.blkAt 0 rfl) 5;have z6:=zaa (H2.out.blkAt 0 rfl) 6 rfl;have f6:=zab (H2.out.blkAt 0 rfl) 6;have z7:=zaa (H2.out.blkAt 0 rfl) 7 rfl;have f7:=zab (H2.out.blkAt 0 rfl) 7;have z8:=zaa (H2.out.blkAt 0 rfl) 8 rfl;have f8:=zab (H2.out.blkAt 0 rfl) 8;have z9:=zaa (H2.out.blkAt 0 rfl) 9 rfl;have f9:=zab (H2.out.blkAt 0 rfl) 9;have HU:Hid (Upd [] W w'):=zq (Upd.of_below H2.out.below);clear H1 HB ho hu y0 y1 y2 y3 x0 x1 x2 x3
 go_wp2_with fail
 have H3:=zq (zcz (v0:= .int .i64 kind) (v1:= .int .i64 node) (v2:= .int .i64 view) (v3:= .int .i64 inst) (v4:= .int .i64 seq) (v5:= .int .i64 0) (v6:= .slice ao rs.length cap) (v7:= .slice none 0 0) (v8:= .slice none 0 0) (v9:= .slice none 0 0) H2.out);generalize World.setCell (World.setCell (World.setCell (World.setCell (World.setCell (World.setCell (World.setCell (World.setCell (World.setCell (World.setCell w' _ _) _ _) _ _) _ _) _ _) _ _) _ _) _ _) _ _) _ _=w3 at*;have u0:=zaa (H3.out.blkAt 0 rfl) 0 rfl;have u1:=zaa (H3.out.blkAt 0 rfl) 1 rfl;have u2:=zaa (H3.out.blkAt 0 rfl) 2 rfl;have u3:=zaa (H3.out.blkAt 0 rfl) 3 rfl;have u4:=zaa (H3.out.blkAt 0 rfl) 4 rfl;have u5:=zaa (H3.out.blkAt 0 rfl) 5 rfl;have u6:=zaa (H3.out.blkAt 0 rfl) 6 rfl;have u7:=zaa (H3.out.blkAt 0 rfl) 7 rfl;have u8:=zaa (H3.out.blkAt 0 rfl) 8 rfl;have u9:=zaa (H3.out.blkAt 0 rfl) 9 rfl;clear z0 z1 z2 z3 z4 z5 z6 z7 z8 z9 f0 f1 f2 f3 f4 f5 f6 f7 f8 f9;refine ⟨trivial,?_⟩
 go_wp2_with fail
 refine ⟨trivial,by rfl,⟨⟨rfl,.inl ⟨by kernel_rfl,rfl⟩⟩,⟨rfl,.inl ⟨by kernel_rfl,rfl⟩⟩,⟨rfl,.inl ⟨by kernel_rfl,rfl⟩⟩,⟨rfl,.inl ⟨by kernel_rfl,rfl⟩⟩,trivial⟩,?_⟩
 go_wp2_with fail
 refine bodyPost_ret (v:= .agg #[.int .i64 kind,.int .i64 node,.int .i64 view,.int .i64 inst,.int .i64 seq,.int .i64 0,.slice ao rs.length cap,.slice none 0 0,.slice none 0 0,.slice none 0 0]) (by simp [results,Tryz.results290,go_sem,u0,u1,u2,u3,u4,u5,u6,u7,u8,u9]) rfl ?_;exact ⟨_,rfl,owns_reads (zam (H3.out.get 1 rfl)),Upd.of_below H3.out.below⟩
end
def balP (kind node:Int) (c:Cp):Ms:=⟨kind,node,c.view,c.inst,c.seq,0,c.rs,[],[],[]⟩
def ztf (l:Nt) (kind:Int) (c:Cp) (k:Nat):Bool:=zby l (balP kind (zc1 c.vs k).1 c) (zc1 c.vs k).2
def zh6 (l:Nt) (kind:Int) (c:Cp) (f:Nat):Bool:=zci c.vs f&&allR c.vs.length (ztf l kind c)
def chgP (node view:Int):Ms:=⟨6,node,view,0,0,0,[],[],[],[]⟩
def zgz (l:Nt) (view:Int) (vs:Vs) (k:Nat):Bool:=zby l (chgP (zc1 vs k).1 view) (zc1 vs k).2
def zd1 (l:Nt) (view:Int) (vs:Vs) (f:Nat):Bool:=inW view 0 11&&(zci vs f&&allR vs.length (zgz l view vs))
theorem zim {l:Vs} {f:Nat} (h:zci l f=true): ∀k,k<l.length→0≤(zc1 l k).1∧(zc1 l k).1<3*(f:Int)+1:=by
 unfold zci at h;simp only [Bool.and_eq_true,decide_eq_true_eq] at h;have h2:=zw0 h.2;intro k
 induction k with
 | zero=>
  intro hk;have:=h2 0 hk;simp only [Bool.and_eq_true,decide_eq_true_eq] at this;have e:lastV l 0= -1:=rfl;rw [e] at this;exact ⟨by have:=this.1;omega,this.2⟩
 | succ k ih=>
  intro hk;have:=h2 (k+1) hk;have h3:=ih (by omega);simp only [Bool.and_eq_true,decide_eq_true_eq] at this;have e:lastV l (k+1)=(zc1 l k).1:=rfl;rw [e] at this;exact ⟨by have:=this.1;omega,this.2⟩
section
variable {B:Nat} {w0 w W W':World} {ss rs:List Res} {nt nm:Nat} {v bv:Value} {l:Nt}
theorem mm_bal {kind node:Int} {c:Ct} {vb:Value} (hb:Bat W vb c.rs) (hn:c.rs.length≤100000):MmAt W (balM kind node c vb):=
 ⟨hb,hn,Reads.nil _ _,by simp,⟨Reads.nil _ _,by simp⟩,by simp,⟨Reads.nil _ _,by simp⟩,by simp⟩
abbrev chgM (node view:Int):Mm:=⟨6,node,view,0,0,0,.slice none 0 0,[],.slice none 0 0,[],.slice none 0 0,[],.slice none 0 0,[]⟩
theorem mm_chg {node view:Int}:MmAt W (chgM node view):=
 ⟨Reads.nil _ _,by simp,Reads.nil _ _,by simp,⟨Reads.nil _ _,by simp⟩,by simp,⟨Reads.nil _ _,by simp⟩,by simp⟩
theorem zwq (kind:Int) {c:Ct} {f:Nat} (hn:NtAt W nt nm l) (hl:NtOk l) (hf1:1≤f) (hf2:f≤4) (hc:CtW W c):
  Calls Tryz.prog 269 #[.int .i64 kind,ctAgg c,.int .i64 f,.pointer (some ⟨nt,0,none⟩)] W fun e w'=>e= .returned (.bool (zh6 l kind c.cp f))∧Upd [] W w':=by
 obtain ⟨⟨a1,k1,e1⟩,a2,k2,e2⟩:=hc.slices;have HN:=zq hn;have HCW:=zq hc;obtain ⟨hb,hbn,hv,hvn⟩:=hc;have HR:=zq (fun w (hu:Upd [] W w)=>zhq f c.vv c.vs w hf1 hf2 hvn (hv.upd (M:=[]) hu (by simp)));have HB:=zq (fun node w (hu:Upd [] W w)=>zp6 kind node (HCW.out.upd hu));have HRN:=zq (@zim c.vs f);have HSE:=zq (fun node vb sl w (hu:Upd [] W w) (hb:Bat w vb c.rs) (h0:0≤node) (h1:node≤1000)=>zht (m:=balM kind node c vb) sl (HN.out.upd hu) hl (mm_bal hb hbn) (by show _≤node;omega) (by show node≤_;omega));have HE:Hid (zh6 l kind c.cp f=(zci c.vs f&&allR c.vs.length (ztf l kind c.cp))):=zq rfl;have HK:Hid (∀k,ztf l kind c.cp k=zby l (balP kind (zc1 c.vs k).1 c.cp) (zc1 c.vs k).2):=zq (fun _=>rfl);have HM:Hid (∀node vb,(balM kind node c vb).ms=balP kind node c.cp):=zq (fun _ _=>rfl);generalize zh6 l kind c.cp f=res at*;generalize ztf l kind c.cp=vk at*;obtain ⟨view,inst,seq,vb,vv,rs,vs⟩:=c;simp only at e1 e2 hb hbn hv hvn HRN HE HR;subst e1 e2;obtain ⟨ao,cap,e3,hcap,hz1,hz2,hz3,h5⟩:=hv;simp only [Value.slice.injEq,true_and] at e3;obtain ⟨rfl,rfl⟩:=e3;have H5:=zq h5;clear h5 hz1 hz2 hz3 hb hn;have hb0:(W.alloc (ctO view inst seq (.slice a1 rs.length k1) (.slice a2 vs.length k2))).heap[W.heap.size]?=some (ctO view inst seq (.slice a1 rs.length k1) (.slice a2 vs.length k2)):=heap_alloc_new W _;have x4:=zaa hb0 4 rfl;have HU0:=zq ((Upd.refl [] W).alloc (ctO view inst seq (.slice a1 rs.length k1) (.slice a2 vs.length k2)));have HBK:=zq hb0;have HLT:=zq (show W.heap.size<(W.alloc (ctO view inst seq (.slice a1 rs.length k1) (.slice a2 vs.length k2))).heap.size by simp);have HR0:=zq (HR.out _ HU0.out);clear hb0 HR HCW;go_enter Tryz.func269,Tryz.ntmps269
 go_wp2_with fail
 refine HR0.out.mono ?_;rintro e w1 ⟨rfl,hu⟩;have y4:=zap hu x4;have HU1:=zq (HU0.out.trans hu);have HB1:=zq ((hu.block _ HLT.out (by simp)).trans HBK.out);have HL1:=zq (Nat.lt_of_lt_of_le HLT.out hu.size);clear hu HR0 x4;cases hri:zci vs f with
 | false=>
  rw [hri] at HE
  go_wp2_with fail
  go_ret
  rw [HE.out,Bool.false_and];exact ⟨rfl,HU1.out⟩
 | true=>
  rw [hri] at HE;simp only [Bool.true_and] at HE;have HRN:=zq (HRN.out hri)
  go_wp2_with fail
  go_loopw [19] (fun i wr=> ∃k:Nat,k≤vs.length∧i= .int .i64 k∧Hid (∀j,j<k→vk j=true)∧Hid (Upd [] W wr)∧Hid (wr.heap[W.heap.size]?=some (ctO view inst seq (.slice a1 rs.length k1) (.slice a2 vs.length k2)))) (fun i _=>vs.length-(intOf i).toNat)
  case atStart=>exact ⟨0,by omega,rfl,zq (by intro j hj;omega),HU1,HB1⟩
  case round=>
   clear HU1 HB1 y4 HL1 HU0 HBK HLT;obtain ⟨k,hk,rfl,HF,HU,HBB⟩:=hrel;by_cases hlt:k<vs.length
   ·have hkI:(k:Int)<(vs.length:Int):=by omega
    have hk0:(0:Int)≤(k:Int):=by omega
    obtain ⟨b,o,hbo,hbs,hcc⟩:=H5.out (by omega);have hcI:(vs.length:Int)≤(k2:Int):=by omega
    subst hbo;obtain ⟨q0,q1⟩:=zfm hcc k vs[k] (by simp);have q0:=zap HU.out q0;have q1:=zap HU.out q1;have HX:=zq (HK.out k);have hnd:=HRN.out k hlt;rw [zfl hlt] at HX hnd;clear hcc hbs;generalize vs[k]=x at*;obtain ⟨node,sl⟩:=x;simp only at q0 q1 HX hnd;have hfx:node≤1000:=by omega
    have hu1:=(HU.out.alloc (.cells #[.int .i64 node,.int .i64 sl] 177 (0,0))).drew;have hbv:((wr.alloc (.cells #[.int .i64 node,.int .i64 sl] 177 (0,0))).drew).heap[wr.heap.size]?=some (.cells #[.int .i64 node,.int .i64 sl] 177 (0,0)):=heap_alloc_new wr _;have hbc:((wr.alloc (.cells #[.int .i64 node,.int .i64 sl] 177 (0,0))).drew).heap[W.heap.size]?=some (ctO view inst seq (.slice a1 rs.length k1) (.slice (some ⟨b,o,none⟩) vs.length k2)):=(zed (block_lt HBB.out)).trans HBB.out;have HB2:=zq (HB.out node _ hu1);have HU2:=zq hu1;have g0:=zaa hbv 0 rfl;have g1:=zaa hbv 1 rfl;have p0:((wr.alloc (.cells #[.int .i64 node,.int .i64 sl] 177 (0,0))).drew).cell? ⟨W.heap.size,0,none⟩=some (.int .i64 view):=zaa hbc 0 rfl;have p1:((wr.alloc (.cells #[.int .i64 node,.int .i64 sl] 177 (0,0))).drew).cell? ⟨W.heap.size,0+1,none⟩=some (.int .i64 inst):=zaa hbc 1 rfl;have p2:((wr.alloc (.cells #[.int .i64 node,.int .i64 sl] 177 (0,0))).drew).cell? ⟨W.heap.size,0+2,none⟩=some (.int .i64 seq):=zaa hbc 2 rfl;have p3:((wr.alloc (.cells #[.int .i64 node,.int .i64 sl] 177 (0,0))).drew).cell? ⟨W.heap.size,0+3,none⟩=some (.slice a1 rs.length k1):=zaa hbc 3 rfl;have p4:((wr.alloc (.cells #[.int .i64 node,.int .i64 sl] 177 (0,0))).drew).cell? ⟨W.heap.size,0+4,none⟩=some (.slice (some ⟨b,o,none⟩) vs.length k2):=zaa hbc 4 rfl;have HBV:=zq hbv;have HBC:=zq hbc;clear hu1 hbv hbc
    go_upto_region 6 with fail
    refine Held.wp_held [(wr.heap.size,0,[.int .i64 node]),(W.heap.size,0,[.int .i64 view,.int .i64 inst,.int .i64 seq,.slice a1 rs.length k1,.slice (some ⟨b,o,none⟩) vs.length k2]),(wr.heap.size,1,[.int .i64 sl])] [(2,0),(3,1),(6,2)] [8] [(5,true),(5,false)] (by kernel_rfl) (by kernel_rfl) ⟨⟨g0,trivial⟩,⟨p0,p1,p2,p3,p4,trivial⟩,⟨g1,trivial⟩,trivial⟩ ?_;simp only [Held.cutAt,Held.walk,List.take_succ_cons,List.take_zero,List.drop_succ_cons,List.drop_zero]
    go_wp2_with fail
    refine HB2.out.mono ?_;rintro e w2 ⟨vb',rfl,hb',hu2⟩;have g0':=zap hu2 g0;have g1':=zap hu2 g1;have p0':=zap hu2 p0;have p1':=zap hu2 p1;have p2':=zap hu2 p2;have p3':=zap hu2 p3;have p4':=zap hu2 p4;have HU3:=zq (HU2.out.trans hu2);have HS:=zq (HSE.out node vb' sl w2 HU3.out hb' hnd.1 hfx);rw [HM.out] at HS;rw [←HX.out] at HS;have HB3:Hid (w2.heap[W.heap.size]?=_):=zq ((hu2.block _ (block_lt HBC.out) (by simp)).trans HBC.out);clear hu2 hb' HB2 g0 g1 p0 p1 p2 p3 p4 HBC HBV
    go_wp2_with fail
    refine ⟨⟨⟨g0',trivial⟩,⟨p0',p1',p2',p3',p4',trivial⟩,⟨g1',trivial⟩,trivial⟩,?_⟩
    go_wp2_with fail
    refine HS.out.mono ?_;rintro e w3 ⟨rfl,hu3⟩;have HU4:=zq (HU3.out.trans hu3);have HB4:=zq ((hu3.block _ (block_lt HB3.out) (by simp)).trans HB3.out);clear hu3 HS HB3
    go_wp2_with fail
    refine ⟨trivial,?_⟩
    go_wp2_with fail
    refine ⟨trivial,by rfl,⟨⟨rfl,.inl ⟨by kernel_rfl,rfl⟩⟩,⟨rfl,.inr ⟨by kernel_rfl,by kernel_rfl⟩⟩,⟨rfl,.inl ⟨by kernel_rfl,rfl⟩⟩,trivial⟩,?_⟩;cases hvk:vk k with
    | false=>
     have HVK:=zq hvk
     go_wp2_with fail
     go_ret
     rw [HE.out,zar k hlt HVK.out];exact ⟨rfl,HU4.out⟩
    | true=>
     have HVK:=zq hvk
     go_wp2_with fail
     go_roundw
     case rel=>
      refine ⟨k+1,by omega,by go_num,zq (fun j hj=> ?_),HU4,HB4⟩;by_cases e:j=k
      ·subst e;exact HVK.out
      ·exact HF.out j (by omega)
     case measure=>simp [intOf];omega
   ·have hkI:decide ((k:Int)<(vs.length:Int))=false:=by simp;omega
    have HA:Hid (res=true):=zq (by rw [HE.out];exact zaw (fun j hj=>HF.out j (by omega)))
    go_wp2_with fail
    go_ret
    rw [HA.out];exact ⟨rfl,HU.out⟩
theorem zow (view:Int) {vs:Vs} {vv:Value} {f:Nat} (hn:NtAt W nt nm l) (hl:NtOk l) (hf1:1≤f) (hf2:f≤4) (hv:Vts W vv vs) (hvn:vs.length≤100000):
  Calls Tryz.prog 266 #[.int .i64 view,vv,.int .i64 f,.pointer (some ⟨nt,0,none⟩)] W fun e w'=>e= .returned (.bool (zd1 l view vs f))∧Upd [] W w':=by
 have HN:=zq hn;have HR:=zq (zhq f vv vs W hf1 hf2 hvn hv);have HRN:=zq (@zim vs f);have HSE:=zq (fun node sl w (hu:Upd [] W w) (h0:0≤node) (h1:node≤1000)=>zht (m:=chgM node view) sl (HN.out.upd hu) hl mm_chg (by show _≤node;omega) (by show node≤_;omega));have HE:Hid (zd1 l view vs f=(inW view 0 11&&(zci vs f&&allR vs.length (zgz l view vs)))):=zq rfl;have HK:Hid (∀k,zgz l view vs k=zby l (chgP (zc1 vs k).1 view) (zc1 vs k).2):=zq (fun _=>rfl);have HM:Hid (∀node,(chgM node view).ms=chgP node view):=zq (fun _=>rfl);generalize zd1 l view vs f=res at*;generalize zgz l view vs=vk at*;obtain ⟨ao,cap,rfl,hcap,hz1,hz2,hz3,h5⟩:=hv;have H5:=zq h5;clear h5 hz1 hz2 hz3 hn;cases hw:inW view 0 11 with
 | false=>
  have HW:=zq (za1 hw W);rw [hw] at HE;clear hw;go_enter Tryz.func266,Tryz.ntmps266
  go_wp2_with fail
  refine HW.out.mono ?_;rintro e w1 ⟨rfl,rfl⟩
  go_wp2_with fail
  go_ret
  rw [HE.out,Bool.false_and];exact ⟨rfl,Upd.refl _ _⟩
 | true=>
 have HW:=zq (za1 hw W);rw [hw] at HE;simp only [Bool.true_and] at HE;clear hw;cases hri:zci vs f with
 | false=>
  rw [hri] at HE HR;go_enter Tryz.func266,Tryz.ntmps266
  go_wp2_with fail
  refine HW.out.mono ?_;rintro e w1 ⟨rfl,rfl⟩
  go_wp2_with fail
  refine HR.out.mono ?_;rintro e w1 ⟨rfl,hu⟩;have HU:=zq hu;clear hu
  go_wp2_with fail
  go_ret
  rw [HE.out,Bool.false_and];exact ⟨rfl,HU.out⟩
 | true=>
  rw [hri] at HE HR;simp only [Bool.true_and] at HE;have HRN:=zq (HRN.out hri);go_enter Tryz.func266,Tryz.ntmps266
  go_wp2_with fail
  refine HW.out.mono ?_;rintro e w1 ⟨rfl,rfl⟩
  go_wp2_with fail
  refine HR.out.mono ?_;rintro e w1 ⟨rfl,hu⟩;have HU1:=zq hu;clear hu HR HW
  go_wp2_with fail
  go_loopw [22] (fun i wr=> ∃k:Nat,k≤vs.length∧i= .int .i64 k∧Hid (∀j,j<k→vk j=true)∧Hid (Upd [] W wr)) (fun i _=>vs.length-(intOf i).toNat)
  case atStart=>exact ⟨0,by omega,rfl,zq (by intro j hj;omega),HU1⟩
  case round=>
   clear HU1;obtain ⟨k,hk,rfl,HF,HU⟩:=hrel;by_cases hlt:k<vs.length
   ·have hkI:(k:Int)<(vs.length:Int):=by omega
    have hk0:(0:Int)≤(k:Int):=by omega
    have hcI:(vs.length:Int)≤(cap:Int):=by omega
    obtain ⟨b,o,rfl,hbs,hcc⟩:=H5.out (by omega);obtain ⟨q0,q1⟩:=zfm hcc k vs[k] (by simp);have q0:=zap HU.out q0;have q1:=zap HU.out q1;have HX:=zq (HK.out k);have hnd:=HRN.out k hlt;rw [zfl hlt] at HX hnd;clear hcc hbs;generalize vs[k]=x at*;obtain ⟨node,sl⟩:=x;simp only at q0 q1 HX hnd;have hfx:node≤1000:=by omega
    have hu1:=HU.out.alloc (.cells #[.int .i64 node,.int .i64 sl] 177 (0,0));have HS:=zq (HSE.out node sl _ hu1 hnd.1 hfx);rw [HM.out] at HS;rw [←HX.out] at HS;have HU2:=zq hu1;clear hu1
    go_wp2_with fail
    refine HS.out.mono ?_;rintro e w3 ⟨rfl,hu3⟩;have HU4:=zq (HU2.out.trans hu3);clear hu3 HS;cases hvk:vk k with
    | false=>
     have HVK:=zq hvk
     go_wp2_with fail
     go_ret
     rw [HE.out,zar k hlt HVK.out];exact ⟨rfl,HU4.out⟩
    | true=>
     have HVK:=zq hvk
     go_wp2_with fail
     go_roundw
     case rel=>
      refine ⟨k+1,by omega,by go_num,zq (fun j hj=> ?_),HU4⟩;by_cases e:j=k
      ·subst e;exact HVK.out
      ·exact HF.out j (by omega)
     case measure=>simp [intOf];omega
   ·have hkI:decide ((k:Int)<(vs.length:Int))=false:=by simp;omega
    have HA:Hid (res=true):=zq (by rw [HE.out];exact zaw (fun j hj=>HF.out j (by omega)))
    go_wp2_with fail
    go_ret
    rw [HA.out];exact ⟨rfl,HU.out⟩
end
def zbp (l:Nt) (kind:Int) (c:Cp) (f:Nat) (cl:Int):Bool:=zce f c.view c.inst c.seq&&(ze8 l 4 cl c.rs&&zh6 l kind c f)
def vwM (view:Int) (p:Pa):Ms:=⟨7,p.fm,view,0,0,0,[],p.vs,p.cs,[]⟩
def zlf (l:Nt) (f:Nat) (cl:Int) (cs:List Cp) (k:Nat):Bool:=zbp l 4 (zfa cs k) f cl
def ze0 (l:Nt) (view:Int) (p:Pa) (f:Nat) (cl:Int):Bool:=formP f cl (vwM view p)&&(zby l (vwM view p) p.sl&&(zd1 l (view-1) p.vs f&&allR p.cs.length (zlf l f cl p.cs)))
section
variable {B:Nat} {w0 w W W':World} {ss rs:List Res} {nt nm:Nat} {v bv:Value} {l:Nt}
theorem zkb (kind:Int) {c:Ct} {f:Nat} {cl:Int} (hn:NtAt W nt nm l) (hl:NtOk l) (hf1:1≤f) (hf2:f≤4) (hcl:cl≤4) (hc:CtW W c):
  Calls Tryz.prog 239 #[.int .i64 kind,ctAgg c,.int .i64 f,.int .i64 cl,.pointer (some ⟨nt,0,none⟩)] W fun e w'=>e= .returned (.bool (zbp l kind c.cp f cl))∧Upd [] W w':=by
 obtain ⟨⟨a1,k1,e1⟩,a2,k2,e2⟩:=hc.slices;have HN:=zq hn;have HC:=zq hc;obtain ⟨hb,hbn,hv,hvn⟩:=hc;have HP:=zq (fun w=>zfh f cl c.view c.inst c.seq w);have HB:=zq (fun w (hu:Upd [] W w)=>zor (most:=4) (HN.out.upd hu) hl hcl (hb.upd (M:=[]) hu (by simp)) hbn);have HV:=zq (fun w (hu:Upd [] W w)=>zwq kind (HN.out.upd hu) hl hf1 hf2 (HC.out.upd hu));have HE:Hid (zbp l kind c.cp f cl=(zce f c.view c.inst c.seq&&(ze8 l 4 cl c.rs&&zh6 l kind c.cp f))):=zq rfl;generalize zbp l kind c.cp f cl=res at*;generalize zh6 l kind c.cp f=r3 at*;obtain ⟨view,inst,seq,vb,vv,rs,vs⟩:=c;simp only at e1 e2 hb hbn hv hvn HP HB HE;subst e1 e2;generalize ze8 l 4 cl rs=r2 at*;generalize zce f view inst seq=r1 at*;have h1:=((Own.start (Below.refl W.heap.size W) (Nat.le_refl _)).box (ctO view inst seq (.slice a1 rs.length k1) (.slice a2 vs.length k2))).box (lkO f cl);simp only [zav] at h1;have x0:=zaa (h1.blkAt 1 rfl) 0 rfl;have x1:=zaa (h1.blkAt 1 rfl) 1 rfl;have x2:=zaa (h1.blkAt 1 rfl) 2 rfl;have H1:=zq h1;have HU0:Hid (Upd [] W _):=zq (Upd.of_below h1.below);clear h1 hb hv hn HC;unfold lkA at HP;go_enter Tryz.func239,Tryz.ntmps239
 go_wp2_with fail
 refine (HP.out _).mono ?_;rintro e w1 ⟨rfl,hu⟩;have H2:=zq (H1.out.upd0 hu);have HU1:=zq (HU0.out.trans hu);clear hu HP HU0 H1 x0 x1 x2;cases r1 with
 | false=>
  simp only [Bool.false_and] at HE
  go_wp2_with fail
  go_ret
  rw [HE.out];exact ⟨rfl,HU1.out⟩
 | true=>
  simp only [Bool.true_and] at HE;have y3:=zaa (H2.out.blkAt 1 rfl) 3 rfl;have HB1:=zq (HB.out _ HU1.out)
  go_wp2_with fail
  refine HB1.out.mono ?_;rintro e w2 ⟨rfl,hu⟩;have H3:=zq (H2.out.upd0 hu);have HU2:=zq (HU1.out.trans hu);clear hu HB HB1 HU1 H2 y3;cases r2 with
  | false=>
   simp only [Bool.false_and] at HE
   go_wp2_with fail
   go_ret
   rw [HE.out];exact ⟨rfl,HU2.out⟩
  | true=>
   simp only [Bool.true_and] at HE;have y0:=zaa (H3.out.blkAt 1 rfl) 0 rfl;have y1:=zaa (H3.out.blkAt 1 rfl) 1 rfl;have y2:=zaa (H3.out.blkAt 1 rfl) 2 rfl;have y3:=zaa (H3.out.blkAt 1 rfl) 3 rfl;have y4:=zaa (H3.out.blkAt 1 rfl) 4 rfl;have HV1:=zq (HV.out _ HU2.out)
   go_wp2_with fail
   refine HV1.out.mono ?_;rintro e w3 ⟨rfl,hu⟩;have HU3:=zq (HU2.out.trans hu);clear hu HV HV1 HU2 H3 y0 y1 y2 y3 y4
   go_wp2_with fail
   go_ret
   rw [HE.out];exact ⟨rfl,HU3.out⟩
abbrev vwMm (view:Int) (p:Pt):Mm:=⟨7,p.fm,view,0,0,0,.slice none 0 0,[],p.vv,p.vs,p.cv,p.cts,.slice none 0 0,[]⟩
theorem mm_vw {view:Int} {p:Pt} (h:PtW W p):MmAt W (vwMm view p):=
 ⟨Reads.nil _ _,by simp,h.1,h.2.1,h.2.2.1,h.2.2.2,⟨Reads.nil _ _,by simp⟩,by simp⟩
theorem zqc {l:List Ct} {k:Nat} (hk:k<l.length):zfa (l.map Ct.cp) k=l[k].cp:=by unfold zfa;simp [List.getD,hk]
theorem ztd (view:Int) {p:Pt} {f:Nat} {cl:Int} (hn:NtAt W nt nm l) (hl:NtOk l) (hf1:1≤f) (hf2:f≤4) (hc1:1≤cl) (hcl:cl≤4) (hp:PtW W p) (hm1: -9223372036854775000≤p.fm) (hm2:p.fm≤9223372036854775000) (hv1: -1000≤view) (hv2:view≤9223372036854775000):
  Calls Tryz.prog 237 #[.int .i64 view,ptAgg p,.int .i64 f,.int .i64 cl,.pointer (some ⟨nt,0,none⟩)] W fun e w'=>e= .returned (.bool (ze0 l view p.pa f cl))∧Upd [] W w':=by
 obtain ⟨⟨a1,k1,e1⟩,a2,k2,e2⟩:=hp.slices;have HN:=zq hn;have HF:=zq (fun w (hu:Upd [] W w)=>zlz f cl (vwMm view p) w hf1 hf2 hc1 hcl hm1 hm2 (mm_vw (hp.upd hu)));have HS:=zq (fun w (hu:Upd [] W w)=>zht (m:=vwMm view p) p.sl (HN.out.upd hu) hl (mm_vw (hp.upd hu)) (by show _≤p.fm;omega) (by show p.fm≤_;omega));have HG:=zq (fun w (hu:Upd [] W w)=>zow (view-1) (HN.out.upd hu) hl hf1 hf2 ((hp.upd hu).1) hp.2.1);have HCT:=zq (fun w c (hc:c∈p.cts) (hu:Upd [] W w)=>zkb 4 (c:=c) (HN.out.upd hu) hl hf1 hf2 hcl ((hp.upd hu).2.2.1.2 c hc));have HSL:=zq (fun c (hc:c∈p.cts)=>CtW.slices (hp.2.2.1.2 c hc));have hcs:=hp.2.2.1.1;have hcn:=hp.2.2.2;have HE:Hid (ze0 l view p.pa f cl=(formP f cl (vwMm view p).ms&&(zby l (vwMm view p).ms p.sl&&(zd1 l (view-1) p.vs f&&allR p.cts.length (zlf l f cl p.pa.cs))))):=zq (by unfold ze0;simp [Pt.pa,vwM,Mm.ms]);have HK:Hid (∀k (hk:k<p.cts.length),zlf l f cl p.pa.cs k=zbp l 4 p.cts[k].cp f cl):=zq (fun k hk=>by unfold zlf;rw [show p.pa.cs=p.cts.map Ct.cp from rfl,zqc hk]);generalize ze0 l view p.pa f cl=res at*;generalize zlf l f cl p.pa.cs=vk at*;generalize formP f cl (vwMm view p).ms=r1 at*;generalize zby l (vwMm view p).ms p.sl=r2 at*;obtain ⟨fm,vv,vs,cv,cts,sl⟩:=p;simp only at e1 e2 hcs hcn HG HE HCT HK HSL hm1 hm2;generalize zd1 l (view-1) vs f=r3 at*;subst e1 e2;have h1:=((Own.start (Below.refl W.heap.size W) (Nat.le_refl _)).box (.cells #[.int .i64 fm,.slice a1 vs.length k1,.slice a2 cts.length k2,.int .i64 sl] 49 (0,0))).box (.cells #[.int .i64 7,.int .i64 fm,.int .i64 view,.int .i64 0,.int .i64 0,.int .i64 0,.slice none 0 0,.slice a1 vs.length k1,.slice a2 cts.length k2,.slice none 0 0] 47 (0,0));simp only [zav] at h1;have H1:=zq h1;have HU0:Hid (Upd [] W _):=zq (Upd.of_below h1.below);have HF1:=zq (HF.out _ HU0.out);clear h1 hn hp HF;go_enter Tryz.func237,Tryz.ntmps237
 go_wp2_with fail
 refine HF1.out.mono ?_;rintro e w1 ⟨rfl,hu⟩;have H2:=zq (H1.out.upd0 hu);have HU1:=zq (HU0.out.trans hu);clear hu HF1 HU0 H1;cases r1 with
 | false=>
  simp only [Bool.false_and] at HE
  go_wp2_with fail
  go_ret
  rw [HE.out];exact ⟨rfl,HU1.out⟩
 | true=>
  simp only [Bool.true_and] at HE;have y0:=zaa (H2.out.blkAt 0 rfl) 0 rfl;have y1:=zaa (H2.out.blkAt 0 rfl) 1 rfl;have y2:=zaa (H2.out.blkAt 0 rfl) 2 rfl;have y3:=zaa (H2.out.blkAt 0 rfl) 3 rfl;have y4:=zaa (H2.out.blkAt 0 rfl) 4 rfl;have y5:=zaa (H2.out.blkAt 0 rfl) 5 rfl;have y6:=zaa (H2.out.blkAt 0 rfl) 6 rfl;have y7:=zaa (H2.out.blkAt 0 rfl) 7 rfl;have y8:=zaa (H2.out.blkAt 0 rfl) 8 rfl;have y9:=zaa (H2.out.blkAt 0 rfl) 9 rfl;have y13:=zaa (H2.out.blkAt 1 rfl) 3 rfl;have HS1:=zq (HS.out _ HU1.out)
  go_wp2_with fail
  refine HS1.out.mono ?_;rintro e w2 ⟨rfl,hu⟩;have H3:=zq (H2.out.upd0 hu);have HU2:=zq (HU1.out.trans hu);clear hu HS HS1 HU1 H2 y0 y1 y2 y3 y4 y5 y6 y7 y8 y9 y13;cases r2 with
  | false=>
   simp only [Bool.false_and] at HE
   go_wp2_with fail
   go_ret
   rw [HE.out];exact ⟨rfl,HU2.out⟩
  | true=>
   simp only [Bool.true_and] at HE;have y1:=zaa (H3.out.blkAt 1 rfl) 1 rfl;have HG1:=zq (HG.out _ HU2.out)
   go_wp2_with fail
   refine HG1.out.mono ?_;rintro e w3 ⟨rfl,hu⟩;have H4:=zq (H3.out.upd0 hu);have HU3:=zq (HU2.out.trans hu);clear hu HG HG1 HU2 H3 y1;cases r3 with
   | false=>
    simp only [Bool.false_and] at HE
    go_wp2_with fail
    go_ret
    rw [HE.out];exact ⟨rfl,HU3.out⟩
   | true=>
    simp only [Bool.true_and] at HE;have y2:=zaa (H4.out.blkAt 1 rfl) 2 rfl;have HCS:=zq hcs;clear hcs
    go_wp2_with fail
    go_loopw [48] (fun i wr=> ∃k:Nat,k≤cts.length∧i= .int .i64 k∧Hid (∀j,j<k→vk j=true)∧Hid (Upd [] W wr)) (fun i _=>cts.length-(intOf i).toNat)
    case atStart=>exact ⟨0,by omega,rfl,zq (by intro j hj;omega),HU3⟩
    case round=>
     clear HU3 H4 y2;obtain ⟨k,hk,rfl,HFF,HU⟩:=hrel;by_cases hlt:k<cts.length
     ·have hkI:(k:Int)<(cts.length:Int):=by omega
      have hk0:(0:Int)≤(k:Int):=by omega
      obtain ⟨ao',cap',e0,hcap,-,-,-,h5⟩:=HCS.out;simp only [Value.slice.injEq,true_and] at e0;obtain ⟨rfl,rfl⟩:=e0;have hcI:(cts.length:Int)≤(k2:Int):=by omega
      obtain ⟨b,o,rfl,-,hc⟩:=h5 (by omega);have hj: ∀j,j<5→wr.cell? ⟨b,o+k*5+j,none⟩=(zag cts[k])[j]?:=fun j hj=>by
       have h6:=hc (k*5+j) (by omega);rw [zd4 zag 5 (fun _=>rfl) cts k j hlt hj] at h6;obtain ⟨z,hz⟩: ∃z,(zag cts[k])[j]?=some z:=⟨_,List.getElem?_eq_getElem (show j<(zag cts[k]).length from hj)⟩;rw [hz] at h6⊢;rw [Nat.add_assoc];exact zap HU.out h6
      have q0:=hj 0 (by omega);have q1:=hj 1 (by omega);have q2:=hj 2 (by omega);have q3:=hj 3 (by omega);have q4:=hj 4 (by omega);have HX:=zq (HK.out k hlt);obtain ⟨⟨b1,l1,f1⟩,b2,l2,f2⟩:=HSL.out cts[k] (List.getElem_mem hlt);have HC0:=zq (fun w=>HCT.out w cts[k] (List.getElem_mem hlt));clear hc h5 hj;generalize cts[k]=x at*;obtain ⟨xview,xinst,xseq,xvb,xvv,xrs,xvs⟩:=x;simp only at f1 f2;subst f1 f2;simp only [zag,List.getElem?_cons_zero,List.getElem?_cons_succ,Nat.add_zero] at q0 q1 q2 q3 q4;have hu1:=HU.out.alloc (ctO xview xinst xseq (.slice b1 xrs.length l1) (.slice b2 xvs.length l2));have HC1:=zq (HC0.out _ hu1);rw [←HX.out] at HC1;have HU2:=zq hu1;clear hu1 HC0
      go_wp2_with fail
      refine HC1.out.mono ?_;rintro e w4 ⟨rfl,hu⟩;have HU4:=zq (HU2.out.trans hu);clear hu HC1;cases hvk:vk k with
      | false=>
       have HVK:=zq hvk
       go_wp2_with fail
       go_ret
       rw [HE.out,zar k hlt HVK.out];exact ⟨rfl,HU4.out⟩
      | true=>
       have HVK:=zq hvk
       go_wp2_with fail
       go_roundw
       case rel=>
        refine ⟨k+1,by omega,by go_num,zq (fun j hj=> ?_),HU4⟩;by_cases e:j=k
        ·subst e;exact HVK.out
        ·exact HFF.out j (by omega)
       case measure=>simp [intOf];omega
     ·have hkI:decide ((k:Int)<(cts.length:Int))=false:=by simp;omega
      have HA:Hid (res=true):=zq (by rw [HE.out];exact zaw (fun j hj=>HFF.out j (by omega)))
      go_wp2_with fail
      go_ret
      rw [HA.out];exact ⟨rfl,HU.out⟩
end
end Go.Proofs.YtannckelmojkoaaGreat
