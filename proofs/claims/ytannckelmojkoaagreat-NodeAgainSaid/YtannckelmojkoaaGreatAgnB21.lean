/- Parts of the proof, one behind the other. -/
import Derived.Test.YtannckelmojkoaaGreatAgnB20
set_option maxHeartbeats 32000000
set_option maxRecDepth 100000
set_option linter.unusedVariables false
set_option linter.unusedSimpArgs false
namespace Go.Proofs.YtannckelmojkoaaGreat
open Go.RowKit Go.Heap
theorem zw4 {W:World} (cs:Array Value) (T:TypeId) (n b:Nat) (hb:W.heap.size=b) (hn:cs.size=n) (hm:n≤1000):Reads (W.alloc (.cells cs T (0,0))) (.slice (some ⟨b,0,none⟩) n n) 1 n cs.toList:=by
 subst hb;refine ⟨_,n,rfl,Nat.le_refl _,by unfold maxLen;omega,by simp [hn],(fun e=>by cases e),fun _=>⟨W.heap.size,0,rfl,by simp,fun j hj=> ?_⟩⟩;rw [zab (heap_alloc_new W _)];simp
def ze4 (l:Nt) (cl:Int) (rs:List Rq) (k:Nat):Bool:=rqSealed l cl (reqAt rs k)&&(decide (k=0) || decide (cmpRq (reqAt rs (k-1)) (reqAt rs k)<0))
def zd3 (l:Nt) (most cl:Int) (rs:List Rq):Bool:=decide ((rs.length:Int)≤most)&&allR rs.length (ze4 l cl rs)
section
variable {B:Nat} {w0 w W W':World} {ss rs:List Res} {nt nm:Nat} {v bv:Value} {l:Nt}
theorem zib (a b:Rq) (W:World):Calls Tryz.prog 257 #[rqAgg a,rqAgg b] W fun e w'=>e= .returned (.int .i64 (cmpRq a b))∧Upd [] W w':=by
 have h1:=(((Own.start (Below.refl W.heap.size W) (Nat.le_refl _)).box (rqO a)).box (rqO b)).drew;simp only [zbn] at h1;have x0:((W.alloc (rqO a)).alloc (rqO b)).drew.cell? ⟨W.heap.size,0,none⟩=some (.int .i64 a.client):=zaa (h1.blkAt 1 rfl) 0 rfl;have y0:((W.alloc (rqO a)).alloc (rqO b)).drew.cell? ⟨W.heap.size+1,0,none⟩=some (.int .i64 b.client):=zaa (h1.blkAt 0 rfl) 0 rfl;have x1:((W.alloc (rqO a)).alloc (rqO b)).drew.cell? ⟨W.heap.size,1,none⟩=some (.int .i64 a.time):=zaa (h1.blkAt 1 rfl) 1 rfl;have y1:((W.alloc (rqO a)).alloc (rqO b)).drew.cell? ⟨W.heap.size+1,1,none⟩=some (.int .i64 b.time):=zaa (h1.blkAt 0 rfl) 1 rfl;have x2:((W.alloc (rqO a)).alloc (rqO b)).drew.cell? ⟨W.heap.size,2,none⟩=some (.int .i64 a.kind):=zaa (h1.blkAt 1 rfl) 2 rfl;have y2:((W.alloc (rqO a)).alloc (rqO b)).drew.cell? ⟨W.heap.size+1,2,none⟩=some (.int .i64 b.kind):=zaa (h1.blkAt 0 rfl) 2 rfl;have x3:((W.alloc (rqO a)).alloc (rqO b)).drew.cell? ⟨W.heap.size,3,none⟩=some (.int .i64 a.key):=zaa (h1.blkAt 1 rfl) 3 rfl;have y3:((W.alloc (rqO a)).alloc (rqO b)).drew.cell? ⟨W.heap.size+1,3,none⟩=some (.int .i64 b.key):=zaa (h1.blkAt 0 rfl) 3 rfl;have x4:((W.alloc (rqO a)).alloc (rqO b)).drew.cell? ⟨W.heap.size,4,none⟩=some (.int .i64 a.val):=zaa (h1.blkAt 1 rfl) 4 rfl;have y4:((W.alloc (rqO a)).alloc (rqO b)).drew.cell? ⟨W.heap.size+1,4,none⟩=some (.int .i64 b.val):=zaa (h1.blkAt 0 rfl) 4 rfl;have x5:((W.alloc (rqO a)).alloc (rqO b)).drew.cell? ⟨W.heap.size,5,none⟩=some (.int .i64 a.sl):=zaa (h1.blkAt 1 rfl) 5 rfl;have y5:((W.alloc (rqO a)).alloc (rqO b)).drew.cell? ⟨W.heap.size+1,5,none⟩=some (.int .i64 b.sl):=zaa (h1.blkAt 0 rfl) 5 rfl;have hu:Upd [] W ((W.alloc (rqO a)).alloc (rqO b)).drew:=Upd.of_below h1.below;have HU:=zq hu;have HC:=zq (fun x y (w:World)=>zrh x y w);have HE:Hid (cmpRq a b=orI [cmpI a.client b.client,cmpI a.time b.time,cmpI a.kind b.kind,cmpI a.key b.key,cmpI a.val b.val,cmpI a.sl b.sl]):=zq rfl;have HO:=zq (fun (w:World) n (hn:w.heap.size=n) xs (hx:xs.length=6) (cs:Array Value) (hc:cs.toList=intC xs)=>zwl (xs:=xs) (by rw [hx,←hc];exact zw4 (W:=w) cs 3 6 n hn (by rw [←Array.length_toList,hc];simp [hx]) (by omega)) (by omega));have hsz:((W.alloc (rqO a)).alloc (rqO b)).drew.heap.size=W.heap.size+1+1:=by simp [World.drew]
 clear h1 hu;generalize cmpRq a b=res at*;unfold rqAgg;go_enter Tryz.func257,Tryz.ntmps257
 go_upto_region 1 with fail
 refine Held.wp_held [(W.heap.size,0,[.int .i64 a.client]),(W.heap.size+1,0,[.int .i64 b.client]),(W.heap.size,1,[.int .i64 a.time]),(W.heap.size+1,1,[.int .i64 b.time]),(W.heap.size,2,[.int .i64 a.kind]),(W.heap.size+1,2,[.int .i64 b.kind]),(W.heap.size,3,[.int .i64 a.key]),(W.heap.size+1,3,[.int .i64 b.key]),(W.heap.size,4,[.int .i64 a.val]),(W.heap.size+1,4,[.int .i64 b.val]),(W.heap.size,5,[.int .i64 a.sl]),(W.heap.size+1,5,[.int .i64 b.sl])] [(1,0),(3,1),(6,2),(8,3),(12,4),(15,5),(19,6),(22,7),(26,8),(29,9),(32,10),(34,11)] [37] [(5,true),(5,true),(7,true),(7,true),(7,true),(5,true),(3,false)] (by kernel_rfl) (by kernel_rfl) ⟨⟨x0,trivial⟩,⟨y0,trivial⟩,⟨x1,trivial⟩,⟨y1,trivial⟩,⟨x2,trivial⟩,⟨y2,trivial⟩,⟨x3,trivial⟩,⟨y3,trivial⟩,⟨x4,trivial⟩,⟨y4,trivial⟩,⟨x5,trivial⟩,⟨y5,trivial⟩,trivial⟩ ?_;simp only [Held.cutAt,Held.walk,List.take_succ_cons,List.take_zero,List.drop_succ_cons,List.drop_zero]
 go_wp2_with fail
 refine (HC.out a.client b.client _).mono ?_;rintro e w' ⟨rfl,rfl⟩
 go_wp2_with fail
 refine ⟨⟨⟨x0,trivial⟩,⟨y0,trivial⟩,⟨x1,trivial⟩,⟨y1,trivial⟩,⟨x2,trivial⟩,⟨y2,trivial⟩,⟨x3,trivial⟩,⟨y3,trivial⟩,⟨x4,trivial⟩,⟨y4,trivial⟩,⟨x5,trivial⟩,⟨y5,trivial⟩,trivial⟩,?_⟩
 go_wp2_with fail
 refine (HC.out a.time b.time _).mono ?_;rintro e w' ⟨rfl,rfl⟩
 go_wp2_with fail
 refine ⟨⟨⟨x0,trivial⟩,⟨y0,trivial⟩,⟨x1,trivial⟩,⟨y1,trivial⟩,⟨x2,trivial⟩,⟨y2,trivial⟩,⟨x3,trivial⟩,⟨y3,trivial⟩,⟨x4,trivial⟩,⟨y4,trivial⟩,⟨x5,trivial⟩,⟨y5,trivial⟩,trivial⟩,?_⟩
 go_wp2_with fail
 refine (HC.out a.kind b.kind _).mono ?_;rintro e w' ⟨rfl,rfl⟩
 go_wp2_with fail
 refine ⟨⟨⟨x0,trivial⟩,⟨y0,trivial⟩,⟨x1,trivial⟩,⟨y1,trivial⟩,⟨x2,trivial⟩,⟨y2,trivial⟩,⟨x3,trivial⟩,⟨y3,trivial⟩,⟨x4,trivial⟩,⟨y4,trivial⟩,⟨x5,trivial⟩,⟨y5,trivial⟩,trivial⟩,?_⟩
 go_wp2_with fail
 refine (HC.out a.key b.key _).mono ?_;rintro e w' ⟨rfl,rfl⟩
 go_wp2_with fail
 refine ⟨⟨⟨x0,trivial⟩,⟨y0,trivial⟩,⟨x1,trivial⟩,⟨y1,trivial⟩,⟨x2,trivial⟩,⟨y2,trivial⟩,⟨x3,trivial⟩,⟨y3,trivial⟩,⟨x4,trivial⟩,⟨y4,trivial⟩,⟨x5,trivial⟩,⟨y5,trivial⟩,trivial⟩,?_⟩
 go_wp2_with fail
 refine (HC.out a.val b.val _).mono ?_;rintro e w' ⟨rfl,rfl⟩
 go_wp2_with fail
 refine ⟨⟨⟨x0,trivial⟩,⟨y0,trivial⟩,⟨x1,trivial⟩,⟨y1,trivial⟩,⟨x2,trivial⟩,⟨y2,trivial⟩,⟨x3,trivial⟩,⟨y3,trivial⟩,⟨x4,trivial⟩,⟨y4,trivial⟩,⟨x5,trivial⟩,⟨y5,trivial⟩,trivial⟩,?_⟩
 go_wp2_with fail
 refine (HC.out a.sl b.sl _).mono ?_;rintro e w' ⟨rfl,rfl⟩
 go_wp2_with fail
 refine ⟨⟨⟨x0,trivial⟩,⟨y0,trivial⟩,⟨x1,trivial⟩,⟨y1,trivial⟩,⟨x2,trivial⟩,⟨y2,trivial⟩,⟨x3,trivial⟩,⟨y3,trivial⟩,⟨x4,trivial⟩,⟨y4,trivial⟩,⟨x5,trivial⟩,⟨y5,trivial⟩,trivial⟩,?_⟩
 go_wp2_with fail
 refine (HO.out _ _ hsz [cmpI a.client b.client,cmpI a.time b.time,cmpI a.kind b.kind,cmpI a.key b.key,cmpI a.val b.val,cmpI a.sl b.sl] rfl _ rfl).mono ?_;rintro e w' ⟨rfl,rfl⟩
 go_wp2_with fail
 refine ⟨trivial,?_⟩
 go_wp2_with fail
 refine ⟨trivial,by rfl,⟨⟨rfl,.inl ⟨by kernel_rfl,rfl⟩⟩,⟨rfl,.inl ⟨by kernel_rfl,rfl⟩⟩,⟨rfl,.inl ⟨by kernel_rfl,rfl⟩⟩,⟨rfl,.inl ⟨by kernel_rfl,rfl⟩⟩,⟨rfl,.inl ⟨by kernel_rfl,rfl⟩⟩,⟨rfl,.inl ⟨by kernel_rfl,rfl⟩⟩,⟨rfl,.inl ⟨by kernel_rfl,rfl⟩⟩,⟨rfl,.inl ⟨by kernel_rfl,rfl⟩⟩,⟨rfl,.inl ⟨by kernel_rfl,rfl⟩⟩,⟨rfl,.inl ⟨by kernel_rfl,rfl⟩⟩,⟨rfl,.inl ⟨by kernel_rfl,rfl⟩⟩,⟨rfl,.inl ⟨by kernel_rfl,rfl⟩⟩,trivial⟩,?_⟩
 go_wp2_with fail
 go_ret
 rw [HE.out];exact ⟨rfl,HU.out.alloc _⟩
theorem zlv {w w':World} {b a:Nat} {y:Rq} (hu:Upd [] w w') (h:w.cell? ⟨b,a,none⟩=some (.int .i64 y.client)∧w.cell? ⟨b,a+1,none⟩=some (.int .i64 y.time)∧w.cell? ⟨b,a+2,none⟩=some (.int .i64 y.kind)∧w.cell? ⟨b,a+3,none⟩=some (.int .i64 y.key)∧w.cell? ⟨b,a+4,none⟩=some (.int .i64 y.val)∧w.cell? ⟨b,a+5,none⟩=some (.int .i64 y.sl)):
  w'.cell? ⟨b,a,none⟩=some (.int .i64 y.client)∧w'.cell? ⟨b,a+1,none⟩=some (.int .i64 y.time)∧w'.cell? ⟨b,a+2,none⟩=some (.int .i64 y.kind)∧w'.cell? ⟨b,a+3,none⟩=some (.int .i64 y.key)∧w'.cell? ⟨b,a+4,none⟩=some (.int .i64 y.val)∧w'.cell? ⟨b,a+5,none⟩=some (.int .i64 y.sl):=
 ⟨zaj hu h.1,zaj hu h.2.1,zaj hu h.2.2.1,zaj hu h.2.2.2.1,zaj hu h.2.2.2.2.1,zaj hu h.2.2.2.2.2⟩
theorem zpg {rs:List Rq} {most cl:Int} (hn:NtAt W nt nm l) (hl:NtOk l) (hcl:cl≤4) (hb:Bat W bv rs) (hln:rs.length≤100000):
  Calls Tryz.prog 235 #[bv,.int .i64 most,.int .i64 cl,.pointer (some ⟨nt,0,none⟩)] W fun e w'=>e= .returned (.bool (zd3 l most cl rs))∧Upd [] W w':=by
 have HN:=zq hn;obtain ⟨ao,cap,rfl,hcap,h2,h3,h4,h5⟩:=hb;clear h2 h3 h4 hn;have H5:=zq h5;clear h5;by_cases hm:most<(rs.length:Int)
 ·have HE:Hid (zd3 l most cl rs=false):=zq (by unfold zd3;rw [decide_eq_false (by omega)];rfl)
  clear HN H5;go_enter Tryz.func235,Tryz.ntmps235
  go_wp2_with fail
  go_ret
  rw [HE.out];exact ⟨rfl,Upd.refl _ _⟩
 have hm':decide (most<(rs.length:Int))=false:=by simp;omega
 have HE:Hid (zd3 l most cl rs=allR rs.length (ze4 l cl rs)):=zq (by unfold zd3;rw [decide_eq_true (by omega)];simp);generalize zd3 l most cl rs=res at*;clear hm;go_enter Tryz.func235,Tryz.ntmps235
 go_wp2_with fail
 go_loopw [17] (fun i wr=> ∃k:Nat,k≤rs.length∧i= .int .i64 k∧Hid (∀j,j<k→ze4 l cl rs j=true)∧Hid (Upd [] W wr)) (fun i _=>rs.length-(intOf i).toNat)
 case atStart=>exact ⟨0,by omega,rfl,zq (by intro j hj;omega),zq (Upd.refl _ _)⟩
 case round=>
  obtain ⟨k,hk,rfl,HF,HU⟩:=hrel;by_cases hlt:k<rs.length
  ·have hkI:(k:Int)<(rs.length:Int):=by omega
   have hk0:(0:Int)≤(k:Int):=by omega
   have hcI:(rs.length:Int)≤(cap:Int):=by omega
   obtain ⟨b,o,rfl,hbs,hc⟩:=H5.out (by omega);obtain ⟨q0,q1,q2,q3,q4,q5⟩:=zlv HU.out (zb8 hc k rs[k] (by simp));have HX:Hid (ze4 l cl rs k=(rqSealed l cl rs[k]&&(decide (k=0) || decide (cmpRq (reqAt rs (k-1)) rs[k]<0)))):=zq (by unfold ze4;rw [zjr hlt]);have HP:Hid (∀m,k=m+1→ ∃y,reqAt rs (k-1)=y∧ ∀w',Upd [] W w'→w'.cell? ⟨b,o+m*6,none⟩=some (.int .i64 y.client)∧w'.cell? ⟨b,o+m*6+1,none⟩=some (.int .i64 y.time)∧w'.cell? ⟨b,o+m*6+2,none⟩=some (.int .i64 y.kind)∧w'.cell? ⟨b,o+m*6+3,none⟩=some (.int .i64 y.key)∧w'.cell? ⟨b,o+m*6+4,none⟩=some (.int .i64 y.val)∧w'.cell? ⟨b,o+m*6+5,none⟩=some (.int .i64 y.sl)):=
    zq (fun m hm=>⟨rs[m]'(by omega),by subst hm;rw [Nat.add_sub_cancel,zjr (by omega)],fun w' hu=>zlv hu (zb8 hc m (rs[m]'(by omega)) (by simp))⟩)
   clear hc hbs;generalize rs[k]=x at*;have HS:=zq (fun w (hu:Upd [] W w)=>zm3 x (HN.out.upd hu) hl hcl);unfold rqAgg at HS;have hb0:=heap_alloc_new wr (rqO x);have hu1:=HU.out.alloc (rqO x);rcases (show k=0∨ ∃m,k=m+1 by cases k with | zero=>exact .inl rfl | succ m=>exact .inr ⟨m,rfl⟩) with hkm | ⟨m,hkm⟩
   ·have hgk:decide ((0:Int)<(k:Int))=false:=by simp;omega
    have hgkN:decide (0<k)=false:=by simp;omega
    have HK:=zq hkm;clear HP hkm;have HS1:=zq (HS.out (wr.alloc (rqO x)).drew hu1.drew);have HU1:=zq hu1.drew;have hbd:((wr.alloc (rqO x)).drew).heap[wr.heap.size]?=some (rqO x):=hb0;clear hb0 hu1;have g0:(wr.alloc (rqO x)).drew.cell? ⟨wr.heap.size,0,none⟩=some (.int .i64 x.client):=zaa (hbd) 0 rfl;have g1:(wr.alloc (rqO x)).drew.cell? ⟨wr.heap.size,0+1,none⟩=some (.int .i64 x.time):=zaa (hbd) 1 rfl;have g2:(wr.alloc (rqO x)).drew.cell? ⟨wr.heap.size,0+2,none⟩=some (.int .i64 x.kind):=zaa (hbd) 2 rfl;have g3:(wr.alloc (rqO x)).drew.cell? ⟨wr.heap.size,0+3,none⟩=some (.int .i64 x.key):=zaa (hbd) 3 rfl;have g4:(wr.alloc (rqO x)).drew.cell? ⟨wr.heap.size,0+4,none⟩=some (.int .i64 x.val):=zaa (hbd) 4 rfl;have g5:(wr.alloc (rqO x)).drew.cell? ⟨wr.heap.size,0+5,none⟩=some (.int .i64 x.sl):=zaa (hbd) 5 rfl;unfold rqO at*
    go_upto_region 6 with fail
    refine Held.wp_held2 [(wr.heap.size,0,[.int .i64 x.client,.int .i64 x.time,.int .i64 x.kind,.int .i64 x.key,.int .i64 x.val,.int .i64 x.sl])] [(0,0),(13,0),(14,0)] [15] [(4,true),(15,false)] (by kernel_rfl) (by kernel_rfl) ⟨⟨g0,g1,g2,g3,g4,g5,trivial⟩,trivial⟩ ?_;simp only [Held.cutAt,Held.walk,List.take_succ_cons,List.take_zero,List.drop_succ_cons,List.drop_zero]
    go_wp2_with fail
    refine HS1.out.mono ?_;rintro e w2 ⟨rfl,hu2⟩;have hbe:w2.heap[wr.heap.size]?=some (.cells #[.int .i64 x.client,.int .i64 x.time,.int .i64 x.kind,.int .i64 x.key,.int .i64 x.val,.int .i64 x.sl] 38 (0,0)):=(hu2.block _ (by simp [World.drew]) (by simp)).trans hbd;have HU2:=zq (HU1.out.trans hu2);clear hu2 HS1 HS g0 g1 g2 g3 g4 g5 hbd;have g0:w2.cell? ⟨wr.heap.size,0,none⟩=some (.int .i64 x.client):=zaa (hbe) 0 rfl;have g1:w2.cell? ⟨wr.heap.size,0+1,none⟩=some (.int .i64 x.time):=zaa (hbe) 1 rfl;have g2:w2.cell? ⟨wr.heap.size,0+2,none⟩=some (.int .i64 x.kind):=zaa (hbe) 2 rfl;have g3:w2.cell? ⟨wr.heap.size,0+3,none⟩=some (.int .i64 x.key):=zaa (hbe) 3 rfl;have g4:w2.cell? ⟨wr.heap.size,0+4,none⟩=some (.int .i64 x.val):=zaa (hbe) 4 rfl;have g5:w2.cell? ⟨wr.heap.size,0+5,none⟩=some (.int .i64 x.sl):=zaa (hbe) 5 rfl;cases hs:rqSealed l cl x with
    | false=>
     rw [hs] at HX;simp only [Bool.false_and] at HX
     go_wp2_with fail
     refine ⟨⟨⟨g0,g1,g2,g3,g4,g5,trivial⟩,trivial⟩,?_⟩
     go_wp2_with fail
     refine ⟨trivial,?_⟩
     go_wp2_with fail
     refine ⟨trivial,by rfl,⟨.inr ⟨⟨rfl,.inr ⟨by kernel_rfl,by kernel_rfl⟩⟩,trivial⟩,.inl ⟨rfl,rfl⟩,.inl ⟨rfl,rfl⟩,trivial⟩,?_⟩
     go_wp2_with fail
     go_ret
     rw [HE.out,za2 _ hlt HX.out];exact ⟨rfl,HU2.out⟩
    | true=>
     rw [hs] at HX;rw [decide_eq_true HK.out] at HX;simp only [Bool.true_or,Bool.and_self] at HX
     go_wp2_with fail
     refine ⟨⟨⟨g0,g1,g2,g3,g4,g5,trivial⟩,trivial⟩,?_⟩
     go_wp2_with fail
     refine ⟨trivial,?_⟩
     go_wp2_with fail
     refine ⟨trivial,by rfl,⟨.inr ⟨⟨rfl,.inr ⟨by kernel_rfl,by kernel_rfl⟩⟩,trivial⟩,.inl ⟨rfl,rfl⟩,.inl ⟨rfl,rfl⟩,trivial⟩,?_⟩
     go_wp2_with fail
     go_roundw
     case rel=>exact ⟨k+1,by omega,by go_num,zq (fun j hj=>by rw [show j=k by have:=HK.out;omega];exact HX.out),HU2⟩
     case measure=>simp [intOf];omega
   ·obtain ⟨y,hy,hyc⟩:=HP.out m hkm
    have HY:=zq hyc;rw [hy] at HX;have hgk:(0:Int)<(k:Int):=by omega
    have hgkN:decide (0<k)=true:=by simp;omega
    have hmi:(k:Int)-1=(m:Int):=by omega
    have hmI:(m:Int)<(rs.length:Int):=by omega
    have hm0:(0:Int)≤(m:Int):=by omega
    have HK:=zq hkm;clear HP hyc hy hkm;have HS1:=zq (HS.out (wr.alloc (rqO x)).drew hu1.drew);have HU1:=zq hu1.drew;have hbd:((wr.alloc (rqO x)).drew).heap[wr.heap.size]?=some (rqO x):=hb0;clear hb0 hu1;have g0:(wr.alloc (rqO x)).drew.cell? ⟨wr.heap.size,0,none⟩=some (.int .i64 x.client):=zaa (hbd) 0 rfl;have g1:(wr.alloc (rqO x)).drew.cell? ⟨wr.heap.size,0+1,none⟩=some (.int .i64 x.time):=zaa (hbd) 1 rfl;have g2:(wr.alloc (rqO x)).drew.cell? ⟨wr.heap.size,0+2,none⟩=some (.int .i64 x.kind):=zaa (hbd) 2 rfl;have g3:(wr.alloc (rqO x)).drew.cell? ⟨wr.heap.size,0+3,none⟩=some (.int .i64 x.key):=zaa (hbd) 3 rfl;have g4:(wr.alloc (rqO x)).drew.cell? ⟨wr.heap.size,0+4,none⟩=some (.int .i64 x.val):=zaa (hbd) 4 rfl;have g5:(wr.alloc (rqO x)).drew.cell? ⟨wr.heap.size,0+5,none⟩=some (.int .i64 x.sl):=zaa (hbd) 5 rfl;obtain ⟨p0,p1,p2,p3,p4,p5⟩:=HY.out (wr.alloc (rqO x)).drew (by exact HU1.out);unfold rqO at*
    go_upto_region 6 with fail
    refine Held.wp_held2 [(wr.heap.size,0,[.int .i64 x.client,.int .i64 x.time,.int .i64 x.kind,.int .i64 x.key,.int .i64 x.val,.int .i64 x.sl]),(b,o+m*6,[.int .i64 y.client,.int .i64 y.time,.int .i64 y.kind,.int .i64 y.key,.int .i64 y.val,.int .i64 y.sl])] [(0,0),(13,1),(14,0)] [15] [(4,true),(15,false)] (by kernel_rfl) (by kernel_rfl) ⟨⟨g0,g1,g2,g3,g4,g5,trivial⟩,⟨p0,p1,p2,p3,p4,p5,trivial⟩,trivial⟩ ?_;simp only [Held.cutAt,Held.walk,List.take_succ_cons,List.take_zero,List.drop_succ_cons,List.drop_zero]
    go_wp2_with fail
    refine HS1.out.mono ?_;rintro e w2 ⟨rfl,hu2⟩;have hbe:w2.heap[wr.heap.size]?=some (.cells #[.int .i64 x.client,.int .i64 x.time,.int .i64 x.kind,.int .i64 x.key,.int .i64 x.val,.int .i64 x.sl] 38 (0,0)):=(hu2.block _ (by simp [World.drew]) (by simp)).trans hbd;have HU2:=zq (HU1.out.trans hu2);clear hu2 HS1 HS g0 g1 g2 g3 g4 g5 hbd p0 p1 p2 p3 p4 p5;have g0:w2.cell? ⟨wr.heap.size,0,none⟩=some (.int .i64 x.client):=zaa (hbe) 0 rfl;have g1:w2.cell? ⟨wr.heap.size,0+1,none⟩=some (.int .i64 x.time):=zaa (hbe) 1 rfl;have g2:w2.cell? ⟨wr.heap.size,0+2,none⟩=some (.int .i64 x.kind):=zaa (hbe) 2 rfl;have g3:w2.cell? ⟨wr.heap.size,0+3,none⟩=some (.int .i64 x.key):=zaa (hbe) 3 rfl;have g4:w2.cell? ⟨wr.heap.size,0+4,none⟩=some (.int .i64 x.val):=zaa (hbe) 4 rfl;have g5:w2.cell? ⟨wr.heap.size,0+5,none⟩=some (.int .i64 x.sl):=zaa (hbe) 5 rfl;obtain ⟨p0,p1,p2,p3,p4,p5⟩:=HY.out w2 (by exact HU2.out);cases hs:rqSealed l cl x with
    | false=>
     rw [hs] at HX;simp only [Bool.false_and] at HX
     go_wp2_with fail
     refine ⟨⟨⟨g0,g1,g2,g3,g4,g5,trivial⟩,⟨p0,p1,p2,p3,p4,p5,trivial⟩,trivial⟩,?_⟩
     go_wp2_with fail
     refine ⟨trivial,?_⟩
     go_wp2_with fail
     refine ⟨trivial,by rfl,⟨.inr ⟨⟨rfl,.inr ⟨by kernel_rfl,by kernel_rfl⟩⟩,trivial⟩,.inl ⟨rfl,rfl⟩,.inl ⟨rfl,rfl⟩,trivial⟩,?_⟩
     go_wp2_with fail
     go_ret
     rw [HE.out,za2 _ hlt HX.out];exact ⟨rfl,HU2.out⟩
    | true=>
     rw [hs] at HX;have HC:=zq (zib y x w2);unfold rqAgg at HC;have HX:=zq (HX.out);rw [decide_eq_false (show¬k=0 by have:=HK.out;omega)] at HX;simp only [Bool.false_or,Bool.true_and] at HX;generalize cmpRq y x=c at*
     go_wp2_with fail
     refine ⟨⟨⟨g0,g1,g2,g3,g4,g5,trivial⟩,⟨p0,p1,p2,p3,p4,p5,trivial⟩,trivial⟩,?_⟩
     go_wp2_with fail
     refine HC.out.mono ?_;rintro e w3 ⟨rfl,hu3⟩;have HU3:=zq (HU2.out.trans hu3);clear hu3 HC;by_cases hcc:0≤c
     ·have HX2:Hid (ze4 l cl rs k=false):=zq (HX.out.trans (by simp;omega))
      go_wp2_with fail
      refine ⟨trivial,?_⟩
      go_wp2_with fail
      refine ⟨trivial,by rfl,⟨.inr ⟨⟨rfl,.inr ⟨by kernel_rfl,by kernel_rfl⟩⟩,trivial⟩,.inr ⟨⟨rfl,.inr ⟨by kernel_rfl,by kernel_rfl⟩⟩,trivial⟩,.inr ⟨⟨rfl,.inr ⟨by kernel_rfl,by kernel_rfl⟩⟩,trivial⟩,trivial⟩,?_⟩
      go_wp2_with fail
      go_ret
      rw [HE.out,za2 _ hlt HX2.out];exact ⟨rfl,HU3.out⟩
     ·have HX2:Hid (ze4 l cl rs k=true):=zq (HX.out.trans (by simp;omega))
      have hcc':decide (0≤c)=false:=by simp;omega
      go_wp2_with fail
      refine ⟨trivial,?_⟩
      go_wp2_with fail
      refine ⟨trivial,by rfl,⟨.inr ⟨⟨rfl,.inr ⟨by kernel_rfl,by kernel_rfl⟩⟩,trivial⟩,.inr ⟨⟨rfl,.inr ⟨by kernel_rfl,by kernel_rfl⟩⟩,trivial⟩,.inr ⟨⟨rfl,.inr ⟨by kernel_rfl,by kernel_rfl⟩⟩,trivial⟩,trivial⟩,?_⟩
      go_wp2_with fail
      go_roundw
      case rel=>exact ⟨k+1,by omega,by go_num,zq (fun j hj=>by
       by_cases e:j=k
       ·subst e;exact HX2.out
       ·exact HF.out j (by omega)),HU3⟩
      case measure=>simp [intOf];omega
  ·have hkI:decide ((k:Int)<(rs.length:Int))=false:=by simp;omega
   have HA:Hid (res=true):=zq (by rw [HE.out];exact zc7 (fun j hj=>HF.out j (by omega)))
   go_wp2_with fail
   go_ret
   rw [HA.out];exact ⟨rfl,HU.out⟩
end
section
variable {B:Nat} {w0 w W W':World} {ss rs:List Res} {nt nm:Nat} {v bv:Value} {l:Nt}
abbrev mz:Obj:= .cells #[.int .i64 0,.int .i64 0,.int .i64 0,.int .i64 0,.int .i64 0,.int .i64 0,.slice none 0 0,.slice none 0 0,.slice none 0 0,.slice none 0 0] 47 (0,0)
theorem zdn {b:Nat} {T:TypeId} {c0 c1 c2 c3 c4 c5 c6 c7 c8 c9 v0 v1 v2 v3 v4 v5 v6 v7 v8 v9:Value} (h:Own B w0 W (blk b (.cells #[c0,c1,c2,c3,c4,c5,c6,c7,c8,c9] T (0,0))::rs)):Own B w0 ((((((((((W.setCell ⟨b,0,none⟩ v0).setCell ⟨b,1,none⟩ v1).setCell ⟨b,2,none⟩ v2).setCell ⟨b,3,none⟩ v3).setCell ⟨b,4,none⟩ v4).setCell ⟨b,5,none⟩ v5).setCell ⟨b,6,none⟩ v6).setCell ⟨b,7,none⟩ v7).setCell ⟨b,8,none⟩ v8).setCell ⟨b,9,none⟩ v9) (blk b (.cells #[v0,v1,v2,v3,v4,v5,v6,v7,v8,v9] T (0,0))::rs):=(Own.storeTo (Own.storeTo (Own.storeTo (Own.storeTo (Own.storeTo (Own.storeTo (Own.storeTo (Own.storeTo (Own.storeTo (Own.storeTo h 0 v0 (o':= .cells #[v0,c1,c2,c3,c4,c5,c6,c7,c8,c9] T (0,0)) rfl) 1 v1 (o':= .cells #[v0,v1,c2,c3,c4,c5,c6,c7,c8,c9] T (0,0)) rfl) 2 v2 (o':= .cells #[v0,v1,v2,c3,c4,c5,c6,c7,c8,c9] T (0,0)) rfl) 3 v3 (o':= .cells #[v0,v1,v2,v3,c4,c5,c6,c7,c8,c9] T (0,0)) rfl) 4 v4 (o':= .cells #[v0,v1,v2,v3,v4,c5,c6,c7,c8,c9] T (0,0)) rfl) 5 v5 (o':= .cells #[v0,v1,v2,v3,v4,v5,c6,c7,c8,c9] T (0,0)) rfl) 6 v6 (o':= .cells #[v0,v1,v2,v3,v4,v5,v6,c7,c8,c9] T (0,0)) rfl) 7 v7 (o':= .cells #[v0,v1,v2,v3,v4,v5,v6,v7,c8,c9] T (0,0)) rfl) 8 v8 (o':= .cells #[v0,v1,v2,v3,v4,v5,v6,v7,v8,c9] T (0,0)) rfl) 9 v9 (o':= .cells #[v0,v1,v2,v3,v4,v5,v6,v7,v8,v9] T (0,0)) rfl)
end
def balP (kind node:Int) (c:Cp):Ms:=⟨kind,node,c.view,c.inst,c.seq,0,c.rs,[],[],[]⟩
def votedK (l:Nt) (kind:Int) (c:Cp) (k:Nat):Bool:=zov l (balP kind (zfw c.vs k).1 c) (zfw c.vs k).2
def votedP (l:Nt) (kind:Int) (c:Cp) (f:Nat):Bool:=zf7 c.vs f&&allR c.vs.length (votedK l kind c)
section
variable {B:Nat} {w0 w W W':World} {ss rs:List Res} {nt nm:Nat} {v bv:Value} {l:Nt}
end
theorem bytd {w:World} {ao:Option Addr} {cap a:Nat} {bs:Bys} (h:Byt w (.slice ao bs.length cap) bs) (ha:a≤bs.length):Byt w (.slice (ao.map fun x=>x.add a) (bs.length-a) (cap-a)) (bs.drop a):=by
 obtain ⟨⟨ao',cap',e,h1,h2,h3,h4,h5⟩,hb⟩:=h;cases e
 refine ⟨⟨_,_,by rw [List.length_drop],by rw [List.length_drop];omega,by omega,by simp,fun e=> ?_,fun hn=> ?_⟩,fun c hc=>hb c (List.mem_of_mem_drop hc)⟩
 ·cases ao with
  | none=>have:=h4 rfl;rw [List.length_drop];omega
  | some x=>cases e
 ·rw [List.length_drop] at hn
  obtain ⟨b,o,rfl,hlt,hc⟩:=h5 (by omega);refine ⟨b,o+a,?_,hlt,fun j hj=> ?_⟩
  ·simp only [Option.map_some,Option.some.injEq]
   exact addr_add b o a
  ·rw [List.length_drop] at hj
   rw [Nat.add_assoc,hc (a+j) (by omega)];simp
theorem bytd0 {w:World} {ao:Option Addr} {a:Nat} {bs:Bys} (h:Byt w (.slice ao bs.length a) bs) (ha:a≤bs.length) (h0:0<a):Byt w (.slice ao 0 0) (bs.drop a):=by
 obtain ⟨⟨ao',cap',e,h1,h2,h3,h4,h5⟩,hb⟩:=h;cases e
 have hl:bs.length=a:=by omega
 refine ⟨⟨ao,0,by rw [List.length_drop,hl,Nat.sub_self],by rw [List.length_drop];omega,by omega,by simp,fun e=> ?_,fun hn=> ?_⟩,fun c hc=>hb c (List.mem_of_mem_drop hc)⟩
 ·rw [List.length_drop];omega
 ·rw [List.length_drop] at hn;omega
theorem zbe {w:World} {b:Nat} {T:TypeId} {v0 v1 v2 v3 v4 v5 v6 v7 v8 v9:Value} (h:w.heap[b]?=some (.cells #[v0,v1,v2,v3,v4,v5,v6,v7,v8,v9] T (0,0))):w.cell? ⟨b,0,none⟩=some v0∧w.cell? ⟨b,1,none⟩=some v1∧w.cell? ⟨b,2,none⟩=some v2∧w.cell? ⟨b,3,none⟩=some v3∧w.cell? ⟨b,4,none⟩=some v4∧w.cell? ⟨b,5,none⟩=some v5∧w.cell? ⟨b,6,none⟩=some v6∧w.cell? ⟨b,7,none⟩=some v7∧w.cell? ⟨b,8,none⟩=some v8∧w.cell? ⟨b,9,none⟩=some v9∧
  w.frozen? ⟨b,0,none⟩=false∧w.frozen? ⟨b,1,none⟩=false∧w.frozen? ⟨b,2,none⟩=false∧w.frozen? ⟨b,3,none⟩=false∧w.frozen? ⟨b,4,none⟩=false∧w.frozen? ⟨b,5,none⟩=false∧w.frozen? ⟨b,6,none⟩=false∧w.frozen? ⟨b,7,none⟩=false∧w.frozen? ⟨b,8,none⟩=false∧w.frozen? ⟨b,9,none⟩=false:=
 ⟨zaa h 0 rfl,zaa h 1 rfl,zaa h 2 rfl,zaa h 3 rfl,zaa h 4 rfl,zaa h 5 rfl,zaa h 6 rfl,zaa h 7 rfl,zaa h 8 rfl,zaa h 9 rfl,zac h 0,zac h 1,zac h 2,zac h 3,zac h 4,zac h 5,zac h 6,zac h 7,zac h 8,zac h 9⟩
def openP (l:Nt) (f:Nat) (cl:Int) (bs:Bys):Option (Ms×Int):=
 match takeN bs 0 with
 | none=>none
 | some (v,a)=>match ze0 (bs.drop a) with
  | none=>none
  | some m=>if formP f cl m&&(decide ((m.fm,bs.drop a)∈l)&&(findN l m.fm (bs.drop a)==(v:Int))) then some (m,v) else none
def OpenP (B:Nat) (w0:World) (ss:List Res) (o:Option (Ms×Int)) (e:Ending) (w':World):Prop:=match o with
 | none=>e= .returned (.tuple #[.agg (mmA noMm),.int .i64 0,.int .i64 2])∧Own B w0 w' ss
 | some (m,sl)=> ∃mm:Mm,e= .returned (.tuple #[.agg (mmA mm),.int .i64 sl,.int .i64 0])∧mm.ms=m∧MsOk m∧Own B w0 w' (mmR mm ss)
def NtIn (ss:List Res) (nt nm:Nat) (l:Nt):Prop:=blk nt (noB nm)∈ss∧ntR nm l∈ss
theorem nt_in {B:Nat} {w0 W:World} {rs ss:List Res} {nt nm:Nat} {l:Nt} (h:Own B w0 W rs) (hn:NtIn ss nt nm l) (hs: ∀r∈ss,r∈rs):NtAt W nt nm l:=by
 obtain ⟨i,hi⟩:=List.getElem?_of_mem (hs _ hn.1);obtain ⟨j,hj⟩:=List.getElem?_of_mem (hs _ hn.2);exact nt_at h i j hi hj
theorem open_any {B:Nat} {w0 W:World} {ss:List Res} {p nm f:Nat} {l:Nt} {cl:Int} {bv:Value} {bs:Bys} (hf1:1≤f) (hf2:f≤4) (hc1:1≤cl) (hc2:cl≤4) (h:Own B w0 W ss) (hb:RdOk w0 B bv bs ss) (hn:NtIn ss p nm l) (hl0:NtOk l):
  Calls Tryz.prog 27 #[bv,.int .i64 f,.int .i64 cl,.pointer (some ⟨p,0,none⟩)] W (OpenP B w0 ss (openP l f cl bs)):=by
 have HB:=zq hb;have hl:=hb.l;obtain ⟨ao,cap,rfl,hcap,hmax⟩:=hb.f;have H0:=zq (h.box (.cells #[.int .i64 0,.int .i64 0,.int .i64 0,.int .i64 0,.int .i64 0,.int .i64 0,.slice none 0 0,.slice none 0 0,.slice none 0 0,.slice none 0 0] 47 (0,0)));have hlI:decide ((65536:Int)<(bs.length:Int))=false:=by simp;omega
 have HT:=zq (zel _ bs 0 _ (HB.out.b H0.out (by simp+contextual)) (by omega) (by omega));have HO:Hid (openP l f cl bs=match takeN bs 0 with | none=>none | some (v,a)=>match ze0 (bs.drop a) with | none=>none | some m=>if formP f cl m&&(decide ((m.fm,bs.drop a)∈l)&&(findN l m.fm (bs.drop a)==(v:Int))) then some (m,v) else none):=zq rfl
 generalize openP l f cl bs=op at*;clear hb h;go_enter Tryz.func27,Tryz.ntmps27
 go_wp2_with fail
 generalize World.alloc W _=W1 at*;refine HT.out.mono ?_;rintro e w1 ⟨rfl,rfl⟩;clear HT;have b0:=H0.out.blkAt 0 rfl;obtain ⟨x0,x1,x2,x3,x4,x5,x6,x7,x8,x9,z0,z1,z2,z3,z4,z5,z6,z7,z8,z9⟩:=zbe b0;cases ht:takeN bs 0 with
 | none=>
  rw [ht] at HO;simp only at HO;clear ht;have HR:=zq (zdn (v0:= .int .i64 0) (v1:= .int .i64 0) (v2:= .int .i64 0) (v3:= .int .i64 0) (v4:= .int .i64 0) (v5:= .int .i64 0) (v6:= .slice none 0 0) (v7:= .slice none 0 0) (v8:= .slice none 0 0) (v9:= .slice none 0 0) (H0.out))
  go_wp2_with fail
  generalize World.setCell _ _ _=y at*;obtain ⟨f0,f1,f2,f3,f4,f5,f6,f7,f8,f9,-⟩:=zbe (HR.out.blkAt 0 rfl);exact bodyPost_ret (v:= .tuple #[.agg #[.int .i64 0,.int .i64 0,.int .i64 0,.int .i64 0,.int .i64 0,.int .i64 0,.slice none 0 0,.slice none 0 0,.slice none 0 0,.slice none 0 0],.int .i64 0,.int .i64 2]) (by simp [results,Tryz.results27,go_sem,f0,f1,f2,f3,f4,f5,f6,f7,f8,f9]) rfl (by rw [HO.out];exact ⟨rfl,HR.out.drop⟩)
 | some q=>
  obtain ⟨v,a⟩:=q;have hab:=(zdr ht).2;rw [ht] at HO;simp only at HO;clear ht;by_cases hca:cap=a
  ·subst hca
   have HBY:Hid (∀w rs,Own B w0 w rs→(∀r∈ss,r∈rs)→Byt w (.slice ao 0 0) (bs.drop cap)):=zq (fun w rs ho hs=>bytd0 (HB.out.b ho hs) (by omega) (by omega));have hfm:=zb1 (HBY.out _ _ H0.out (by simp+contextual));have HPA:=zq (zoh H0.out ⟨fun ho hs=>HBY.out _ _ ho (fun r hr=>hs r (by simp [hr])),hfm,by rw [List.length_drop];omega⟩);have HOK:Hid (∀m,ze0 (bs.drop cap)=some m→MsOk m):=zq (fun m h=>zta h);have HDL:Hid (∀c∈bs.drop cap,c<256):=zq ((HBY.out _ _ H0.out (by simp+contextual)).2);have HDN:Hid ((bs.drop cap).length≤100000):=zq (by rw [List.length_drop];omega);clear hfm;generalize ze0 (bs.drop cap)=po at*
   go_wp2_with fail
   refine HPA.out.mono ?_;intro e w2 hq;clear HPA;clear b0 x0 z0 x1 z1 x2 z2 x3 z3 x4 z4 x5 z5 x6 z6 x7 z7 x8 z8 x9 z9;cases po with
   | none=>
    simp only at HO;obtain ⟨he,ho⟩:=hq;have he:e= .returned (.tuple #[.agg #[.int .i64 0,.int .i64 0,.int .i64 0,.int .i64 0,.int .i64 0,.int .i64 0,.slice none 0 0,.slice none 0 0,.slice none 0 0,.slice none 0 0],.bool false]):=he;subst he;have b0:=ho.blkAt 0 rfl;obtain ⟨x0,x1,x2,x3,x4,x5,x6,x7,x8,x9,z0,z1,z2,z3,z4,z5,z6,z7,z8,z9⟩:=zbe b0;have HR:=zq (zdn (v0:= .int .i64 0) (v1:= .int .i64 0) (v2:= .int .i64 0) (v3:= .int .i64 0) (v4:= .int .i64 0) (v5:= .int .i64 0) (v6:= .slice none 0 0) (v7:= .slice none 0 0) (v8:= .slice none 0 0) (v9:= .slice none 0 0) (ho));clear ho b0
    go_wp2_with fail
    generalize World.setCell _ _ _=y at*;clear x0 z0 x1 z1 x2 z2 x3 z3 x4 z4 x5 z5 x6 z6 x7 z7 x8 z8 x9 z9;have b0:=HR.out.blkAt 0 rfl;obtain ⟨x0,x1,x2,x3,x4,x5,x6,x7,x8,x9,z0,z1,z2,z3,z4,z5,z6,z7,z8,z9⟩:=zbe b0
    go_quiet (fail)
    generalize hy1:World.drewN y _=y1;have HR1:Own B w0 y1 (blk W.heap.size (.cells #[.int .i64 0,.int .i64 0,.int .i64 0,.int .i64 0,.int .i64 0,.int .i64 0,.slice none 0 0,.slice none 0 0,.slice none 0 0,.slice none 0 0] 47 (0,0))::ss):=by rw [←hy1];exact HR.out.upd0 ((Upd.refl _ _).drewN _)
    clear hy1 HR b0 x0 z0 x1 z1 x2 z2 x3 z3 x4 z4 x5 z5 x6 z6 x7 z7 x8 z8 x9 z9;have b0:=HR1.blkAt 0 rfl;obtain ⟨x0,x1,x2,x3,x4,x5,x6,x7,x8,x9,z0,z1,z2,z3,z4,z5,z6,z7,z8,z9⟩:=zbe b0;have HR2:=zq (zdn (v0:= .int .i64 0) (v1:= .int .i64 0) (v2:= .int .i64 0) (v3:= .int .i64 0) (v4:= .int .i64 0) (v5:= .int .i64 0) (v6:= .slice none 0 0) (v7:= .slice none 0 0) (v8:= .slice none 0 0) (v9:= .slice none 0 0) (HR1));clear b0
    go_wp2_with fail
    generalize World.setCell _ _ _=y2 at*;obtain ⟨f0,f1,f2,f3,f4,f5,f6,f7,f8,f9,-⟩:=zbe (HR2.out.blkAt 0 rfl);exact bodyPost_ret (v:= .tuple #[.agg #[.int .i64 0,.int .i64 0,.int .i64 0,.int .i64 0,.int .i64 0,.int .i64 0,.slice none 0 0,.slice none 0 0,.slice none 0 0,.slice none 0 0],.int .i64 0,.int .i64 2]) (by simp [results,Tryz.results27,go_sem,f0,f1,f2,f3,f4,f5,f6,f7,f8,f9]) rfl (by rw [HO.out];exact ⟨rfl,HR2.out.drop⟩)
   | some ms=>
    obtain ⟨mm,he,rfl,ho⟩:=hq;have HMO:=zq (HOK.out _ rfl);have hfr:=(mm_at ho HMO.out).form;obtain ⟨k,fm,vw,it,sq,rs,vb,l6,vv,l7,vc,l8,vp,l9⟩:=mm;obtain ⟨⟨a6,c6,e6⟩,⟨a7,c7,e7⟩,⟨a8,c8,e8⟩,⟨a9,c9,e9⟩⟩:=hfr;simp only at e6 e7 e8 e9;subst e6 e7 e8 e9;have he:e= .returned (.tuple #[.agg #[.int .i64 k,.int .i64 fm,.int .i64 vw,.int .i64 it,.int .i64 sq,.int .i64 rs,.slice a6 l6.length c6,.slice a7 l7.length c7,.slice a8 l8.length c8,.slice a9 l9.length c9],.bool true]):=he;subst he;have ho2:=ho.front 6 rfl rfl;clear ho;have b0:=ho2.blkAt 0 rfl;obtain ⟨x0,x1,x2,x3,x4,x5,x6,x7,x8,x9,z0,z1,z2,z3,z4,z5,z6,z7,z8,z9⟩:=zbe b0;have H3:=zq (zdn (v0:= .int .i64 k) (v1:= .int .i64 fm) (v2:= .int .i64 vw) (v3:= .int .i64 it) (v4:= .int .i64 sq) (v5:= .int .i64 rs) (v6:= .slice a6 l6.length c6) (v7:= .slice a7 l7.length c7) (v8:= .slice a8 l8.length c8) (v9:= .slice a9 l9.length c9) (ho2));clear ho2 b0
    go_wp2_with fail
    generalize World.setCell _ _ _=y at*;clear x0 z0 x1 z1 x2 z2 x3 z3 x4 z4 x5 z5 x6 z6 x7 z7 x8 z8 x9 z9;have hfb:=HMO.out.f0;have hfc:=HMO.out.f1;simp only [Mm.ms] at hfb hfc;have HFO:=zq (zru f cl _ y.drew hf1 hf2 hc1 hc2 (by show (-9223372036854775000:Int)≤fm;omega) (by show fm≤(9223372036854775000:Int);omega) (mm_at (ss:=ss) H3.out.drew.drop HMO.out));generalize formP f cl _=r at*;have b0:=H3.out.blkAt 0 rfl;obtain ⟨x0,x1,x2,x3,x4,x5,x6,x7,x8,x9,-⟩:=zbe b0
    go_upto_region 7 with fail
    refine Held.wp_held2 [(W.heap.size,0,[.int .i64 k,.int .i64 fm,.int .i64 vw,.int .i64 it,.int .i64 sq,.int .i64 rs,.slice a6 l6.length c6,.slice a7 l7.length c7,.slice a8 l8.length c8,.slice a9 l9.length c9]),(W.heap.size,1,[.int .i64 fm])] [(3,0),(12,1)] [17] [(7,true),(11,false)] (by kernel_rfl) (by kernel_rfl) ⟨⟨x0,x1,x2,x3,x4,x5,x6,x7,x8,x9,trivial⟩,⟨x1,trivial⟩,trivial⟩ ?_;simp only [Held.cutAt,Held.walk,List.take_succ_cons,List.take_zero,List.drop_succ_cons,List.drop_zero]
    go_wp2_with fail
    refine HFO.out.mono ?_;rintro e w3 ⟨rfl,hu⟩;have H4:=zq (H3.out.drew.upd0 hu);clear hu HFO b0 x0 x1 x2 x3 x4 x5 x6 x7 x8 x9;have b0:=H4.out.blkAt 0 rfl;obtain ⟨x0,x1,x2,x3,x4,x5,x6,x7,x8,x9,-⟩:=zbe b0
    go_wp2_with fail
    refine ⟨⟨⟨x0,x1,x2,x3,x4,x5,x6,x7,x8,x9,trivial⟩,⟨x1,trivial⟩,trivial⟩,?_⟩;cases r with
    | false=>
     simp only [Bool.false_and,Bool.false_eq_true,if_false] at HO
     go_wp2_with fail
     refine ⟨trivial,?_⟩
     go_wp2_with fail
     refine ⟨trivial,by rfl,⟨.inr ⟨⟨rfl,.inr ⟨by kernel_rfl,by kernel_rfl⟩⟩,trivial⟩,.inl ⟨rfl,rfl⟩,trivial⟩,?_⟩;clear b0 x0 x1 x2 x3 x4 x5 x6 x7 x8 x9;have b0:=H4.out.blkAt 0 rfl;obtain ⟨x0,x1,x2,x3,x4,x5,x6,x7,x8,x9,z0,z1,z2,z3,z4,z5,z6,z7,z8,z9⟩:=zbe b0;have HR:=zq (zdn (v0:= .int .i64 0) (v1:= .int .i64 0) (v2:= .int .i64 0) (v3:= .int .i64 0) (v4:= .int .i64 0) (v5:= .int .i64 0) (v6:= .slice none 0 0) (v7:= .slice none 0 0) (v8:= .slice none 0 0) (v9:= .slice none 0 0) (H4.out))
     go_wp2_with fail
     generalize World.setCell _ _ _=y2 at*;obtain ⟨f0,f1,f2,f3,f4,f5,f6,f7,f8,f9,-⟩:=zbe (HR.out.blkAt 0 rfl);exact bodyPost_ret (v:= .tuple #[.agg #[.int .i64 0,.int .i64 0,.int .i64 0,.int .i64 0,.int .i64 0,.int .i64 0,.slice none 0 0,.slice none 0 0,.slice none 0 0,.slice none 0 0],.int .i64 0,.int .i64 2]) (by simp [results,Tryz.results27,go_sem,f0,f1,f2,f3,f4,f5,f6,f7,f8,f9]) rfl (by rw [HO.out];exact ⟨rfl,HR.out.drop.drop.drop.drop.drop.drop.drop⟩)
    | true=>
     simp only [Bool.true_and] at HO;have hsk:SOk (fm,bs.drop cap):=⟨by show _≤fm;omega,by show fm≤_;omega,HDL.out,HDN.out⟩;have HCK:=zq (zi3 (sl:=(v:Int)) (nt_in H4.out hn (by simp+contextual)) hl0 hsk (HBY.out _ _ H4.out (by simp+contextual)));rw [show (Mm.ms ⟨k,fm,vw,it,sq,rs,.slice a6 l6.length c6,l6,.slice a7 l7.length c7,l7,.slice a8 l8.length c8,l8,.slice a9 l9.length c9,l9⟩).fm=fm from rfl] at HO;generalize (decide ((fm,bs.drop cap)∈l)&&(findN l fm (bs.drop cap)==(v:Int)))=q at*
     go_wp2_with fail
     refine HCK.out.mono ?_;rintro e w4 ⟨rfl,hu⟩;have H5:=zq (H4.out.upd0 hu);clear hu HCK;cases q with
     | false=>
      simp only [Bool.false_eq_true,if_false] at HO
      go_wp2_with fail
      refine ⟨trivial,?_⟩
      go_wp2_with fail
      refine ⟨trivial,by rfl,⟨.inr ⟨⟨rfl,.inr ⟨by kernel_rfl,by kernel_rfl⟩⟩,trivial⟩,.inr ⟨⟨rfl,.inl ⟨by kernel_rfl,rfl⟩⟩,trivial⟩,trivial⟩,?_⟩;clear b0 x0 x1 x2 x3 x4 x5 x6 x7 x8 x9;have b0:=H5.out.blkAt 0 rfl;obtain ⟨x0,x1,x2,x3,x4,x5,x6,x7,x8,x9,z0,z1,z2,z3,z4,z5,z6,z7,z8,z9⟩:=zbe b0;have HR:=zq (zdn (v0:= .int .i64 0) (v1:= .int .i64 0) (v2:= .int .i64 0) (v3:= .int .i64 0) (v4:= .int .i64 0) (v5:= .int .i64 0) (v6:= .slice none 0 0) (v7:= .slice none 0 0) (v8:= .slice none 0 0) (v9:= .slice none 0 0) (H5.out))
      go_wp2_with fail
      generalize World.setCell _ _ _=y2 at*;obtain ⟨f0,f1,f2,f3,f4,f5,f6,f7,f8,f9,-⟩:=zbe (HR.out.blkAt 0 rfl);exact bodyPost_ret (v:= .tuple #[.agg #[.int .i64 0,.int .i64 0,.int .i64 0,.int .i64 0,.int .i64 0,.int .i64 0,.slice none 0 0,.slice none 0 0,.slice none 0 0,.slice none 0 0],.int .i64 0,.int .i64 2]) (by simp [results,Tryz.results27,go_sem,f0,f1,f2,f3,f4,f5,f6,f7,f8,f9]) rfl (by rw [HO.out];exact ⟨rfl,HR.out.drop.drop.drop.drop.drop.drop.drop⟩)
     | true=>
      simp only [if_true] at HO
      go_wp2_with fail
      refine ⟨trivial,?_⟩
      go_wp2_with fail
      refine ⟨trivial,by rfl,⟨.inr ⟨⟨rfl,.inr ⟨by kernel_rfl,by kernel_rfl⟩⟩,trivial⟩,.inr ⟨⟨rfl,.inl ⟨by kernel_rfl,rfl⟩⟩,trivial⟩,trivial⟩,?_⟩;clear b0 x0 x1 x2 x3 x4 x5 x6 x7 x8 x9;have b0:=H5.out.blkAt 0 rfl;obtain ⟨x0,x1,x2,x3,x4,x5,x6,x7,x8,x9,z0,z1,z2,z3,z4,z5,z6,z7,z8,z9⟩:=zbe b0;have HR:=zq (zdn (v0:= .int .i64 k) (v1:= .int .i64 fm) (v2:= .int .i64 vw) (v3:= .int .i64 it) (v4:= .int .i64 sq) (v5:= .int .i64 rs) (v6:= .slice a6 l6.length c6) (v7:= .slice a7 l7.length c7) (v8:= .slice a8 l8.length c8) (v9:= .slice a9 l9.length c9) (H5.out))
      go_wp2_with fail
      generalize World.setCell _ _ _=y2 at*;obtain ⟨f0,f1,f2,f3,f4,f5,f6,f7,f8,f9,-⟩:=zbe (HR.out.blkAt 0 rfl);exact bodyPost_ret (v:= .tuple #[.agg #[.int .i64 k,.int .i64 fm,.int .i64 vw,.int .i64 it,.int .i64 sq,.int .i64 rs,.slice a6 l6.length c6,.slice a7 l7.length c7,.slice a8 l8.length c8,.slice a9 l9.length c9],.int .i64 v,.int .i64 0]) (by simp [results,Tryz.results27,go_sem,f0,f1,f2,f3,f4,f5,f6,f7,f8,f9]) rfl (by rw [HO.out];exact ⟨_,rfl,rfl,HMO.out,HR.out.drop⟩)
  ·
   have HBY:Hid (∀w rs,Own B w0 w rs→(∀r∈ss,r∈rs)→Byt w (.slice (ao.map fun x=>x.add a) (bs.length-a) (cap-a)) (bs.drop a)):=zq (fun w rs ho hs=>bytd (HB.out.b ho hs) (by omega));have hfm:=zb1 (HBY.out _ _ H0.out (by simp+contextual));have HPA:=zq (zoh H0.out ⟨fun ho hs=>HBY.out _ _ ho (fun r hr=>hs r (by simp [hr])),hfm,by rw [List.length_drop];omega⟩);have HOK:Hid (∀m,ze0 (bs.drop a)=some m→MsOk m):=zq (fun m h=>zta h);have HDL:Hid (∀c∈bs.drop a,c<256):=zq ((HBY.out _ _ H0.out (by simp+contextual)).2);have HDN:Hid ((bs.drop a).length≤100000):=zq (by rw [List.length_drop];omega);clear hfm;generalize ze0 (bs.drop a)=po at*
   go_wp2_with fail
   refine HPA.out.mono ?_;intro e w2 hq;clear HPA;clear b0 x0 z0 x1 z1 x2 z2 x3 z3 x4 z4 x5 z5 x6 z6 x7 z7 x8 z8 x9 z9;cases po with
   | none=>
    simp only at HO;obtain ⟨he,ho⟩:=hq;have he:e= .returned (.tuple #[.agg #[.int .i64 0,.int .i64 0,.int .i64 0,.int .i64 0,.int .i64 0,.int .i64 0,.slice none 0 0,.slice none 0 0,.slice none 0 0,.slice none 0 0],.bool false]):=he;subst he;have b0:=ho.blkAt 0 rfl;obtain ⟨x0,x1,x2,x3,x4,x5,x6,x7,x8,x9,z0,z1,z2,z3,z4,z5,z6,z7,z8,z9⟩:=zbe b0;have HR:=zq (zdn (v0:= .int .i64 0) (v1:= .int .i64 0) (v2:= .int .i64 0) (v3:= .int .i64 0) (v4:= .int .i64 0) (v5:= .int .i64 0) (v6:= .slice none 0 0) (v7:= .slice none 0 0) (v8:= .slice none 0 0) (v9:= .slice none 0 0) (ho));clear ho b0
    go_wp2_with fail
    generalize World.setCell _ _ _=y at*;clear x0 z0 x1 z1 x2 z2 x3 z3 x4 z4 x5 z5 x6 z6 x7 z7 x8 z8 x9 z9;have b0:=HR.out.blkAt 0 rfl;obtain ⟨x0,x1,x2,x3,x4,x5,x6,x7,x8,x9,z0,z1,z2,z3,z4,z5,z6,z7,z8,z9⟩:=zbe b0
    go_quiet (fail)
    generalize hy1:World.drewN y _=y1;have HR1:Own B w0 y1 (blk W.heap.size (.cells #[.int .i64 0,.int .i64 0,.int .i64 0,.int .i64 0,.int .i64 0,.int .i64 0,.slice none 0 0,.slice none 0 0,.slice none 0 0,.slice none 0 0] 47 (0,0))::ss):=by rw [←hy1];exact HR.out.upd0 ((Upd.refl _ _).drewN _)
    clear hy1 HR b0 x0 z0 x1 z1 x2 z2 x3 z3 x4 z4 x5 z5 x6 z6 x7 z7 x8 z8 x9 z9;have b0:=HR1.blkAt 0 rfl;obtain ⟨x0,x1,x2,x3,x4,x5,x6,x7,x8,x9,z0,z1,z2,z3,z4,z5,z6,z7,z8,z9⟩:=zbe b0;have HR2:=zq (zdn (v0:= .int .i64 0) (v1:= .int .i64 0) (v2:= .int .i64 0) (v3:= .int .i64 0) (v4:= .int .i64 0) (v5:= .int .i64 0) (v6:= .slice none 0 0) (v7:= .slice none 0 0) (v8:= .slice none 0 0) (v9:= .slice none 0 0) (HR1));clear b0
    go_wp2_with fail
    generalize World.setCell _ _ _=y2 at*;obtain ⟨f0,f1,f2,f3,f4,f5,f6,f7,f8,f9,-⟩:=zbe (HR2.out.blkAt 0 rfl);exact bodyPost_ret (v:= .tuple #[.agg #[.int .i64 0,.int .i64 0,.int .i64 0,.int .i64 0,.int .i64 0,.int .i64 0,.slice none 0 0,.slice none 0 0,.slice none 0 0,.slice none 0 0],.int .i64 0,.int .i64 2]) (by simp [results,Tryz.results27,go_sem,f0,f1,f2,f3,f4,f5,f6,f7,f8,f9]) rfl (by rw [HO.out];exact ⟨rfl,HR2.out.drop⟩)
   | some ms=>
    obtain ⟨mm,he,rfl,ho⟩:=hq;have HMO:=zq (HOK.out _ rfl);have hfr:=(mm_at ho HMO.out).form;obtain ⟨k,fm,vw,it,sq,rs,vb,l6,vv,l7,vc,l8,vp,l9⟩:=mm;obtain ⟨⟨a6,c6,e6⟩,⟨a7,c7,e7⟩,⟨a8,c8,e8⟩,⟨a9,c9,e9⟩⟩:=hfr;simp only at e6 e7 e8 e9;subst e6 e7 e8 e9;have he:e= .returned (.tuple #[.agg #[.int .i64 k,.int .i64 fm,.int .i64 vw,.int .i64 it,.int .i64 sq,.int .i64 rs,.slice a6 l6.length c6,.slice a7 l7.length c7,.slice a8 l8.length c8,.slice a9 l9.length c9],.bool true]):=he;subst he;have ho2:=ho.front 6 rfl rfl;clear ho;have b0:=ho2.blkAt 0 rfl;obtain ⟨x0,x1,x2,x3,x4,x5,x6,x7,x8,x9,z0,z1,z2,z3,z4,z5,z6,z7,z8,z9⟩:=zbe b0;have H3:=zq (zdn (v0:= .int .i64 k) (v1:= .int .i64 fm) (v2:= .int .i64 vw) (v3:= .int .i64 it) (v4:= .int .i64 sq) (v5:= .int .i64 rs) (v6:= .slice a6 l6.length c6) (v7:= .slice a7 l7.length c7) (v8:= .slice a8 l8.length c8) (v9:= .slice a9 l9.length c9) (ho2));clear ho2 b0
    go_wp2_with fail
    generalize World.setCell _ _ _=y at*;clear x0 z0 x1 z1 x2 z2 x3 z3 x4 z4 x5 z5 x6 z6 x7 z7 x8 z8 x9 z9;have hfb:=HMO.out.f0;have hfc:=HMO.out.f1;simp only [Mm.ms] at hfb hfc;have HFO:=zq (zru f cl _ y.drew hf1 hf2 hc1 hc2 (by show (-9223372036854775000:Int)≤fm;omega) (by show fm≤(9223372036854775000:Int);omega) (mm_at (ss:=ss) H3.out.drew.drop HMO.out));generalize formP f cl _=r at*;have b0:=H3.out.blkAt 0 rfl;obtain ⟨x0,x1,x2,x3,x4,x5,x6,x7,x8,x9,-⟩:=zbe b0
    go_upto_region 7 with fail
    refine Held.wp_held2 [(W.heap.size,0,[.int .i64 k,.int .i64 fm,.int .i64 vw,.int .i64 it,.int .i64 sq,.int .i64 rs,.slice a6 l6.length c6,.slice a7 l7.length c7,.slice a8 l8.length c8,.slice a9 l9.length c9]),(W.heap.size,1,[.int .i64 fm])] [(3,0),(12,1)] [17] [(7,true),(11,false)] (by kernel_rfl) (by kernel_rfl) ⟨⟨x0,x1,x2,x3,x4,x5,x6,x7,x8,x9,trivial⟩,⟨x1,trivial⟩,trivial⟩ ?_;simp only [Held.cutAt,Held.walk,List.take_succ_cons,List.take_zero,List.drop_succ_cons,List.drop_zero]
    go_wp2_with fail
    refine HFO.out.mono ?_;rintro e w3 ⟨rfl,hu⟩;have H4:=zq (H3.out.drew.upd0 hu);clear hu HFO b0 x0 x1 x2 x3 x4 x5 x6 x7 x8 x9;have b0:=H4.out.blkAt 0 rfl;obtain ⟨x0,x1,x2,x3,x4,x5,x6,x7,x8,x9,-⟩:=zbe b0
    go_wp2_with fail
    refine ⟨⟨⟨x0,x1,x2,x3,x4,x5,x6,x7,x8,x9,trivial⟩,⟨x1,trivial⟩,trivial⟩,?_⟩;cases r with
    | false=>
     simp only [Bool.false_and,Bool.false_eq_true,if_false] at HO
     go_wp2_with fail
     refine ⟨trivial,?_⟩
     go_wp2_with fail
     refine ⟨trivial,by rfl,⟨.inr ⟨⟨rfl,.inr ⟨by kernel_rfl,by kernel_rfl⟩⟩,trivial⟩,.inl ⟨rfl,rfl⟩,trivial⟩,?_⟩;clear b0 x0 x1 x2 x3 x4 x5 x6 x7 x8 x9;have b0:=H4.out.blkAt 0 rfl;obtain ⟨x0,x1,x2,x3,x4,x5,x6,x7,x8,x9,z0,z1,z2,z3,z4,z5,z6,z7,z8,z9⟩:=zbe b0;have HR:=zq (zdn (v0:= .int .i64 0) (v1:= .int .i64 0) (v2:= .int .i64 0) (v3:= .int .i64 0) (v4:= .int .i64 0) (v5:= .int .i64 0) (v6:= .slice none 0 0) (v7:= .slice none 0 0) (v8:= .slice none 0 0) (v9:= .slice none 0 0) (H4.out))
     go_wp2_with fail
     generalize World.setCell _ _ _=y2 at*;obtain ⟨f0,f1,f2,f3,f4,f5,f6,f7,f8,f9,-⟩:=zbe (HR.out.blkAt 0 rfl);exact bodyPost_ret (v:= .tuple #[.agg #[.int .i64 0,.int .i64 0,.int .i64 0,.int .i64 0,.int .i64 0,.int .i64 0,.slice none 0 0,.slice none 0 0,.slice none 0 0,.slice none 0 0],.int .i64 0,.int .i64 2]) (by simp [results,Tryz.results27,go_sem,f0,f1,f2,f3,f4,f5,f6,f7,f8,f9]) rfl (by rw [HO.out];exact ⟨rfl,HR.out.drop.drop.drop.drop.drop.drop.drop⟩)
    | true=>
     simp only [Bool.true_and] at HO;have hsk:SOk (fm,bs.drop a):=⟨by show _≤fm;omega,by show fm≤_;omega,HDL.out,HDN.out⟩;have HCK:=zq (zi3 (sl:=(v:Int)) (nt_in H4.out hn (by simp+contextual)) hl0 hsk (HBY.out _ _ H4.out (by simp+contextual)));rw [show (Mm.ms ⟨k,fm,vw,it,sq,rs,.slice a6 l6.length c6,l6,.slice a7 l7.length c7,l7,.slice a8 l8.length c8,l8,.slice a9 l9.length c9,l9⟩).fm=fm from rfl] at HO;generalize (decide ((fm,bs.drop a)∈l)&&(findN l fm (bs.drop a)==(v:Int)))=q at*
     go_wp2_with fail
     refine HCK.out.mono ?_;rintro e w4 ⟨rfl,hu⟩;have H5:=zq (H4.out.upd0 hu);clear hu HCK;cases q with
     | false=>
      simp only [Bool.false_eq_true,if_false] at HO
      go_wp2_with fail
      refine ⟨trivial,?_⟩
      go_wp2_with fail
      refine ⟨trivial,by rfl,⟨.inr ⟨⟨rfl,.inr ⟨by kernel_rfl,by kernel_rfl⟩⟩,trivial⟩,.inr ⟨⟨rfl,.inl ⟨by kernel_rfl,rfl⟩⟩,trivial⟩,trivial⟩,?_⟩;clear b0 x0 x1 x2 x3 x4 x5 x6 x7 x8 x9;have b0:=H5.out.blkAt 0 rfl;obtain ⟨x0,x1,x2,x3,x4,x5,x6,x7,x8,x9,z0,z1,z2,z3,z4,z5,z6,z7,z8,z9⟩:=zbe b0;have HR:=zq (zdn (v0:= .int .i64 0) (v1:= .int .i64 0) (v2:= .int .i64 0) (v3:= .int .i64 0) (v4:= .int .i64 0) (v5:= .int .i64 0) (v6:= .slice none 0 0) (v7:= .slice none 0 0) (v8:= .slice none 0 0) (v9:= .slice none 0 0) (H5.out))
      go_wp2_with fail
      generalize World.setCell _ _ _=y2 at*;obtain ⟨f0,f1,f2,f3,f4,f5,f6,f7,f8,f9,-⟩:=zbe (HR.out.blkAt 0 rfl);exact bodyPost_ret (v:= .tuple #[.agg #[.int .i64 0,.int .i64 0,.int .i64 0,.int .i64 0,.int .i64 0,.int .i64 0,.slice none 0 0,.slice none 0 0,.slice none 0 0,.slice none 0 0],.int .i64 0,.int .i64 2]) (by simp [results,Tryz.results27,go_sem,f0,f1,f2,f3,f4,f5,f6,f7,f8,f9]) rfl (by rw [HO.out];exact ⟨rfl,HR.out.drop.drop.drop.drop.drop.drop.drop⟩)
     | true=>
      simp only [if_true] at HO
      go_wp2_with fail
      refine ⟨trivial,?_⟩
      go_wp2_with fail
      refine ⟨trivial,by rfl,⟨.inr ⟨⟨rfl,.inr ⟨by kernel_rfl,by kernel_rfl⟩⟩,trivial⟩,.inr ⟨⟨rfl,.inl ⟨by kernel_rfl,rfl⟩⟩,trivial⟩,trivial⟩,?_⟩;clear b0 x0 x1 x2 x3 x4 x5 x6 x7 x8 x9;have b0:=H5.out.blkAt 0 rfl;obtain ⟨x0,x1,x2,x3,x4,x5,x6,x7,x8,x9,z0,z1,z2,z3,z4,z5,z6,z7,z8,z9⟩:=zbe b0;have HR:=zq (zdn (v0:= .int .i64 k) (v1:= .int .i64 fm) (v2:= .int .i64 vw) (v3:= .int .i64 it) (v4:= .int .i64 sq) (v5:= .int .i64 rs) (v6:= .slice a6 l6.length c6) (v7:= .slice a7 l7.length c7) (v8:= .slice a8 l8.length c8) (v9:= .slice a9 l9.length c9) (H5.out))
      go_wp2_with fail
      generalize World.setCell _ _ _=y2 at*;obtain ⟨f0,f1,f2,f3,f4,f5,f6,f7,f8,f9,-⟩:=zbe (HR.out.blkAt 0 rfl);exact bodyPost_ret (v:= .tuple #[.agg #[.int .i64 k,.int .i64 fm,.int .i64 vw,.int .i64 it,.int .i64 sq,.int .i64 rs,.slice a6 l6.length c6,.slice a7 l7.length c7,.slice a8 l8.length c8,.slice a9 l9.length c9],.int .i64 v,.int .i64 0]) (by simp [results,Tryz.results27,go_sem,f0,f1,f2,f3,f4,f5,f6,f7,f8,f9]) rfl (by rw [HO.out];exact ⟨_,rfl,rfl,HMO.out,HR.out.drop⟩)
structure Vo where
 has:Bool
 view:Int
 sl:Int
def noVo:Vo:=⟨false,0,0⟩
def voC (x:Vo):List Value:=[.bool x.has,.int .i64 x.view,.int .i64 x.sl]
abbrev cvO (f:Nat) (g n cap:Nat):Obj:= .cells #[.int .i64 f,.slice (some ⟨g,0,none⟩) n cap] 247 (0,0)
abbrev cvR (g:Nat) (l:List Vo):Res:=segR g 320 (l.flatMap voC)
def voAt (l:List Vo) (k:Nat):Vo:=l.getD k noVo
def putB (l:List Vo) (node view:Int):Bool:=decide (0≤node)&&(decide (node<l.length)&&(decide (0≤view)&&(decide (view<12)&& !((voAt l node.toNat).has&&decide (view≤(voAt l node.toNat).view)))))
def putL (l:List Vo) (node view sl:Int):List Vo:=if putB l node view then l.set node.toNat ⟨true,view,sl⟩ else l
def eGo (view:Int) (q:Nat):List Vo→Nat→Vs→Vs
 | [],_,acc=>acc
 | x::l,i,acc=>eGo view q l (i+1) (if x.has&&(x.view==view)&&decide (acc.length<q) then acc++[((i:Int),x.sl)] else acc)
def zk8 (l:List Vo) (view:Int) (q:Nat):Vs:=eGo view q l 0 []
def dropV (below:Int) (x:Vo):Vo:=if x.has&&decide (x.view<below) then noVo else x
section
variable {B:Nat} {w0 w W W':World} {ss rs:List Res} {vt g cap f:Nat} {l:List Vo}
end
end Go.Proofs.YtannckelmojkoaaGreat
