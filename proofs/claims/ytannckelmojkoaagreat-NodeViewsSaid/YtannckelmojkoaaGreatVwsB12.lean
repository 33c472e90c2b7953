/- Parts of the proof, one behind the other. -/
import Derived.Test.YtannckelmojkoaaGreatVwsB11
set_option maxHeartbeats 32000000
set_option maxRecDepth 100000
set_option linter.unusedVariables false
set_option linter.unusedSimpArgs false
namespace Go.Proofs.YtannckelmojkoaaGreat
open Go.RowKit Go.Heap
theorem zdx {a b:Int} (h: ¬a=b):(a==b)=false:=by simpa using h
theorem zh2 {a b:Int} (h:a=b):(a==b)=true:=by simpa using h
theorem zok (r:Rq) (cl:Int) (w:World):Calls Tryz.prog 211 #[rqAgg r,.int .i64 cl] w fun e w'=>e= .returned (.bool (okReq r cl))∧Upd [] w w':=by
 unfold rqAgg;by_cases p0:r.client<0
 ·have d0:=decide_eq_true p0
  have hv:okReq r cl=false:=by
   unfold okReq inW zc5;rw [Bool.eq_iff_iff];simp only [Bool.or_eq_true,Bool.and_eq_true,decide_eq_true_eq,Bool.false_eq_true,iff_false,iff_true];omega
  rw [hv];obtain ⟨a1,a2,a3,a4,a5,a6⟩:=r;simp only at*;clear hv;go_enter Tryz.func211,Tryz.ntmps211
  go_wp2_with fail
  go_ret
  exact ⟨rfl,((Upd.refl _ _).alloc _)⟩
 ·have d0:=decide_eq_false p0
  by_cases p1:cl≤r.client
  ·have d1:=decide_eq_true p1
   have hv:okReq r cl=false:=by
    unfold okReq inW zc5;rw [Bool.eq_iff_iff];simp only [Bool.or_eq_true,Bool.and_eq_true,decide_eq_true_eq,Bool.false_eq_true,iff_false,iff_true];omega
   rw [hv];obtain ⟨a1,a2,a3,a4,a5,a6⟩:=r;simp only at*;clear hv;go_enter Tryz.func211,Tryz.ntmps211
   go_wp2_with fail
   go_ret
   exact ⟨rfl,((Upd.refl _ _).alloc _)⟩
  ·have d1:=decide_eq_false p1
   by_cases p2:r.time<1
   ·have d2:=decide_eq_true p2
    have hv:okReq r cl=false:=by
     unfold okReq inW zc5;rw [Bool.eq_iff_iff];simp only [Bool.or_eq_true,Bool.and_eq_true,decide_eq_true_eq,Bool.false_eq_true,iff_false,iff_true];omega
    rw [hv];obtain ⟨a1,a2,a3,a4,a5,a6⟩:=r;simp only at*;clear hv;go_enter Tryz.func211,Tryz.ntmps211
    go_wp2_with fail
    go_ret
    exact ⟨rfl,((Upd.refl _ _).alloc _)⟩
   ·have d2:=decide_eq_false p2
    by_cases p3:(1048576:Int)<r.time
    ·have d3:=decide_eq_true p3
     have hv:okReq r cl=false:=by
      unfold okReq inW zc5;rw [Bool.eq_iff_iff];simp only [Bool.or_eq_true,Bool.and_eq_true,decide_eq_true_eq,Bool.false_eq_true,iff_false,iff_true];omega
     rw [hv];obtain ⟨a1,a2,a3,a4,a5,a6⟩:=r;simp only at*;clear hv;go_enter Tryz.func211,Tryz.ntmps211
     go_wp2_with fail
     go_ret
     exact ⟨rfl,((Upd.refl _ _).alloc _)⟩
    ·have d3:=decide_eq_false p3
     by_cases p4:r.sl<0
     ·have d4:=decide_eq_true p4
      have hv:okReq r cl=false:=by
       unfold okReq inW zc5;rw [Bool.eq_iff_iff];simp only [Bool.or_eq_true,Bool.and_eq_true,decide_eq_true_eq,Bool.false_eq_true,iff_false,iff_true];omega
      rw [hv];obtain ⟨a1,a2,a3,a4,a5,a6⟩:=r;simp only at*;clear hv;go_enter Tryz.func211,Tryz.ntmps211
      go_wp2_with fail
      go_ret
      exact ⟨rfl,((Upd.refl _ _).alloc _)⟩
     ·have d4:=decide_eq_false p4
      by_cases p5:(1099511627776:Int)≤r.sl
      ·have d5:=decide_eq_true p5
       have hv:okReq r cl=false:=by
        unfold okReq inW zc5;rw [Bool.eq_iff_iff];simp only [Bool.or_eq_true,Bool.and_eq_true,decide_eq_true_eq,Bool.false_eq_true,iff_false,iff_true];omega
       rw [hv];obtain ⟨a1,a2,a3,a4,a5,a6⟩:=r;simp only at*;clear hv;go_enter Tryz.func211,Tryz.ntmps211
       go_wp2_with fail
       go_ret
       exact ⟨rfl,((Upd.refl _ _).alloc _)⟩
      ·have d5:=decide_eq_false p5
       by_cases p6:r.key<0
       ·have d6:=decide_eq_true p6
        have hv:okReq r cl=false:=by
         unfold okReq inW zc5;rw [Bool.eq_iff_iff];simp only [Bool.or_eq_true,Bool.and_eq_true,decide_eq_true_eq,Bool.false_eq_true,iff_false,iff_true];omega
        rw [hv];obtain ⟨a1,a2,a3,a4,a5,a6⟩:=r;simp only at*;clear hv;go_enter Tryz.func211,Tryz.ntmps211
        go_wp2_with fail
        go_ret
        exact ⟨rfl,(((Upd.refl _ _).alloc _).alloc _)⟩
       ·have d6:=decide_eq_false p6
        by_cases p7:(64:Int)≤r.key
        ·have d7:=decide_eq_true p7
         have hv:okReq r cl=false:=by
          unfold okReq inW zc5;rw [Bool.eq_iff_iff];simp only [Bool.or_eq_true,Bool.and_eq_true,decide_eq_true_eq,Bool.false_eq_true,iff_false,iff_true];omega
         rw [hv];obtain ⟨a1,a2,a3,a4,a5,a6⟩:=r;simp only at*;clear hv;go_enter Tryz.func211,Tryz.ntmps211
         go_wp2_with fail
         go_ret
         exact ⟨rfl,(((Upd.refl _ _).alloc _).alloc _)⟩
        ·have d7:=decide_eq_false p7
         by_cases p8:r.val≤ -2147483648
         ·have d8:=decide_eq_true p8
          have hv:okReq r cl=false:=by
           unfold okReq inW zc5;rw [Bool.eq_iff_iff];simp only [Bool.or_eq_true,Bool.and_eq_true,decide_eq_true_eq,Bool.false_eq_true,iff_false,iff_true];omega
          rw [hv];obtain ⟨a1,a2,a3,a4,a5,a6⟩:=r;simp only at*;clear hv;go_enter Tryz.func211,Tryz.ntmps211
          go_wp2_with fail
          go_ret
          exact ⟨rfl,(((Upd.refl _ _).alloc _).alloc _)⟩
         ·have d8:=decide_eq_false p8
          by_cases p9:(2147483648:Int)≤r.val
          ·have d9:=decide_eq_true p9
           have hv:okReq r cl=false:=by
            unfold okReq inW zc5;rw [Bool.eq_iff_iff];simp only [Bool.or_eq_true,Bool.and_eq_true,decide_eq_true_eq,Bool.false_eq_true,iff_false,iff_true];omega
           rw [hv];obtain ⟨a1,a2,a3,a4,a5,a6⟩:=r;simp only at*;clear hv;go_enter Tryz.func211,Tryz.ntmps211
           go_wp2_with fail
           go_ret
           exact ⟨rfl,(((Upd.refl _ _).alloc _).alloc _)⟩
          ·have d9:=decide_eq_false p9
           by_cases k1:r.kind=1
           ·have e1:=zh2 k1
            have hv:okReq r cl=true:=by
             unfold okReq inW zc5;rw [Bool.eq_iff_iff];simp only [Bool.or_eq_true,Bool.and_eq_true,decide_eq_true_eq,Bool.false_eq_true,iff_false,iff_true];omega
            rw [hv];obtain ⟨a1,a2,a3,a4,a5,a6⟩:=r;simp only at*;clear hv;go_enter Tryz.func211,Tryz.ntmps211
            go_wp2_with fail
            go_ret
            exact ⟨rfl,(((Upd.refl _ _).alloc _).alloc _)⟩
           have e1:=zdx k1;by_cases k3:r.kind=3
           ·have e3:=zh2 k3
            have hv:okReq r cl=true:=by
             unfold okReq inW zc5;rw [Bool.eq_iff_iff];simp only [Bool.or_eq_true,Bool.and_eq_true,decide_eq_true_eq,Bool.false_eq_true,iff_false,iff_true];omega
            rw [hv];obtain ⟨a1,a2,a3,a4,a5,a6⟩:=r;simp only at*;clear hv;go_enter Tryz.func211,Tryz.ntmps211
            go_wp2_with fail
            go_ret
            exact ⟨rfl,(((Upd.refl _ _).alloc _).alloc _)⟩
           have e3:=zdx k3;by_cases k2:r.kind=2
           ·have e2:=zh2 k2
            by_cases z:r.val=0
            ·have ez:=zh2 z
             have hv:okReq r cl=true:=by
              unfold okReq inW zc5;rw [Bool.eq_iff_iff];simp only [Bool.or_eq_true,Bool.and_eq_true,decide_eq_true_eq,Bool.false_eq_true,iff_false,iff_true];omega
             rw [hv];obtain ⟨a1,a2,a3,a4,a5,a6⟩:=r;simp only at*;clear hv;go_enter Tryz.func211,Tryz.ntmps211
             go_wp2_with fail
             go_ret
             exact ⟨rfl,(((Upd.refl _ _).alloc _).alloc _)⟩
            ·have ez:=zdx z
             have hv:okReq r cl=false:=by
              unfold okReq inW zc5;rw [Bool.eq_iff_iff];simp only [Bool.or_eq_true,Bool.and_eq_true,decide_eq_true_eq,Bool.false_eq_true,iff_false,iff_true];omega
             rw [hv];obtain ⟨a1,a2,a3,a4,a5,a6⟩:=r;simp only at*;clear hv;go_enter Tryz.func211,Tryz.ntmps211
             go_wp2_with fail
             go_ret
             exact ⟨rfl,(((Upd.refl _ _).alloc _).alloc _)⟩
           have e2:=zdx k2;by_cases k4:r.kind=4
           ·have e4:=zh2 k4
            by_cases z:r.val=0
            ·have ez:=zh2 z
             have hv:okReq r cl=true:=by
              unfold okReq inW zc5;rw [Bool.eq_iff_iff];simp only [Bool.or_eq_true,Bool.and_eq_true,decide_eq_true_eq,Bool.false_eq_true,iff_false,iff_true];omega
             rw [hv];obtain ⟨a1,a2,a3,a4,a5,a6⟩:=r;simp only at*;clear hv;go_enter Tryz.func211,Tryz.ntmps211
             go_wp2_with fail
             go_ret
             exact ⟨rfl,(((Upd.refl _ _).alloc _).alloc _)⟩
            ·have ez:=zdx z
             have hv:okReq r cl=false:=by
              unfold okReq inW zc5;rw [Bool.eq_iff_iff];simp only [Bool.or_eq_true,Bool.and_eq_true,decide_eq_true_eq,Bool.false_eq_true,iff_false,iff_true];omega
             rw [hv];obtain ⟨a1,a2,a3,a4,a5,a6⟩:=r;simp only at*;clear hv;go_enter Tryz.func211,Tryz.ntmps211
             go_wp2_with fail
             go_ret
             exact ⟨rfl,(((Upd.refl _ _).alloc _).alloc _)⟩
           have e4:=zdx k4;by_cases k5:r.kind=5
           ·have e5:=zh2 k5
            by_cases y:r.key=0
            ·have ey:=zh2 y
             by_cases z:r.val=0
             ·have ez:=zh2 z
              have hv:okReq r cl=true:=by
               unfold okReq inW zc5;rw [Bool.eq_iff_iff];simp only [Bool.or_eq_true,Bool.and_eq_true,decide_eq_true_eq,Bool.false_eq_true,iff_false,iff_true];omega
              rw [hv];obtain ⟨a1,a2,a3,a4,a5,a6⟩:=r;simp only at*;clear hv;go_enter Tryz.func211,Tryz.ntmps211
              go_wp2_with fail
              go_ret
              exact ⟨rfl,(((Upd.refl _ _).alloc _).alloc _)⟩
             ·have ez:=zdx z
              have hv:okReq r cl=false:=by
               unfold okReq inW zc5;rw [Bool.eq_iff_iff];simp only [Bool.or_eq_true,Bool.and_eq_true,decide_eq_true_eq,Bool.false_eq_true,iff_false,iff_true];omega
              rw [hv];obtain ⟨a1,a2,a3,a4,a5,a6⟩:=r;simp only at*;clear hv;go_enter Tryz.func211,Tryz.ntmps211
              go_wp2_with fail
              go_ret
              exact ⟨rfl,(((Upd.refl _ _).alloc _).alloc _)⟩
            ·have ey:=zdx y
             have hv:okReq r cl=false:=by
              unfold okReq inW zc5;rw [Bool.eq_iff_iff];simp only [Bool.or_eq_true,Bool.and_eq_true,decide_eq_true_eq,Bool.false_eq_true,iff_false,iff_true];omega
             rw [hv];obtain ⟨a1,a2,a3,a4,a5,a6⟩:=r;simp only at*;clear hv;go_enter Tryz.func211,Tryz.ntmps211
             go_wp2_with fail
             go_ret
             exact ⟨rfl,(((Upd.refl _ _).alloc _).alloc _)⟩
           have e5:=zdx k5;have hv:okReq r cl=false:=by
            unfold okReq inW zc5;rw [Bool.eq_iff_iff];simp only [Bool.or_eq_true,Bool.and_eq_true,decide_eq_true_eq,Bool.false_eq_true,iff_false,iff_true];omega
           rw [hv];obtain ⟨a1,a2,a3,a4,a5,a6⟩:=r;simp only at*;clear hv;go_enter Tryz.func211,Tryz.ntmps211
           go_wp2_with fail
           go_ret
           exact ⟨rfl,(((Upd.refl _ _).alloc _).alloc _)⟩
theorem zb8 (xs:List Int) (b:Nat) (w:World) (hb:b<w.heap.size) (hn:xs.length≤100) (hc: ∀j,(h:j<xs.length)→w.cell? ⟨b,j,none⟩=some (.int .i64 xs[j])):
  Calls Tryz.prog 137 #[.slice (some ⟨b,0,none⟩) xs.length xs.length] w fun e w'=>e= .returned (.bool (zeros xs))∧Upd [] w w':=by
 have HC:=zq hc;clear hc;go_enter Tryz.func137,Tryz.ntmps137
 go_wp2_with fail
 go_loop [7] (fun i=> ∃k:Nat,k≤xs.length∧i= .int .i64 k∧Hid (∀j,(h:j<xs.length)→j<k→xs[j]=0)) (fun i=>xs.length-(intOf i).toNat)
 case atStart=>exact ⟨0,by omega,rfl,zq (by intro j _ hj;omega)⟩
 case round=>
  obtain ⟨k,hk,rfl,HN⟩:=hrel;by_cases hlt:k<xs.length
  ·have hkI:(k:Int)<(xs.length:Int):=by omega
   have q0:=HC.out k hlt;by_cases he:xs[k]=0
   ·have hne:(xs[k] !=0)=false:=by simpa using he
    go_wp2_with fail
    go_round
    case rel=>
     refine ⟨k+1,by omega,by go_num,zq (fun j hj hjk=> ?_)⟩;by_cases e:j=k
     ·subst e;exact he
     ·exact HN.out j hj (by omega)
    case measure=>simp [intOf];omega
   ·have hne:(xs[k] !=0)=true:=by simpa using he
    go_wp2_with fail
    go_ret
    refine ⟨zae ?_,Upd.refl _ _⟩;symm;unfold zeros;rw [List.all_eq_false];exact ⟨xs[k],List.getElem_mem hlt,by simpa using he⟩
  ·have hkI:decide ((k:Int)<(xs.length:Int))=false:=by simp;omega
   go_wp2_with fail
   go_ret
   refine ⟨zae ?_,Upd.refl _ _⟩;symm;unfold zeros;rw [List.all_eq_true];intro x hx;obtain ⟨j,hj,rfl⟩:=List.getElem_of_mem hx
   simpa using HN.out j hj (by omega)
abbrev lkO (f:Nat) (cl:Int):Obj:= .cells #[.int .i64 f,.int .i64 cl] 225 (0,0)
theorem zah {w:World} {b f:Nat} {cl:Int} (h:w.heap[b]?=some (lkO f cl)):w.cell? ⟨b,0,none⟩=some (.int .i64 f)∧w.cell? ⟨b,1,none⟩=some (.int .i64 cl):=⟨by rw [zac h];rfl,by rw [zac h];rfl⟩
theorem zjp {l:List Rq} {k:Nat} (h:k<l.length):reqAt l k=l[k]:=by unfold reqAt;simp [h]
theorem zfl {l:Vs} {k:Nat} (h:k<l.length):zc1 l k=l[k]:=by unfold zc1;simp [h]
theorem zda (f:Nat) (cl lo hi:Int) (v:Value) (l:List Rq) (w:World) (hn:l.length≤100000) (h:Bat w v l):
  Calls Tryz.prog 139 #[lkA f cl,v,.int .i64 lo,.int .i64 hi] w fun e w'=>e= .returned (.bool (zbm l lo hi cl))∧Upd [] w w':=by
 obtain ⟨ao,cap,rfl,h1,h2,h3,h4,h5⟩:=h;clear h1 h2 h3 h4;have H5:=zq h5;clear h5;have H0:=zq ((Own.start (Below.refl w.heap.size w) (Nat.le_refl _)).box (lkO f cl));go_enter Tryz.func139,Tryz.ntmps139
 go_wp2_with fail
 go_loopw [13] (fun i wr=> ∃k:Nat,k≤l.length∧i= .int .i64 k∧Hid (∀j,j<k→okReq (reqAt l j) cl=true)∧Hid (Own w.heap.size w wr [blk w.heap.size (lkO f cl)])) (fun i _=>l.length-(intOf i).toNat)
 case atStart=>exact ⟨0,by omega,rfl,zq (by intro j hj;omega),H0⟩
 case round=>
  clear H0;obtain ⟨k,hk,rfl,HN,H1⟩:=hrel;obtain ⟨z0,z1⟩:=zah H1.out.blk_out;by_cases hlt:k<l.length
  ·have hkI:(k:Int)<(l.length:Int):=by omega
   obtain ⟨b,o,rfl,hbs,hc⟩:=H5.out (by omega);obtain ⟨q0,q1,q2,q3,q4,q5⟩:=zb4 (zcm H1.out.below hbs hc) k l[k] (by simp);clear hc;have hz:=H1.out.below.size;have hlb:=block_lt H1.out.blk_out;have H2:=zq (H1.out.alloc (rqBox l[k]));have HV:=zq (fun w=>zok l[k] cl w);have hra:=zjp hlt;unfold rqAgg at HV
   go_wp2_with fail
   refine (HV.out _).mono ?_;rintro e w2 ⟨rfl,hu⟩;have H3:=zq (H2.out.upd0 hu);clear hu HV;cases hok:okReq l[k] cl with
   | true=>
    go_wp2_with fail
    go_roundw
    case rel=>
     refine ⟨k+1,by omega,by go_num,zq (fun j hj=> ?_),H3⟩;by_cases e:j=k
     ·subst e;rw [hra];exact hok
     ·exact HN.out j (by omega)
    case measure=>simp [intOf];omega
   | false=>
    go_wp2_with fail
    go_ret
    refine ⟨zae ?_,Upd.of_below H3.out.below⟩;symm;unfold zbm;rw [zar k hlt (by rw [hra];exact hok)];rfl
  ·have hkI:decide ((k:Int)<(l.length:Int))=false:=by simp;omega
   have hall:allR l.length (fun k=>okReq (reqAt l k) cl)=true:=zaw (fun j hj=>HN.out j (by omega));have HW:Hid (∀w,Calls Tryz.prog 143 #[.int .i64 l.length,.int .i64 lo,.int .i64 hi] w fun e w'=>e= .returned (.bool (zbm l lo hi cl))∧w=w'):=zq (fun w=>za1 (by unfold zbm;rw [hall];rfl) w);clear hall
   go_wp2_with fail
   refine (HW.out _).mono ?_;rintro e w2 ⟨rfl,rfl⟩
   go_wp2_with fail
   go_ret
   exact ⟨rfl,Upd.of_below H1.out.below⟩
abbrev vtO (p:Int×Int):Obj:= .cells #[.int .i64 p.1,.int .i64 p.2] 177 (0,0)
theorem zy7 {l:Vs} {k:Nat}:lastV l (k+1)=(zc1 l k).1:=rfl
theorem zhq (f:Nat) (v:Value) (l:Vs) (w:World) (hf1:1≤f) (hf2:f≤4) (hn:l.length≤100000) (h:Vts w v l):
  Calls Tryz.prog 251 #[v,.int .i64 f] w fun e w'=>e= .returned (.bool (zci l f))∧Upd [] w w':=by
 obtain ⟨ao,cap,rfl,h1,h2,h3,h4,h5⟩:=h;clear h1 h2 h3 h4;have H5:=zq h5;clear h5;have hM:=zq (fun w=>zkj (f:Int) w (by omega) (by omega));have hN:=zq (fun w=>za0 (f:Int) w (by omega) (by omega));have hQ:=zq (fun w=>zej (f:Int) w (by omega) (by omega));by_cases hl:l.length=2*f+1
 ·have hne:((l.length:Int) !=2*(f:Int)+1)=false:=by simp;omega
  go_enter Tryz.func251,Tryz.ntmps251
  go_wp2_with fail
  refine (hM.out _).mono ?_;rintro e w' ⟨rfl,rfl⟩
  go_wp2_with fail
  refine (hQ.out _).mono ?_;rintro e w' ⟨rfl,rfl⟩
  go_wp2_with fail
  go_loopw [5,20] (fun la i wr=> ∃k:Nat,k≤l.length∧la= .int .i64 (lastV l k)∧i= .int .i64 k∧Hid (∀j,j<k→(decide (lastV l j<(zc1 l j).1)&&decide ((zc1 l j).1<3*(f:Int)+1))=true)∧Hid (Below w.heap.size w wr)) (fun _ i _=>l.length-(intOf i).toNat)
  case atStart=>exact ⟨0,by omega,rfl,rfl,zq (by intro j hj;omega),zq (Below.refl _ _)⟩
  case round=>
   obtain ⟨k,hk,rfl,rfl,HN,HB⟩:=hrel;by_cases hlt:k<l.length
   ·have hkI:(k:Int)<(l.length:Int):=by omega
    obtain ⟨b,o,rfl,hbs,hc⟩:=H5.out (by omega);obtain ⟨q0,q1⟩:=zfm (zcm HB.out hbs hc) k l[k] (by simp);clear hc;have hz:=HB.out.size;have H2:=zq (HB.out.alloc hz (vtO l[k]));have hva:=zfl hlt;have hls:lastV l (k+1)=l[k].1:=by rw [zy7,hva]
    generalize hla:lastV l k=la at*;by_cases c1:l[k].1≤la
    ·have d1:decide (l[k].1≤la)=true:=by simpa using c1
     go_wp2_with fail
     go_quiet (fail)
     go_wp2_with fail
     go_ret
     refine ⟨zae ?_,Upd.of_below (below_drewN H2.out _)⟩;symm;unfold zci;rw [zar k hlt (by rw [hva,hla];simp;omega)];simp
    ·have d1:decide (l[k].1≤la)=false:=by simpa using c1
     by_cases c2:3*(f:Int)+1≤l[k].1
     ·have d2:decide (3*(f:Int)+1≤l[k].1)=true:=by simpa using c2
      go_wp2_with fail
      go_quiet ((go_at_call 80;exact zb7 (hN.out _)))
      go_wp2_with fail
      go_ret
      refine ⟨zae ?_,Upd.of_below (below_drewN H2.out _)⟩;symm;unfold zci;rw [zar k hlt (by rw [hva,hla];simp;omega)];simp
     ·have d2:decide (3*(f:Int)+1≤l[k].1)=false:=by simpa using c2
      go_wp2_with fail
      go_quiet ((go_at_call 80;exact zb7 (hN.out _)))
      go_wp2_with fail
      go_roundw
      case rel=>
       refine ⟨k+1,by omega,by rw [hls],by go_num,zq (fun j hj=> ?_),zq (below_drewN H2.out _)⟩;by_cases e:j=k
       ·subst e;rw [hva,hla];simp;omega
       ·exact HN.out j (by omega)
      case measure=>simp [intOf];omega
   ·have hkI:decide ((k:Int)<(l.length:Int))=false:=by simp;omega
    go_wp2_with fail
    go_ret
    refine ⟨zae ?_,Upd.of_below HB.out⟩;symm;unfold zci;rw [zaw (fun j hj=>HN.out j (by omega))];simp [hl]
 ·have hne:((l.length:Int) !=2*(f:Int)+1)=true:=by simp;omega
  go_enter Tryz.func251,Tryz.ntmps251
  go_wp2_with fail
  refine (hM.out _).mono ?_;rintro e w' ⟨rfl,rfl⟩
  go_wp2_with fail
  refine (hQ.out _).mono ?_;rintro e w' ⟨rfl,rfl⟩
  go_wp2_with fail
  go_ret
  refine ⟨zae ?_,Upd.refl _ _⟩;symm;unfold zci;simp [hl]
theorem zlg (f:Nat) (cl:Int) (v:Value) (l:Vs) (w:World) (hf1:1≤f) (hf2:f≤4) (hn:l.length≤100000) (h:Vts w v l):
  Calls Tryz.prog 212 #[lkA f cl,v] w fun e w'=>e= .returned (.bool (zd5 l f))∧Upd [] w w':=by
 have HVT:=zq h;obtain ⟨ao,cap,rfl,h1,h2,h3,h4,h5⟩:=h;clear h1 h2 h3 h4;have H5:=zq h5;clear h5;have H0:=zq ((Own.start (Below.refl w.heap.size w) (Nat.le_refl _)).box (lkO f cl));go_enter Tryz.func212,Tryz.ntmps212
 go_wp2_with fail
 go_loopw [9] (fun i wr=> ∃k:Nat,k≤l.length∧i= .int .i64 k∧Hid (∀j,j<k→inW (zc1 l j).2 0 1099511627775=true)∧Hid (Own w.heap.size w wr [blk w.heap.size (lkO f cl)])) (fun i _=>l.length-(intOf i).toNat)
 case atStart=>exact ⟨0,by omega,rfl,zq (by intro j hj;omega),H0⟩
 case round=>
  clear H0;obtain ⟨k,hk,rfl,HN,H1⟩:=hrel;obtain ⟨z0,z1⟩:=zah H1.out.blk_out;by_cases hlt:k<l.length
  ·have hkI:(k:Int)<(l.length:Int):=by omega
   obtain ⟨b,o,rfl,hbs,hc⟩:=H5.out (by omega);obtain ⟨q0,q1⟩:=zfm (zcm H1.out.below hbs hc) k l[k] (by simp);clear hc;have hz:=H1.out.below.size;have hlb:=block_lt H1.out.blk_out;have H2:=zq (H1.out.alloc (vtO l[k]));have hva:=zfl hlt;cases hok:inW l[k].2 0 1099511627775 with
   | true=>
    go_wp2_with fail
    refine (za1 hok _).mono ?_;rintro e w2 ⟨rfl,rfl⟩
    go_wp2_with fail
    go_roundw
    case rel=>
     refine ⟨k+1,by omega,by go_num,zq (fun j hj=> ?_),H2⟩;by_cases e:j=k
     ·subst e;rw [hva];exact hok
     ·exact HN.out j (by omega)
    case measure=>simp [intOf];omega
   | false=>
    go_wp2_with fail
    refine (za1 hok _).mono ?_;rintro e w2 ⟨rfl,rfl⟩
    go_wp2_with fail
    go_ret
    refine ⟨zae ?_,Upd.of_below H2.out.below⟩;symm;unfold zd5;rw [zar k hlt (by rw [hva];exact hok)];rfl
  ·have hkI:decide ((k:Int)<(l.length:Int))=false:=by simp;omega
   have hall:allR l.length (fun k=>inW (zc1 l k).2 0 1099511627775)=true:=zaw (fun j hj=>HN.out j (by omega));have HR:=zq (zhq f _ l wr hf1 hf2 hn (Reads.keep HVT.out (fun b _ hb=>H1.out.below.block b hb) H1.out.below.size));have hov:zd5 l f=zci l f:=by unfold zd5;rw [hall];rfl
   rw [←hov] at HR;clear hall hov
   go_wp2_with fail
   refine HR.out.mono ?_;rintro e w2 ⟨rfl,hu⟩;have H3:=zq (H1.out.upd0 hu);clear hu
   go_wp2_with fail
   go_ret
   exact ⟨rfl,Upd.of_below H3.out.below⟩
theorem zd4 {α β:Type} (g:α→List β) (n:Nat) (hg: ∀a,(g a).length=n): ∀(l:List α) (k j:Nat) (hk:k<l.length),j<n→(l.flatMap g)[k*n+j]?=(g l[k])[j]?
 | a::l,0,j,_,hj=>by
  rw [List.flatMap_cons,List.getElem?_append_left (by rw [hg];omega)];simp
 | a::l,k+1,j,hk,hj=>by
  rw [List.flatMap_cons,List.getElem?_append_right (by rw [hg,Nat.succ_mul];omega),hg];rw [show (k+1)*n+j-n=k*n+j by rw [Nat.succ_mul];omega];rw [zd4 g n hg l k j (by simpa using hk) hj];simp
def CtsAt (w:World) (u:Value) (cts:List Ct):Prop:=
 Reads w u 5 cts.length (cts.flatMap zag)∧ ∀c∈cts,Bat w c.vb c.rs∧c.rs.length≤100000∧Vts w c.vv c.vs∧c.vs.length≤100000
theorem CtsAt.upd {w w':World} {u:Value} {cts:List Ct} (h:CtsAt w u cts) (hu:Upd [] w w'):CtsAt w' u cts:=
 ⟨h.1.upd (M:=[]) hu (by simp),fun c hc=>⟨(h.2 c hc).1.upd (M:=[]) hu (by simp),(h.2 c hc).2.1,(h.2 c hc).2.2.1.upd (M:=[]) hu (by simp),(h.2 c hc).2.2.2⟩⟩
theorem CtsAt.at {w:World} {ao:Option Addr} {n cap:Nat} {cts:List Ct} (h:CtsAt w (.slice ao n cap) cts) (k:Nat) (hk:k<cts.length): ∃b o,ao=some ⟨b,o,none⟩∧b<w.heap.size∧
  w.cell? ⟨b,o+k*5,none⟩=some (.int .i64 cts[k].view)∧w.cell? ⟨b,o+k*5+1,none⟩=some (.int .i64 cts[k].inst)∧w.cell? ⟨b,o+k*5+2,none⟩=some (.int .i64 cts[k].seq)∧w.cell? ⟨b,o+k*5+3,none⟩=some cts[k].vb∧w.cell? ⟨b,o+k*5+4,none⟩=some cts[k].vv:=by
 obtain ⟨ao',cap',e,-,-,-,-,h5⟩:=h.1;cases e
 obtain ⟨b,o,rfl,hb,hc⟩:=h5 (by omega);have hj: ∀j,j<5→w.cell? ⟨b,o+k*5+j,none⟩=(zag cts[k])[j]?:=fun j hj=>by
  rw [Nat.add_assoc,hc _ (by omega),zd4 zag 5 (fun _=>rfl) cts k j hk hj]
 exact ⟨b,o,rfl,hb,hj 0 (by omega),hj 1 (by omega),hj 2 (by omega),hj 3 (by omega),hj 4 (by omega)⟩
section
variable {w:World}
theorem zaa {b:Nat} {cs:Array Value} {T:TypeId} (h:w.heap[b]?=some (.cells cs T (0,0))) (i:Nat) {v:Value} (e:cs[i]?=some v):w.cell? ⟨b,i,none⟩=some v:=by rw [zac h];exact e
abbrev ctB (c:Ct):Obj:= .cells #[.int .i64 c.view,.int .i64 c.inst,.int .i64 c.seq,c.vb,c.vv] 42 (0,0)
def CtW (w:World) (c:Ct):Prop:=Bat w c.vb c.rs∧c.rs.length≤100000∧Vts w c.vv c.vs∧c.vs.length≤100000
theorem CtW.upd {w':World} {c:Ct} (h:CtW w c) (hu:Upd [] w w'):CtW w' c:=⟨h.1.upd (M:=[]) hu (by simp),h.2.1,h.2.2.1.upd (M:=[]) hu (by simp),h.2.2.2⟩
theorem CtW.slices {c:Ct} (h:CtW w c):(∃a k,c.vb= .slice a c.rs.length k)∧ ∃a k,c.vv= .slice a c.vs.length k:=by
 obtain ⟨⟨a,k,e,-⟩,-,⟨a',k',e',-⟩,-⟩:=h;exact ⟨⟨a,k,e⟩,a',k',e'⟩
end
theorem znc (f:Nat) (cl:Int) (c:Ct) (w:World) (hf1:1≤f) (hf2:f≤4) (h:CtW w c):
  Calls Tryz.prog 146 #[lkA f cl,ctAgg c] w fun e w'=>e= .returned (.bool (zgg f cl c.cp))∧Upd [] w w':=by
 have HW:=zq h;obtain ⟨⟨ab,kb,eb⟩,av,kv,ev⟩:=h.slices;clear h;obtain ⟨vw,it,sq,vb,vv,rs,vs⟩:=c;simp only at eb ev;subst eb ev;have H0:Hid (Own w.heap.size w _ [_,_]):=zq (((Own.start (Below.refl w.heap.size w) (Nat.le_refl _)).box (lkO f cl)).boxAt (ctB ⟨vw,it,sq,.slice ab rs.length kb,.slice av vs.length kv,rs,vs⟩) (n:=w.heap.size+1) (by simp));have HP:=zq (fun W=>zfh f cl vw it sq W);have HB:=zq (fun W (hu:Upd [] w W)=>zda f cl 0 4 _ rs W HW.out.2.1 (HW.out.upd hu).1);have HV:=zq (fun W (hu:Upd [] w W)=>zlg f cl _ vs W hf1 hf2 HW.out.2.2.2 (HW.out.upd hu).2.2.1);unfold zgg Ct.cp;simp only;cases h1:zce f vw it sq with
 | false=>
  simp only [h1] at HP;go_enter Tryz.func146,Tryz.ntmps146
  go_wp2_with fail
  refine (HP.out _).mono ?_;rintro e w1 ⟨rfl,hu⟩;have H1:=zq (H0.out.upd0 hu);clear hu
  go_wp2_with fail
  go_ret
  exact ⟨rfl,Upd.of_below H1.out.below⟩
 | true=>
  simp only [h1] at HP;cases h2:zbm rs 0 4 cl with
  | false=>
   simp only [h2] at HB;go_enter Tryz.func146,Tryz.ntmps146
   go_wp2_with fail
   refine (HP.out _).mono ?_;rintro e w1 ⟨rfl,hu⟩;have H1:=zq (H0.out.upd0 hu);clear hu;have b0:w1.cell? ⟨w.heap.size,0,none⟩=some (.int .i64 f):=by rw [zac (H1.out.blkAt 1 rfl)];rfl
   have b1:w1.cell? ⟨w.heap.size,1,none⟩=some (.int .i64 cl):=by rw [zac (H1.out.blkAt 1 rfl)];rfl
   have b3:=zaa (H1.out.blkAt 0 rfl) 3 rfl;have b4:=zaa (H1.out.blkAt 0 rfl) 4 rfl
   go_wp2_with fail
   refine (HB.out _ (Upd.of_below H1.out.below)).mono ?_;rintro e w2 ⟨rfl,hu⟩;have H2:=zq (H1.out.upd0 hu);clear hu b0 b1 b3 b4
   go_wp2_with fail
   go_ret
   exact ⟨rfl,Upd.of_below H2.out.below⟩
  | true=>
   simp only [h2] at HB;generalize zd5 vs f=r at*;go_enter Tryz.func146,Tryz.ntmps146
   go_wp2_with fail
   refine (HP.out _).mono ?_;rintro e w1 ⟨rfl,hu⟩;have H1:=zq (H0.out.upd0 hu);clear hu;have b0:w1.cell? ⟨w.heap.size,0,none⟩=some (.int .i64 f):=by rw [zac (H1.out.blkAt 1 rfl)];rfl
   have b1:w1.cell? ⟨w.heap.size,1,none⟩=some (.int .i64 cl):=by rw [zac (H1.out.blkAt 1 rfl)];rfl
   have b3:=zaa (H1.out.blkAt 0 rfl) 3 rfl;have b4:=zaa (H1.out.blkAt 0 rfl) 4 rfl
   go_wp2_with fail
   refine (HB.out _ (Upd.of_below H1.out.below)).mono ?_;rintro e w2 ⟨rfl,hu⟩;have H2:=zq (H1.out.upd0 hu);clear hu b0 b1 b3 b4;have b0:w2.cell? ⟨w.heap.size,0,none⟩=some (.int .i64 f):=by rw [zac (H2.out.blkAt 1 rfl)];rfl
   have b1:w2.cell? ⟨w.heap.size,1,none⟩=some (.int .i64 cl):=by rw [zac (H2.out.blkAt 1 rfl)];rfl
   have b3:=zaa (H2.out.blkAt 0 rfl) 3 rfl;have b4:=zaa (H2.out.blkAt 0 rfl) 4 rfl
   go_wp2_with fail
   refine (HV.out _ (Upd.of_below H2.out.below)).mono ?_;rintro e w3 ⟨rfl,hu⟩;have H3:=zq (H2.out.upd0 hu);clear hu b0 b1 b3 b4
   go_wp2_with fail
   go_ret
   exact ⟨zae (by simp),Upd.of_below H3.out.below⟩
theorem zka {l:List Ct} {k:Nat} (h:k<l.length):zfa (l.map Ct.cp) k=l[k].cp:=by unfold zfa;simp [h]
theorem zh8 (f:Nat) (cl view:Int) (v:Value) (vs:Vs) (u:Value) (cts:List Ct) (w:World) (hf1:1≤f) (hf2:f≤4) (hn:vs.length≤100000) (hv:Vts w v vs) (hm:cts.length≤100000) (hc:CtsAt w u cts):
  Calls Tryz.prog 144 #[lkA f cl,.int .i64 view,v,u] w fun e w'=>e= .returned (.bool (zc4 f cl view vs (cts.map Ct.cp)))∧Upd [] w w':=by
 have HC:=zq hc;have HV:=zq (fun W (hu:Upd [] w W)=>zlg f cl v vs W hf1 hf2 hn (hv.upd (M:=[]) hu (by simp)));have hu0: ∃a k,u= .slice a cts.length k:=by obtain ⟨⟨a,k,e,-⟩,-⟩:=hc;exact ⟨a,k,e⟩
 obtain ⟨a,kk,rfl⟩:=hu0;clear hv hc;have H0:=zq ((Own.start (Below.refl w.heap.size w) (Nat.le_refl _)).box (lkO f cl));unfold zc4;cases h1:inW view 1 12 with
 | false=>
  go_enter Tryz.func144,Tryz.ntmps144
  go_wp2_with fail
  refine (za1 h1 _).mono ?_;rintro e w' ⟨rfl,rfl⟩
  go_wp2_with fail
  go_ret
  exact ⟨rfl,Upd.of_below H0.out.below⟩
 | true=>
  cases h2:zd5 vs f with
  | false=>
   simp only [h2] at HV;go_enter Tryz.func144,Tryz.ntmps144
   go_wp2_with fail
   refine (za1 h1 _).mono ?_;rintro e w' ⟨rfl,rfl⟩
   go_wp2_with fail
   refine (HV.out _ (Upd.of_below H0.out.below)).mono ?_;rintro e w1 ⟨rfl,hu⟩;have H1:=zq (H0.out.upd0 hu);clear hu
   go_wp2_with fail
   go_ret
   exact ⟨rfl,Upd.of_below H1.out.below⟩
  | true=>
   simp only [h2] at HV;go_enter Tryz.func144,Tryz.ntmps144
   go_wp2_with fail
   refine (za1 h1 _).mono ?_;rintro e w' ⟨rfl,rfl⟩
   go_wp2_with fail
   refine (HV.out _ (Upd.of_below H0.out.below)).mono ?_;rintro e w1 ⟨rfl,hu⟩;have H1:=zq (H0.out.upd0 hu);clear hu HV H0
   go_wp2_with fail
   go_loopw [22] (fun i wr=> ∃k:Nat,k≤cts.length∧i= .int .i64 k∧Hid (∀j,j<k→zft f cl view (cts.map Ct.cp) j=true)∧Hid (Own w.heap.size w wr [blk w.heap.size (lkO f cl)])) (fun i _=>cts.length-(intOf i).toNat)
   case atStart=>exact ⟨0,by omega,rfl,zq (by intro j hj;omega),H1⟩
   case round=>
    clear H1;obtain ⟨k,hk,rfl,HN,H1⟩:=hrel;by_cases hlt:k<cts.length
    ·have hkI:(k:Int)<(cts.length:Int):=by omega
     have hCW:CtW w cts[k]:=HC.out.2 _ (List.getElem_mem hlt);have HCA:=zq (HC.out.upd (Upd.of_below H1.out.below));obtain ⟨b,o,rfl,hbs,q0,q1,q2,q3,q4⟩:=HCA.out.at k hlt;obtain ⟨⟨ab,kb,eb⟩,av,kv,ev⟩:=hCW.slices;have H2:=zq (H1.out.box (ctB cts[k]));have HF:=zq (fun W (hu:Upd [] w W)=>znc f cl cts[k] W hf1 hf2 (hCW.upd hu));have hat:=zka hlt;have HAT:=zq hat;obtain ⟨z0,z1⟩:=zah H1.out.blk_out;have hlb:=block_lt H1.out.blk_out;have hz:=H1.out.below.size;rw [eb] at q3;rw [ev] at q4;unfold ctB at H2;unfold ctAgg at HF;rw [eb,ev] at H2 HF;clear hCW eb ev hat
     go_wp2_with fail
     go_upto_region 6 with fail
     go_wp2_with fail
     refine (HF.out _ (Upd.of_below H2.out.below)).mono ?_;rintro e w2 ⟨rfl,hu⟩;have H3:=zq (H2.out.upd0 hu);have h3:=H3.out.blkAt 0 rfl;have x0:=zaa h3 0 rfl;have x1:=zaa h3 1 rfl;have x2:=zaa h3 2 rfl;clear hu HF h3 z0 z1 q0 q1 q2 q3 q4;cases hok:zgg f cl cts[k].cp with
     | false=>
      have hck:zft f cl view (cts.map Ct.cp) k=false:=by unfold zft;rw [HAT.out,hok];rfl
      have HCK:=zq hck;clear hck
      go_wp2_with fail
      go_ret
      refine ⟨zae ?_,Upd.of_below H3.out.below⟩;symm;exact zar k (by simpa using hlt) HCK.out
     | true=>
      by_cases hvw:view≤cts[k].view
      ·have d1:decide (view≤cts[k].view)=true:=by simpa using hvw
       have hd0:decide (cts[k].cp.view<view)=false:=decide_eq_false (show¬cts[k].view<view by omega);have HCK:Hid (zft f cl view (cts.map Ct.cp) k=false):=zq (by unfold zft;rw [HAT.out,hok,hd0];rfl);clear hd0
       go_wp2_with fail
       go_ret
       refine ⟨zae ?_,Upd.of_below H3.out.below⟩;symm;exact zar k (by simpa using hlt) HCK.out
      ·have d1:decide (view≤cts[k].view)=false:=by simpa using hvw
       have d2:decide (cts[k].cp.view<view)=true:=decide_eq_true (show cts[k].view<view by omega);by_cases hk0:k=0
       ·subst hk0
        have HCK:Hid (zft f cl view (cts.map Ct.cp) 0=true):=zq (by unfold zft;rw [HAT.out,hok,d2];rfl);clear d2
        go_wp2_with fail
        go_quiet (fail)
        go_wp2_with fail
        go_roundw
        case rel=>
         refine ⟨0+1,by omega,by go_num,zq (fun j hj=> ?_),zq (H3.out.drop.upd0 ((Upd.refl _ _).drewN _))⟩;have e:j=0:=by omega
         subst e;exact HCK.out
        case measure=>simp [intOf];omega
       ·obtain ⟨m,rfl⟩: ∃m,k=m+1:=⟨k-1,by omega⟩
        have hm1:m<cts.length:=by omega
        have HCA3:=zq (HC.out.upd (Upd.of_below H3.out.below));obtain ⟨b',o',eb',hbs',-,p1,p2,-,-⟩:=HCA3.out.at m hm1;simp only [Option.some.injEq,Addr.mk.injEq,and_true] at eb';obtain ⟨rfl,rfl⟩:=eb';have hp:decide ((0:Int)<((m+1:Nat):Int))=true:=by simp
        have HPR:Hid (zfa (cts.map Ct.cp) (m+1-1)=cts[m].cp):=zq (zka hm1);have HD2:=zq d2;have HOK:=zq hok;have hmlen:decide ((m:Int)<(cts.length:Int))=true:=by simp;omega
        clear hk0 d2 hok hvw;have HCKF:Hid (zt1 cts[m].cp cts[m+1].cp=false→zft f cl view (cts.map Ct.cp) (m+1)=false):=zq (fun h=>by unfold zft;rw [HAT.out,HOK.out,HD2.out,HPR.out,h];rfl);have HCKT:Hid (zt1 cts[m].cp cts[m+1].cp=true→zft f cl view (cts.map Ct.cp) (m+1)=true):=zq (fun h=>by unfold zft;rw [HAT.out,HOK.out,HD2.out,HPR.out,h];simp);have HLT:Hid (zt1 cts[m].cp cts[m+1].cp=(decide (cts[m].inst<cts[m+1].inst) || (decide (cts[m].inst=cts[m+1].inst)&&decide (cts[m].seq<cts[m+1].seq)))):=zq rfl;clear HOK HD2;by_cases c1:cts[m+1].inst<cts[m].inst
        ·have e1:decide (cts[m+1].inst<cts[m].inst)=true:=by simpa using c1
         have HCK:=zq (HCKF.out (by rw [HLT.out,Bool.eq_iff_iff];simp;omega));clear c1
         go_wp2_with fail
         go_quiet (fail)
         go_wp2_with fail
         go_ret
         refine ⟨zae ?_,Upd.of_below (below_drewN H3.out.below _)⟩;symm;exact zar (m+1) (by simpa using hlt) HCK.out
        ·have e1:decide (cts[m+1].inst<cts[m].inst)=false:=by simpa using c1
         by_cases c2:cts[m].inst=cts[m+1].inst
         ·have e2:=zh2 c2
          by_cases c3:cts[m+1].seq≤cts[m].seq
          ·have e3:decide (cts[m+1].seq≤cts[m].seq)=true:=by simpa using c3
           have HCK:=zq (HCKF.out (by rw [HLT.out,Bool.eq_iff_iff];simp;omega));clear c1 c2 c3
           go_wp2_with fail
           go_quiet (fail)
           go_wp2_with fail
           go_ret
           refine ⟨zae ?_,Upd.of_below (below_drewN H3.out.below _)⟩;symm;exact zar (m+1) (by simpa using hlt) HCK.out
          ·have e3:decide (cts[m+1].seq≤cts[m].seq)=false:=by simpa using c3
           have HCK:=zq (HCKT.out (by rw [HLT.out,Bool.eq_iff_iff];simp;omega));clear c1 c2 c3
           go_wp2_with fail
           go_quiet (fail)
           go_wp2_with fail
           go_roundw
           case rel=>
            refine ⟨m+1+1,by omega,by go_num,zq (fun j hj=> ?_),zq (H3.out.drop.upd0 ((Upd.refl _ _).drewN _))⟩;by_cases e:j=m+1
            ·subst e;exact HCK.out
            ·exact HN.out j (by omega)
           case measure=>simp [intOf];omega
         ·have e2:=zdx c2
          have HCK:=zq (HCKT.out (by rw [HLT.out,Bool.eq_iff_iff];simp;omega));clear c1 c2
          go_wp2_with fail
          go_quiet (fail)
          go_wp2_with fail
          go_roundw
          case rel=>
           refine ⟨m+1+1,by omega,by go_num,zq (fun j hj=> ?_),zq (H3.out.drop.upd0 ((Upd.refl _ _).drewN _))⟩;by_cases e:j=m+1
           ·subst e;exact HCK.out
           ·exact HN.out j (by omega)
          case measure=>simp [intOf];omega
    ·have hkI:decide ((k:Int)<(cts.length:Int))=false:=by simp;omega
     go_wp2_with fail
     go_ret
     refine ⟨zae ?_,Upd.of_below H1.out.below⟩;symm;exact zaw (fun j hj=>HN.out j (by simp at hj;omega))
end Go.Proofs.YtannckelmojkoaaGreat
