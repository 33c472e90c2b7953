/- Parts of the proof, one behind the other. -/
import Derived.Test.YtannckelmojkoaaGreatVwsB12
set_option maxHeartbeats 32000000
set_option maxRecDepth 100000
set_option linter.unusedVariables false
set_option linter.unusedSimpArgs false
namespace Go.Proofs.YtannckelmojkoaaGreat
open Go.RowKit Go.Heap
section
variable {w:World}
abbrev ptB (p:Pt):Obj:= .cells #[.int .i64 p.fm,p.vv,p.cv,.int .i64 p.sl] 49 (0,0)
def PtW (w:World) (p:Pt):Prop:=Vts w p.vv p.vs∧p.vs.length≤100000∧CtsAt w p.cv p.cts∧p.cts.length≤100000
theorem PtW.upd {w':World} {p:Pt} (h:PtW w p) (hu:Upd [] w w'):PtW w' p:=⟨h.1.upd (M:=[]) hu (by simp),h.2.1,h.2.2.1.upd hu,h.2.2.2⟩
theorem PtW.slices {p:Pt} (h:PtW w p):(∃a k,p.vv= .slice a p.vs.length k)∧ ∃a k,p.cv= .slice a p.cts.length k:=by
 obtain ⟨⟨a,k,e,-⟩,-,⟨⟨a',k',e',-⟩,-⟩,-⟩:=h;exact ⟨⟨a,k,e⟩,a',k',e'⟩
def PtsAt (w:World) (u:Value) (ps:List Pt):Prop:=Reads w u 4 ps.length (ps.flatMap zaj)∧ ∀p∈ps,PtW w p
theorem PtsAt.upd {w':World} {u:Value} {ps:List Pt} (h:PtsAt w u ps) (hu:Upd [] w w'):PtsAt w' u ps:=
 ⟨h.1.upd (M:=[]) hu (by simp),fun p hp=>(h.2 p hp).upd hu⟩
theorem PtsAt.at {ao:Option Addr} {n cap:Nat} {ps:List Pt} (h:PtsAt w (.slice ao n cap) ps) (k:Nat) (hk:k<ps.length): ∃b o,ao=some ⟨b,o,none⟩∧b<w.heap.size∧
  w.cell? ⟨b,o+k*4,none⟩=some (.int .i64 ps[k].fm)∧w.cell? ⟨b,o+k*4+1,none⟩=some ps[k].vv∧w.cell? ⟨b,o+k*4+2,none⟩=some ps[k].cv∧w.cell? ⟨b,o+k*4+3,none⟩=some (.int .i64 ps[k].sl):=by
 obtain ⟨ao',cap',e,-,-,-,-,h5⟩:=h.1;cases e
 obtain ⟨b,o,rfl,hb,hc⟩:=h5 (by omega);have hj: ∀j,j<4→w.cell? ⟨b,o+k*4+j,none⟩=(zaj ps[k])[j]?:=fun j hj=>by
  rw [Nat.add_assoc,hc _ (by omega),zd4 zaj 4 (fun _=>rfl) ps k j hk hj]
 exact ⟨b,o,rfl,hb,hj 0 (by omega),hj 1 (by omega),hj 2 (by omega),hj 3 (by omega)⟩
theorem zkt {l:List Pt} {k:Nat} (h:k<l.length):partAt (l.map Pt.pa) k=l[k].pa:=by unfold partAt;simp [h]
end
theorem zsf (f:Nat) (cl view:Int) (u:Value) (ps:List Pt) (w:World) (hf1:1≤f) (hf2:f≤4) (hm:ps.length≤100000) (hc:PtsAt w u ps):
  Calls Tryz.prog 145 #[lkA f cl,.int .i64 view,u] w fun e w'=>e= .returned (.bool (okParts f cl view (ps.map Pt.pa)))∧Upd [] w w':=by
 have HC:=zq hc;have hu0: ∃a k,u= .slice a ps.length k:=by obtain ⟨⟨a,k,e,-⟩,-⟩:=hc;exact ⟨a,k,e⟩
 obtain ⟨a,kk,rfl⟩:=hu0;clear hc;have H0:=zq ((Own.start (Below.refl w.heap.size w) (Nat.le_refl _)).box (lkO f cl));have HQ:=zq (fun w=>zej (f:Int) w (by omega) (by omega));by_cases hl:ps.length=2*f+1
 ·have hne:((ps.length:Int) !=2*(f:Int)+1)=false:=by simp;omega
  go_enter Tryz.func145,Tryz.ntmps145
  go_wp2_with fail
  refine (HQ.out _).mono ?_;rintro e w' ⟨rfl,rfl⟩
  go_wp2_with fail
  go_loopw [17] (fun i wr=> ∃k:Nat,k≤ps.length∧i= .int .i64 k∧Hid (∀j,j<k→zse f cl view (ps.map Pt.pa) j=true)∧Hid (Own w.heap.size w wr [blk w.heap.size (lkO f cl)])) (fun i _=>ps.length-(intOf i).toNat)
  case atStart=>exact ⟨0,by omega,rfl,zq (by intro j hj;omega),H0⟩
  case round=>
   clear H0 HQ hne;obtain ⟨k,hk,rfl,HN,H1⟩:=hrel;by_cases hlt:k<ps.length
   ·have hkI:(k:Int)<(ps.length:Int):=by omega
    have hPW:PtW w ps[k]:=HC.out.2 _ (List.getElem_mem hlt);have HCA:=zq (HC.out.upd (Upd.of_below H1.out.below));obtain ⟨b,o,rfl,hbs,q0,q1,q2,q3⟩:=HCA.out.at k hlt;obtain ⟨⟨av,kv,ev⟩,ac,kc,ec⟩:=hPW.slices;have HAT:=zq (zkt hlt);generalize hcP:ps[k]=cP at*;have H2:=zq (H1.out.box (ptB cP));have HG:=zq (fun W (hu:Upd [] w W)=>zh8 f cl view _ cP.vs _ cP.cts W hf1 hf2 (hPW.upd hu).2.1 (hPW.upd hu).1 (hPW.upd hu).2.2.2 (hPW.upd hu).2.2.1);have HI:=zq (fun w=>zc3 f cl cP.fm w hf1 hf2);obtain ⟨z0,z1⟩:=zah H1.out.blk_out;have hlb:=block_lt H1.out.blk_out;have hz:=H1.out.below.size;rw [ev] at q1;rw [ec] at q2;unfold ptB at H2;rw [ev,ec] at H2;simp only [ev,ec] at HG;clear hPW ev ec;have HPO:Hid (∀x:Bool,(decide (k=0) || decide ((partAt (ps.map Pt.pa) (k-1)).fm<cP.fm))=x→zse f cl view (ps.map Pt.pa) k=(zbv f cP.fm&&x&&inW cP.sl 0 1099511627775&&zc4 f cl view cP.vs (cP.cts.map Ct.cp))):=zq (by
     intro x hx;unfold zse;rw [HAT.out,←hx];rfl)
    generalize zc4 f cl view cP.vs (cP.cts.map Ct.cp)=rc at*;generalize hrn:zbv f cP.fm=rn at*;generalize hsi:inW cP.sl 0 1099511627775=si at*
    go_wp2_with fail
    go_upto_region 6 with fail
    clear z0 z1 q0 q1 q2 q3;by_cases hk0:k=0
    ·subst hk0
     have HX:=zq (HPO.out true (by simp));have b0:(wr.alloc (.cells #[.int .i64 cP.fm,.slice av cP.vs.length kv,.slice ac cP.cts.length kc,.int .i64 cP.sl] 49 (0,0))).cell? ⟨w.heap.size,0,none⟩=some (.int .i64 f):=by rw [zac (H2.out.blkAt 1 rfl)];rfl
     have b1:(wr.alloc (.cells #[.int .i64 cP.fm,.slice av cP.vs.length kv,.slice ac cP.cts.length kc,.int .i64 cP.sl] 49 (0,0))).cell? ⟨w.heap.size,0+1,none⟩=some (.int .i64 cl):=by rw [zac (H2.out.blkAt 1 rfl)];rfl
     have g0:=zaa (H2.out.blkAt 0 rfl) 0 rfl;have g1:=zaa (H2.out.blkAt 0 rfl) 1 rfl;have g2:=zaa (H2.out.blkAt 0 rfl) 2 rfl;have g3:=zaa (H2.out.blkAt 0 rfl) 3 rfl;refine Held.wp_held2 [(w.heap.size,0,[.int .i64 f,.int .i64 cl]),(wr.heap.size,0,[.int .i64 cP.fm]),(wr.heap.size,1,[.slice av cP.vs.length kv]),(wr.heap.size,2,[.slice ac cP.cts.length kc]),(wr.heap.size,3,[.int .i64 cP.sl])] [(0,0),(2,1),(14,1),(16,1),(22,4),(27,0),(30,2),(32,3)] [33] [(4,true),(20,true),(10,false)] (by kernel_rfl) (by kernel_rfl) ⟨⟨b0,b1,trivial⟩,⟨g0,trivial⟩,⟨g1,trivial⟩,⟨g2,trivial⟩,⟨g3,trivial⟩,trivial⟩ ?_;simp only [Held.cutAt,Held.walk,List.take_succ_cons,List.take_zero,List.drop_succ_cons,List.drop_zero]
     go_wp2_with fail
     refine (HI.out _).mono ?_;rintro e w2 ⟨rfl,hu⟩;have H3:=zq (H2.out.drew.upd0 hu);clear hu HI;clear b0 b1 g0 g1 g2 g3;have b0:w2.cell? ⟨w.heap.size,0,none⟩=some (.int .i64 f):=by rw [zac (H3.out.blkAt 1 rfl)];rfl
     have b1:w2.cell? ⟨w.heap.size,0+1,none⟩=some (.int .i64 cl):=by rw [zac (H3.out.blkAt 1 rfl)];rfl
     have g0:=zaa (H3.out.blkAt 0 rfl) 0 rfl;have g1:=zaa (H3.out.blkAt 0 rfl) 1 rfl;have g2:=zaa (H3.out.blkAt 0 rfl) 2 rfl;have g3:=zaa (H3.out.blkAt 0 rfl) 3 rfl
     go_wp2_with fail
     refine ⟨⟨⟨b0,b1,trivial⟩,⟨g0,trivial⟩,⟨g1,trivial⟩,⟨g2,trivial⟩,⟨g3,trivial⟩,trivial⟩,?_⟩;cases rn with
     | false=>
      go_wp2_with fail
      refine ⟨⟨⟨b0,b1,trivial⟩,⟨g0,trivial⟩,⟨g1,trivial⟩,⟨g2,trivial⟩,⟨g3,trivial⟩,trivial⟩,?_⟩
      go_wp2_with fail
      refine ⟨trivial,?_⟩
      go_wp2_with fail
      refine ⟨trivial,by rfl,⟨.inr ⟨⟨rfl,.inr ⟨by kernel_rfl,by kernel_rfl⟩⟩,trivial⟩,.inr ⟨⟨rfl,.inl ⟨by kernel_rfl,rfl⟩⟩,trivial⟩,.inl ⟨rfl,rfl⟩,.inl ⟨rfl,rfl⟩,.inl ⟨rfl,rfl⟩,.inl ⟨rfl,rfl⟩,.inl ⟨rfl,rfl⟩,.inl ⟨rfl,rfl⟩,trivial⟩,?_⟩
      go_wp2_with fail
      go_ret
      refine ⟨zae ?_,Upd.of_below H3.out.below⟩;symm;unfold okParts;rw [zar 0 (by simpa using hlt) (HX.out.trans (by simp))];simp
     | true=>
      have HS:=zq (fun w=>za1 hsi w)
      go_wp2_with fail
      refine (HS.out _).mono ?_;rintro e w3 ⟨rfl,rfl⟩
      go_wp2_with fail
      refine ⟨⟨⟨b0,b1,trivial⟩,⟨g0,trivial⟩,⟨g1,trivial⟩,⟨g2,trivial⟩,⟨g3,trivial⟩,trivial⟩,?_⟩;cases si with
      | false=>
       go_wp2_with fail
       refine ⟨trivial,?_⟩
       go_wp2_with fail
       refine ⟨trivial,by rfl,⟨.inr ⟨⟨rfl,.inr ⟨by kernel_rfl,by kernel_rfl⟩⟩,trivial⟩,.inr ⟨⟨rfl,.inl ⟨by kernel_rfl,rfl⟩⟩,trivial⟩,.inl ⟨rfl,rfl⟩,.inl ⟨rfl,rfl⟩,.inr ⟨⟨rfl,.inl ⟨by kernel_rfl,rfl⟩⟩,trivial⟩,.inl ⟨rfl,rfl⟩,.inl ⟨rfl,rfl⟩,.inl ⟨rfl,rfl⟩,trivial⟩,?_⟩
       go_wp2_with fail
       go_ret
       refine ⟨zae ?_,Upd.of_below H3.out.below⟩;symm;unfold okParts;rw [zar 0 (by simpa using hlt) (HX.out.trans (by simp))];simp
      | true=>
       go_wp2_with fail
       refine (HG.out _ (Upd.of_below H3.out.below)).mono ?_;rintro e w4 ⟨rfl,hu⟩;have H4:=zq (H3.out.upd0 hu);clear hu
       go_wp2_with fail
       refine ⟨trivial,?_⟩;cases rc with
       | false=>
        go_wp2_with fail
        refine ⟨trivial,by rfl,⟨.inr ⟨⟨rfl,.inr ⟨by kernel_rfl,by kernel_rfl⟩⟩,trivial⟩,.inr ⟨⟨rfl,.inl ⟨by kernel_rfl,rfl⟩⟩,trivial⟩,.inl ⟨rfl,rfl⟩,.inl ⟨rfl,rfl⟩,.inr ⟨⟨rfl,.inl ⟨by kernel_rfl,rfl⟩⟩,trivial⟩,.inr ⟨⟨rfl,.inr ⟨by kernel_rfl,by kernel_rfl⟩⟩,trivial⟩,.inr ⟨⟨rfl,.inl ⟨by kernel_rfl,rfl⟩⟩,trivial⟩,.inr ⟨⟨rfl,.inl ⟨by kernel_rfl,rfl⟩⟩,trivial⟩,trivial⟩,?_⟩
        go_wp2_with fail
        go_ret
        refine ⟨zae ?_,Upd.of_below H4.out.below⟩;symm;unfold okParts;rw [zar 0 (by simpa using hlt) (HX.out.trans (by simp))];simp
       | true=>
        go_wp2_with fail
        refine ⟨trivial,by rfl,⟨.inr ⟨⟨rfl,.inr ⟨by kernel_rfl,by kernel_rfl⟩⟩,trivial⟩,.inr ⟨⟨rfl,.inl ⟨by kernel_rfl,rfl⟩⟩,trivial⟩,.inl ⟨rfl,rfl⟩,.inl ⟨rfl,rfl⟩,.inr ⟨⟨rfl,.inl ⟨by kernel_rfl,rfl⟩⟩,trivial⟩,.inr ⟨⟨rfl,.inr ⟨by kernel_rfl,by kernel_rfl⟩⟩,trivial⟩,.inr ⟨⟨rfl,.inl ⟨by kernel_rfl,rfl⟩⟩,trivial⟩,.inr ⟨⟨rfl,.inl ⟨by kernel_rfl,rfl⟩⟩,trivial⟩,trivial⟩,?_⟩
        go_wp2_with fail
        go_roundw
        case rel=>
         refine ⟨0+1,by omega,by go_num,zq (fun j hj=> ?_),zq H4.out.drop⟩;have e:j=0:=by omega
         subst e;exact HX.out.trans (by simp)
        case measure=>simp [intOf];omega
    ·obtain ⟨m,rfl⟩: ∃m,k=m+1:=⟨k-1,by omega⟩
     have hm1:m<ps.length:=by omega
     generalize hpP:ps[m]=pP at*;have HX:=zq (HPO.out (decide (pP.fm<cP.fm)) (by rw [show m+1-1=m from rfl,zkt hm1,hpP];rfl));have HPC:Hid (∀W,Below w.heap.size w W→W.cell? ⟨b,o+m*4,none⟩=some (.int .i64 pP.fm)):=zq (fun W hb=>by
      obtain ⟨b',o',eb',hbs',p0,-,-,-⟩:=(HC.out.upd (Upd.of_below hb)).at m hm1;simp only [Option.some.injEq,Addr.mk.injEq,and_true] at eb';obtain ⟨rfl,rfl⟩:=eb';rw [hpP] at p0;exact p0)
     have hgk:decide ((0:Int)<((m+1:Nat):Int))=true:=by simp
     have hmlen:decide ((m:Int)<(ps.length:Int))=true:=by simp;omega
     clear hk0 hpP;have b0:(wr.alloc (.cells #[.int .i64 cP.fm,.slice av cP.vs.length kv,.slice ac cP.cts.length kc,.int .i64 cP.sl] 49 (0,0))).cell? ⟨w.heap.size,0,none⟩=some (.int .i64 f):=by rw [zac (H2.out.blkAt 1 rfl)];rfl
     have b1:(wr.alloc (.cells #[.int .i64 cP.fm,.slice av cP.vs.length kv,.slice ac cP.cts.length kc,.int .i64 cP.sl] 49 (0,0))).cell? ⟨w.heap.size,0+1,none⟩=some (.int .i64 cl):=by rw [zac (H2.out.blkAt 1 rfl)];rfl
     have g0:=zaa (H2.out.blkAt 0 rfl) 0 rfl;have g1:=zaa (H2.out.blkAt 0 rfl) 1 rfl;have g2:=zaa (H2.out.blkAt 0 rfl) 2 rfl;have g3:=zaa (H2.out.blkAt 0 rfl) 3 rfl;have p0:(wr.alloc (.cells #[.int .i64 cP.fm,.slice av cP.vs.length kv,.slice ac cP.cts.length kc,.int .i64 cP.sl] 49 (0,0))).cell? ⟨b,o+m*4,none⟩=some (.int .i64 pP.fm):=HPC.out _ H2.out.below;refine Held.wp_held2 [(w.heap.size,0,[.int .i64 f,.int .i64 cl]),(wr.heap.size,0,[.int .i64 cP.fm]),(wr.heap.size,1,[.slice av cP.vs.length kv]),(wr.heap.size,2,[.slice ac cP.cts.length kc]),(wr.heap.size,3,[.int .i64 cP.sl]),(b,o+m*4,[.int .i64 pP.fm])] [(0,0),(2,1),(14,5),(16,1),(22,4),(27,0),(30,2),(32,3)] [33] [(4,true),(20,true),(10,false)] (by kernel_rfl) (by kernel_rfl) ⟨⟨b0,b1,trivial⟩,⟨g0,trivial⟩,⟨g1,trivial⟩,⟨g2,trivial⟩,⟨g3,trivial⟩,⟨p0,trivial⟩,trivial⟩ ?_;simp only [Held.cutAt,Held.walk,List.take_succ_cons,List.take_zero,List.drop_succ_cons,List.drop_zero]
     go_wp2_with fail
     refine (HI.out _).mono ?_;rintro e w2 ⟨rfl,hu⟩;have H3:=zq (H2.out.drew.upd0 hu);clear hu HI;clear b0 b1 g0 g1 g2 g3 p0;have b0:w2.cell? ⟨w.heap.size,0,none⟩=some (.int .i64 f):=by rw [zac (H3.out.blkAt 1 rfl)];rfl
     have b1:w2.cell? ⟨w.heap.size,0+1,none⟩=some (.int .i64 cl):=by rw [zac (H3.out.blkAt 1 rfl)];rfl
     have g0:=zaa (H3.out.blkAt 0 rfl) 0 rfl;have g1:=zaa (H3.out.blkAt 0 rfl) 1 rfl;have g2:=zaa (H3.out.blkAt 0 rfl) 2 rfl;have g3:=zaa (H3.out.blkAt 0 rfl) 3 rfl;have p0:w2.cell? ⟨b,o+m*4,none⟩=some (.int .i64 pP.fm):=HPC.out _ H3.out.below
     go_wp2_with fail
     refine ⟨⟨⟨b0,b1,trivial⟩,⟨g0,trivial⟩,⟨g1,trivial⟩,⟨g2,trivial⟩,⟨g3,trivial⟩,⟨p0,trivial⟩,trivial⟩,?_⟩;cases rn with
     | false=>
      go_wp2_with fail
      refine ⟨⟨⟨b0,b1,trivial⟩,⟨g0,trivial⟩,⟨g1,trivial⟩,⟨g2,trivial⟩,⟨g3,trivial⟩,⟨p0,trivial⟩,trivial⟩,?_⟩
      go_wp2_with fail
      refine ⟨trivial,?_⟩
      go_wp2_with fail
      refine ⟨trivial,by rfl,⟨.inr ⟨⟨rfl,.inr ⟨by kernel_rfl,by kernel_rfl⟩⟩,trivial⟩,.inr ⟨⟨rfl,.inl ⟨by kernel_rfl,rfl⟩⟩,trivial⟩,.inl ⟨rfl,rfl⟩,.inl ⟨rfl,rfl⟩,.inl ⟨rfl,rfl⟩,.inl ⟨rfl,rfl⟩,.inl ⟨rfl,rfl⟩,.inl ⟨rfl,rfl⟩,trivial⟩,?_⟩
      go_wp2_with fail
      go_ret
      refine ⟨zae ?_,Upd.of_below H3.out.below⟩;symm;unfold okParts;rw [zar (m+1) (by simpa using hlt) (HX.out.trans (by simp))];simp
     | true=>
      by_cases hx:cP.fm≤pP.fm
      ·have hx1:decide (cP.fm≤pP.fm)=true:=decide_eq_true hx
       have hx2:decide (pP.fm<cP.fm)=false:=decide_eq_false (by omega);rw [hx2] at HX
       go_wp2_with fail
       refine ⟨⟨⟨b0,b1,trivial⟩,⟨g0,trivial⟩,⟨g1,trivial⟩,⟨g2,trivial⟩,⟨g3,trivial⟩,⟨p0,trivial⟩,trivial⟩,?_⟩
       go_wp2_with fail
       refine ⟨trivial,?_⟩
       go_wp2_with fail
       refine ⟨trivial,by rfl,⟨.inr ⟨⟨rfl,.inr ⟨by kernel_rfl,by kernel_rfl⟩⟩,trivial⟩,.inr ⟨⟨rfl,.inl ⟨by kernel_rfl,rfl⟩⟩,trivial⟩,.inr ⟨⟨rfl,.inl ⟨by kernel_rfl,rfl⟩⟩,trivial⟩,.inr ⟨⟨rfl,.inl ⟨by kernel_rfl,rfl⟩⟩,trivial⟩,.inl ⟨rfl,rfl⟩,.inl ⟨rfl,rfl⟩,.inl ⟨rfl,rfl⟩,.inl ⟨rfl,rfl⟩,trivial⟩,?_⟩
       go_wp2_with fail
       go_ret
       refine ⟨zae ?_,Upd.of_below H3.out.below⟩;symm;unfold okParts;rw [zar (m+1) (by simpa using hlt) (HX.out.trans (by simp))];simp
      ·have hx1:decide (cP.fm≤pP.fm)=false:=decide_eq_false hx
       have hx2:decide (pP.fm<cP.fm)=true:=decide_eq_true (by omega);rw [hx2] at HX;have HS:=zq (fun w=>za1 hsi w)
       go_wp2_with fail
       refine (HS.out _).mono ?_;rintro e w3 ⟨rfl,rfl⟩
       go_wp2_with fail
       refine ⟨⟨⟨b0,b1,trivial⟩,⟨g0,trivial⟩,⟨g1,trivial⟩,⟨g2,trivial⟩,⟨g3,trivial⟩,⟨p0,trivial⟩,trivial⟩,?_⟩;cases si with
       | false=>
        go_wp2_with fail
        refine ⟨trivial,?_⟩
        go_wp2_with fail
        refine ⟨trivial,by rfl,⟨.inr ⟨⟨rfl,.inr ⟨by kernel_rfl,by kernel_rfl⟩⟩,trivial⟩,.inr ⟨⟨rfl,.inl ⟨by kernel_rfl,rfl⟩⟩,trivial⟩,.inr ⟨⟨rfl,.inl ⟨by kernel_rfl,rfl⟩⟩,trivial⟩,.inr ⟨⟨rfl,.inl ⟨by kernel_rfl,rfl⟩⟩,trivial⟩,.inr ⟨⟨rfl,.inl ⟨by kernel_rfl,rfl⟩⟩,trivial⟩,.inl ⟨rfl,rfl⟩,.inl ⟨rfl,rfl⟩,.inl ⟨rfl,rfl⟩,trivial⟩,?_⟩
        go_wp2_with fail
        go_ret
        refine ⟨zae ?_,Upd.of_below H3.out.below⟩;symm;unfold okParts;rw [zar (m+1) (by simpa using hlt) (HX.out.trans (by simp))];simp
       | true=>
        go_wp2_with fail
        refine (HG.out _ (Upd.of_below H3.out.below)).mono ?_;rintro e w4 ⟨rfl,hu⟩;have H4:=zq (H3.out.upd0 hu);clear hu
        go_wp2_with fail
        refine ⟨trivial,?_⟩;cases rc with
        | false=>
         go_wp2_with fail
         refine ⟨trivial,by rfl,⟨.inr ⟨⟨rfl,.inr ⟨by kernel_rfl,by kernel_rfl⟩⟩,trivial⟩,.inr ⟨⟨rfl,.inl ⟨by kernel_rfl,rfl⟩⟩,trivial⟩,.inr ⟨⟨rfl,.inl ⟨by kernel_rfl,rfl⟩⟩,trivial⟩,.inr ⟨⟨rfl,.inl ⟨by kernel_rfl,rfl⟩⟩,trivial⟩,.inr ⟨⟨rfl,.inl ⟨by kernel_rfl,rfl⟩⟩,trivial⟩,.inr ⟨⟨rfl,.inr ⟨by kernel_rfl,by kernel_rfl⟩⟩,trivial⟩,.inr ⟨⟨rfl,.inl ⟨by kernel_rfl,rfl⟩⟩,trivial⟩,.inr ⟨⟨rfl,.inl ⟨by kernel_rfl,rfl⟩⟩,trivial⟩,trivial⟩,?_⟩
         go_wp2_with fail
         go_ret
         refine ⟨zae ?_,Upd.of_below H4.out.below⟩;symm;unfold okParts;rw [zar (m+1) (by simpa using hlt) (HX.out.trans (by simp))];simp
        | true=>
         go_wp2_with fail
         refine ⟨trivial,by rfl,⟨.inr ⟨⟨rfl,.inr ⟨by kernel_rfl,by kernel_rfl⟩⟩,trivial⟩,.inr ⟨⟨rfl,.inl ⟨by kernel_rfl,rfl⟩⟩,trivial⟩,.inr ⟨⟨rfl,.inl ⟨by kernel_rfl,rfl⟩⟩,trivial⟩,.inr ⟨⟨rfl,.inl ⟨by kernel_rfl,rfl⟩⟩,trivial⟩,.inr ⟨⟨rfl,.inl ⟨by kernel_rfl,rfl⟩⟩,trivial⟩,.inr ⟨⟨rfl,.inr ⟨by kernel_rfl,by kernel_rfl⟩⟩,trivial⟩,.inr ⟨⟨rfl,.inl ⟨by kernel_rfl,rfl⟩⟩,trivial⟩,.inr ⟨⟨rfl,.inl ⟨by kernel_rfl,rfl⟩⟩,trivial⟩,trivial⟩,?_⟩
         go_wp2_with fail
         go_roundw
         case rel=>
          refine ⟨(m+1)+1,by omega,by go_num,zq (fun j hj=> ?_),zq H4.out.drop⟩;by_cases e:j=m+1
          ·subst e;exact HX.out.trans (by simp)
          ·exact HN.out j (by omega)
         case measure=>simp [intOf];omega
   ·have hkI:decide ((k:Int)<(ps.length:Int))=false:=by simp;omega
    go_wp2_with fail
    go_ret
    refine ⟨zae ?_,Upd.of_below H1.out.below⟩;symm;unfold okParts;rw [zaw (fun j hj=>HN.out j (by simp at hj;omega))];simp [hl]
 ·have hne:((ps.length:Int) !=2*(f:Int)+1)=true:=by simp;omega
  go_enter Tryz.func145,Tryz.ntmps145
  go_wp2_with fail
  refine (HQ.out _).mono ?_;rintro e w' ⟨rfl,rfl⟩
  go_wp2_with fail
  go_ret
  refine ⟨zae ?_,Upd.of_below H0.out.below⟩;symm;unfold okParts;simp [hl]
abbrev mmB (m:Mm):Obj:= .cells (mmA m) 47 (0,0)
structure MmAt (w:World) (m:Mm):Prop where
 b:Bat w m.vb m.rs
 bn:m.rs.length≤100000
 v:Vts w m.vv m.vs
 vn:m.vs.length≤100000
 c:CtsAt w m.vc m.cts
 cn:m.cts.length≤100000
 p:PtsAt w m.vp m.pts
 pn:m.pts.length≤100000
theorem MmAt.upd {w w':World} {m:Mm} (h:MmAt w m) (hu:Upd [] w w'):MmAt w' m:=⟨h.b.upd (M:=[]) hu (by simp),h.bn,h.v.upd (M:=[]) hu (by simp),h.vn,h.c.upd hu,h.cn,h.p.upd hu,h.pn⟩
theorem MmAt.form {w:World} {m:Mm} (h:MmAt w m):MmF m:=by
 obtain ⟨⟨a,k,e,-⟩,-,⟨a1,k1,e1,-⟩,-,⟨⟨a2,k2,e2,-⟩,-⟩,-,⟨⟨a3,k3,e3,-⟩,-⟩,-⟩:=h;exact ⟨⟨a,k,e⟩,⟨a1,k1,e1⟩,⟨a2,k2,e2⟩,a3,k3,e3⟩
theorem zai {w:World} {b:Nat} {m:Mm} (h:w.heap[b]?=some (mmB m)):w.cell? ⟨b,0,none⟩=some (.int .i64 m.kind)∧w.cell? ⟨b,1,none⟩=some (.int .i64 m.fm)∧w.cell? ⟨b,2,none⟩=some (.int .i64 m.view)∧w.cell? ⟨b,3,none⟩=some (.int .i64 m.inst)∧
  w.cell? ⟨b,4,none⟩=some (.int .i64 m.seq)∧w.cell? ⟨b,5,none⟩=some (.int .i64 m.res)∧w.cell? ⟨b,6,none⟩=some m.vb∧w.cell? ⟨b,7,none⟩=some m.vv∧w.cell? ⟨b,8,none⟩=some m.vc∧w.cell? ⟨b,9,none⟩=some m.vp:=
 ⟨zaa h 0 rfl,zaa h 1 rfl,zaa h 2 rfl,zaa h 3 rfl,zaa h 4 rfl,zaa h 5 rfl,zaa h 6 rfl,zaa h 7 rfl,zaa h 8 rfl,zaa h 9 rfl⟩
section
variable {w:World} {f:Nat} {cl fm view inst seq res:Int} {vb vv vc vp:Value} {rs:List Rq} {vs:Vs} {cts:List Ct} {pts:List Pt}
theorem zd0 (n a b:Int) (W:World):Calls Tryz.prog 143 #[.int .i64 n,.int .i64 a,.int .i64 b] W fun e w'=>e= .returned (.bool (inW n a b))∧Upd [] W w':=
 (za1 rfl W).mono (by rintro e w' ⟨rfl,rfl⟩;exact ⟨rfl,Upd.refl _ _⟩)
theorem zee {W:World} {b:Nat} {T:TypeId} {xs:List Int} (h:W.heap[b]?=some (.cells (xs.map (.int .i64)).toArray T (0,0))): ∀j,(hj:j<xs.length)→W.cell? ⟨b,j,none⟩=some (.int .i64 xs[j]):=by
 intro j hj;rw [zac h];simp [hj]
theorem zyx (hf1:1≤f) (hf2:f≤4) (hc1:1≤cl) (hc2:cl≤4) (h:MmAt w ⟨2,fm,view,inst,seq,res,vb,rs,vv,vs,vc,cts,vp,pts⟩):
  Calls Tryz.prog 76 #[.agg (mmA ⟨2,fm,view,inst,seq,res,vb,rs,vv,vs,vc,cts,vp,pts⟩),.int .i64 f,.int .i64 cl] w fun e w'=>e= .returned (.bool (formP f cl (Mm.ms ⟨2,fm,view,inst,seq,res,vb,rs,vv,vs,vc,cts,vp,pts⟩)))∧Upd [] w w':=by
 have HM:=zq h;have HF:=zq h.form;obtain ⟨⟨ab,kb,eb⟩,⟨av,kv,ev⟩,⟨ac,kc,ec⟩,⟨ap,kp,ep⟩⟩:=h.form;clear h;simp only at eb ev ec ep;subst eb ev ec ep;have hz:(3*(f:Int)+1==0)=false:=by simp;omega
 have HN:=zq (fun w=>za0 (f:Int) w (by omega) (by omega));have H0:Hid (Own w.heap.size w ((w.alloc (mmB ⟨2,fm,view,inst,seq,res,.slice ab rs.length kb,rs,.slice av vs.length kv,vs,.slice ac cts.length kc,cts,.slice ap pts.length kp,pts⟩)).alloc (lkO f cl)) [_,_]):=zq (((Own.start (Below.refl w.heap.size w) (Nat.le_refl _)).box (mmB ⟨2,fm,view,inst,seq,res,.slice ab rs.length kb,rs,.slice av vs.length kv,vs,.slice ac cts.length kc,cts,.slice ap pts.length kp,pts⟩)).boxAt (lkO f cl) (n:=w.heap.size+1) (by simp));have HR1:=zq (fun (W:World) (b:Nat) (hb:b<W.heap.size) (hc: ∀j,(h:j<[view,inst,seq,res].length)→W.cell? ⟨b,j,none⟩=some (.int .i64 [view,inst,seq,res][j]))=>zb8 [view,inst,seq,res] b W hb (by simp) hc);have HR2:=zq (fun W=>zoq HF.out W);have HR3:=zq (fun W (hu:Upd [] w W)=>zda f cl 1 1 _ rs W HM.out.bn (HM.out.upd hu).b);have HFP:Hid (formP f cl (Mm.ms ⟨2,fm,view,inst,seq,res,.slice ab rs.length kb,rs,.slice av vs.length kv,vs,.slice ac cts.length kc,cts,.slice ap pts.length kp,pts⟩)=(zbv f fm&&((zeros [view,inst,seq,res])&&(bareP (Mm.ms ⟨2,fm,view,inst,seq,res,.slice ab rs.length kb,rs,.slice av vs.length kv,vs,.slice ac cts.length kc,cts,.slice ap pts.length kp,pts⟩) true false false false)&&(zbm rs 1 1 cl)))):=zq rfl;generalize zeros [view,inst,seq,res]=r1 at*;generalize bareP (Mm.ms ⟨2,fm,view,inst,seq,res,.slice ab rs.length kb,rs,.slice av vs.length kv,vs,.slice ac cts.length kc,cts,.slice ap pts.length kp,pts⟩) true false false false=r2 at*;generalize zbm rs 1 1 cl=r3 at*;have HNO:=zq (fun w=>zc3 f cl fm w hf1 hf2);generalize zbv f fm=rn at*;unfold mmB lkO at H0;obtain ⟨k0,k1,k2,k3,k4,k5,k6,k7,k8,k9⟩:=zai (w:=_) (H0.out.blkAt 1 rfl);obtain ⟨z0,z1⟩:=zah (w:=_) (H0.out.blkAt 0 rfl);go_enter Tryz.func76,Tryz.ntmps76
 go_wp2_with fail
 refine (HN.out _).mono ?_;rintro e w' ⟨rfl,rfl⟩
 go_wp2_with fail
 refine (HNO.out _).mono ?_;rintro e w1 ⟨rfl,hu⟩;have H1:=zq (H0.out.upd0 hu);clear hu;clear k0 k1 k2 k3 k4 k5 k6 k7 k8 k9 z0 z1;obtain ⟨k0,k1,k2,k3,k4,k5,k6,k7,k8,k9⟩:=zai (w:=w1) (H1.out.blkAt 1 rfl);obtain ⟨z0,z1⟩:=zah (w:=w1) (H1.out.blkAt 0 rfl);cases rn with
 | false=>
  go_wp2_with fail
  go_ret
  exact ⟨zae (HFP.out.trans (by simp)).symm,Upd.of_below H1.out.below⟩
 | true=>
  go_wp2_with fail
  refine (HR1.out (w1.alloc _) w1.heap.size (by simp) (zee (heap_alloc_new w1 _))).mono ?_;rintro e w2 ⟨rfl,hu⟩;have H2:=zq ((H1.out.alloc _).upd0 hu);clear hu;clear k0 k1 k2 k3 k4 k5 k6 k7 k8 k9 z0 z1;obtain ⟨k0,k1,k2,k3,k4,k5,k6,k7,k8,k9⟩:=zai (w:=w2) (H2.out.blkAt 1 rfl);obtain ⟨z0,z1⟩:=zah (w:=w2) (H2.out.blkAt 0 rfl);cases r1 with
  | false=>
   go_wp2_with fail
   go_ret
   exact ⟨zae (HFP.out.trans (by simp)).symm,Upd.of_below H2.out.below⟩
  | true=>
   go_wp2_with fail
   refine (HR2.out _).mono ?_;rintro e w3 ⟨rfl,hu⟩;have H3:=zq (H2.out.upd0 hu);clear hu;clear k0 k1 k2 k3 k4 k5 k6 k7 k8 k9 z0 z1;obtain ⟨k0,k1,k2,k3,k4,k5,k6,k7,k8,k9⟩:=zai (w:=w3) (H3.out.blkAt 1 rfl);obtain ⟨z0,z1⟩:=zah (w:=w3) (H3.out.blkAt 0 rfl);cases r2 with
   | false=>
    go_wp2_with fail
    go_ret
    exact ⟨zae (HFP.out.trans (by simp)).symm,Upd.of_below H3.out.below⟩
   | true=>
    go_wp2_with fail
    refine (HR3.out _ (Upd.of_below H3.out.below)).mono ?_;rintro e w4 ⟨rfl,hu⟩;have H4:=zq (H3.out.upd0 hu);clear hu;clear k0 k1 k2 k3 k4 k5 k6 k7 k8 k9 z0 z1;obtain ⟨k0,k1,k2,k3,k4,k5,k6,k7,k8,k9⟩:=zai (w:=w4) (H4.out.blkAt 1 rfl);obtain ⟨z0,z1⟩:=zah (w:=w4) (H4.out.blkAt 0 rfl)
    go_wp2_with fail
    go_ret
    exact ⟨zae (HFP.out.trans (by simp)).symm,Upd.of_below H4.out.below⟩
theorem zui (hf1:1≤f) (hf2:f≤4) (hc1:1≤cl) (hc2:cl≤4) (h:MmAt w ⟨4,fm,view,inst,seq,res,vb,rs,vv,vs,vc,cts,vp,pts⟩):
  Calls Tryz.prog 76 #[.agg (mmA ⟨4,fm,view,inst,seq,res,vb,rs,vv,vs,vc,cts,vp,pts⟩),.int .i64 f,.int .i64 cl] w fun e w'=>e= .returned (.bool (formP f cl (Mm.ms ⟨4,fm,view,inst,seq,res,vb,rs,vv,vs,vc,cts,vp,pts⟩)))∧Upd [] w w':=by
 have HM:=zq h;have HF:=zq h.form;obtain ⟨⟨ab,kb,eb⟩,⟨av,kv,ev⟩,⟨ac,kc,ec⟩,⟨ap,kp,ep⟩⟩:=h.form;clear h;simp only at eb ev ec ep;subst eb ev ec ep;have hz:(3*(f:Int)+1==0)=false:=by simp;omega
 have HN:=zq (fun w=>za0 (f:Int) w (by omega) (by omega));have H0:Hid (Own w.heap.size w ((w.alloc (mmB ⟨4,fm,view,inst,seq,res,.slice ab rs.length kb,rs,.slice av vs.length kv,vs,.slice ac cts.length kc,cts,.slice ap pts.length kp,pts⟩)).alloc (lkO f cl)) [_,_]):=zq (((Own.start (Below.refl w.heap.size w) (Nat.le_refl _)).box (mmB ⟨4,fm,view,inst,seq,res,.slice ab rs.length kb,rs,.slice av vs.length kv,vs,.slice ac cts.length kc,cts,.slice ap pts.length kp,pts⟩)).boxAt (lkO f cl) (n:=w.heap.size+1) (by simp));have HR2:=zq (fun W=>zoq HF.out W);have HR3:=zq (fun W=>zfh f cl view inst seq W);have HR4:=zq (fun W (hu:Upd [] w W)=>zda f cl 0 4 _ rs W HM.out.bn (HM.out.upd hu).b);have HFP:Hid (formP f cl (Mm.ms ⟨4,fm,view,inst,seq,res,.slice ab rs.length kb,rs,.slice av vs.length kv,vs,.slice ac cts.length kc,cts,.slice ap pts.length kp,pts⟩)=(zbv f fm&&(((res==0))&&(bareP (Mm.ms ⟨4,fm,view,inst,seq,res,.slice ab rs.length kb,rs,.slice av vs.length kv,vs,.slice ac cts.length kc,cts,.slice ap pts.length kp,pts⟩) true false false false)&&(zce f view inst seq)&&(zbm rs 0 4 cl)))):=zq rfl;generalize hr1:(res==0)=r1 at*;generalize bareP (Mm.ms ⟨4,fm,view,inst,seq,res,.slice ab rs.length kb,rs,.slice av vs.length kv,vs,.slice ac cts.length kc,cts,.slice ap pts.length kp,pts⟩) true false false false=r2 at*;generalize zce f view inst seq=r3 at*;generalize zbm rs 0 4 cl=r4 at*;have HNO:=zq (fun w=>zc3 f cl fm w hf1 hf2);generalize zbv f fm=rn at*;unfold mmB lkO at H0;obtain ⟨k0,k1,k2,k3,k4,k5,k6,k7,k8,k9⟩:=zai (w:=_) (H0.out.blkAt 1 rfl);obtain ⟨z0,z1⟩:=zah (w:=_) (H0.out.blkAt 0 rfl);go_enter Tryz.func76,Tryz.ntmps76
 go_wp2_with fail
 refine (HN.out _).mono ?_;rintro e w' ⟨rfl,rfl⟩
 go_wp2_with fail
 refine (HNO.out _).mono ?_;rintro e w1 ⟨rfl,hu⟩;have H1:=zq (H0.out.upd0 hu);clear hu;clear k0 k1 k2 k3 k4 k5 k6 k7 k8 k9 z0 z1;obtain ⟨k0,k1,k2,k3,k4,k5,k6,k7,k8,k9⟩:=zai (w:=w1) (H1.out.blkAt 1 rfl);obtain ⟨z0,z1⟩:=zah (w:=w1) (H1.out.blkAt 0 rfl);cases rn with
 | false=>
  go_wp2_with fail
  go_ret
  exact ⟨zae (HFP.out.trans (by simp)).symm,Upd.of_below H1.out.below⟩
 | true=>
  cases r1 with
  | false=>
   go_wp2_with fail
   go_ret
   exact ⟨zae (HFP.out.trans (by simp)).symm,Upd.of_below H1.out.below⟩
  | true=>
   go_wp2_with fail
   refine (HR2.out _).mono ?_;rintro e w2 ⟨rfl,hu⟩;have H2:=zq (H1.out.upd0 hu);clear hu;clear k0 k1 k2 k3 k4 k5 k6 k7 k8 k9 z0 z1;obtain ⟨k0,k1,k2,k3,k4,k5,k6,k7,k8,k9⟩:=zai (w:=w2) (H2.out.blkAt 1 rfl);obtain ⟨z0,z1⟩:=zah (w:=w2) (H2.out.blkAt 0 rfl);cases r2 with
   | false=>
    go_wp2_with fail
    go_ret
    exact ⟨zae (HFP.out.trans (by simp)).symm,Upd.of_below H2.out.below⟩
   | true=>
    go_wp2_with fail
    refine (HR3.out _).mono ?_;rintro e w3 ⟨rfl,hu⟩;have H3:=zq (H2.out.upd0 hu);clear hu;clear k0 k1 k2 k3 k4 k5 k6 k7 k8 k9 z0 z1;obtain ⟨k0,k1,k2,k3,k4,k5,k6,k7,k8,k9⟩:=zai (w:=w3) (H3.out.blkAt 1 rfl);obtain ⟨z0,z1⟩:=zah (w:=w3) (H3.out.blkAt 0 rfl);cases r3 with
    | false=>
     go_wp2_with fail
     go_ret
     exact ⟨zae (HFP.out.trans (by simp)).symm,Upd.of_below H3.out.below⟩
    | true=>
     go_wp2_with fail
     refine (HR4.out _ (Upd.of_below H3.out.below)).mono ?_;rintro e w4 ⟨rfl,hu⟩;have H4:=zq (H3.out.upd0 hu);clear hu;clear k0 k1 k2 k3 k4 k5 k6 k7 k8 k9 z0 z1;obtain ⟨k0,k1,k2,k3,k4,k5,k6,k7,k8,k9⟩:=zai (w:=w4) (H4.out.blkAt 1 rfl);obtain ⟨z0,z1⟩:=zah (w:=w4) (H4.out.blkAt 0 rfl)
     go_wp2_with fail
     go_ret
     exact ⟨zae (HFP.out.trans (by simp)).symm,Upd.of_below H4.out.below⟩
theorem zuh (hf1:1≤f) (hf2:f≤4) (hc1:1≤cl) (hc2:cl≤4) (h:MmAt w ⟨5,fm,view,inst,seq,res,vb,rs,vv,vs,vc,cts,vp,pts⟩):
  Calls Tryz.prog 76 #[.agg (mmA ⟨5,fm,view,inst,seq,res,vb,rs,vv,vs,vc,cts,vp,pts⟩),.int .i64 f,.int .i64 cl] w fun e w'=>e= .returned (.bool (formP f cl (Mm.ms ⟨5,fm,view,inst,seq,res,vb,rs,vv,vs,vc,cts,vp,pts⟩)))∧Upd [] w w':=by
 have HM:=zq h;have HF:=zq h.form;obtain ⟨⟨ab,kb,eb⟩,⟨av,kv,ev⟩,⟨ac,kc,ec⟩,⟨ap,kp,ep⟩⟩:=h.form;clear h;simp only at eb ev ec ep;subst eb ev ec ep;have hz:(3*(f:Int)+1==0)=false:=by simp;omega
 have HN:=zq (fun w=>za0 (f:Int) w (by omega) (by omega));have H0:Hid (Own w.heap.size w ((w.alloc (mmB ⟨5,fm,view,inst,seq,res,.slice ab rs.length kb,rs,.slice av vs.length kv,vs,.slice ac cts.length kc,cts,.slice ap pts.length kp,pts⟩)).alloc (lkO f cl)) [_,_]):=zq (((Own.start (Below.refl w.heap.size w) (Nat.le_refl _)).box (mmB ⟨5,fm,view,inst,seq,res,.slice ab rs.length kb,rs,.slice av vs.length kv,vs,.slice ac cts.length kc,cts,.slice ap pts.length kp,pts⟩)).boxAt (lkO f cl) (n:=w.heap.size+1) (by simp));have HR2:=zq (fun W=>zoq HF.out W);have HR3:=zq (fun W=>zfh f cl view inst seq W);have HR4:=zq (fun W (hu:Upd [] w W)=>zda f cl 0 4 _ rs W HM.out.bn (HM.out.upd hu).b);have HFP:Hid (formP f cl (Mm.ms ⟨5,fm,view,inst,seq,res,.slice ab rs.length kb,rs,.slice av vs.length kv,vs,.slice ac cts.length kc,cts,.slice ap pts.length kp,pts⟩)=(zbv f fm&&(((res==0))&&(bareP (Mm.ms ⟨5,fm,view,inst,seq,res,.slice ab rs.length kb,rs,.slice av vs.length kv,vs,.slice ac cts.length kc,cts,.slice ap pts.length kp,pts⟩) true false false false)&&(zce f view inst seq)&&(zbm rs 0 4 cl)))):=zq rfl;generalize hr1:(res==0)=r1 at*;generalize bareP (Mm.ms ⟨5,fm,view,inst,seq,res,.slice ab rs.length kb,rs,.slice av vs.length kv,vs,.slice ac cts.length kc,cts,.slice ap pts.length kp,pts⟩) true false false false=r2 at*;generalize zce f view inst seq=r3 at*;generalize zbm rs 0 4 cl=r4 at*;have HNO:=zq (fun w=>zc3 f cl fm w hf1 hf2);generalize zbv f fm=rn at*;unfold mmB lkO at H0;obtain ⟨k0,k1,k2,k3,k4,k5,k6,k7,k8,k9⟩:=zai (w:=_) (H0.out.blkAt 1 rfl);obtain ⟨z0,z1⟩:=zah (w:=_) (H0.out.blkAt 0 rfl);go_enter Tryz.func76,Tryz.ntmps76
 go_wp2_with fail
 refine (HN.out _).mono ?_;rintro e w' ⟨rfl,rfl⟩
 go_wp2_with fail
 refine (HNO.out _).mono ?_;rintro e w1 ⟨rfl,hu⟩;have H1:=zq (H0.out.upd0 hu);clear hu;clear k0 k1 k2 k3 k4 k5 k6 k7 k8 k9 z0 z1;obtain ⟨k0,k1,k2,k3,k4,k5,k6,k7,k8,k9⟩:=zai (w:=w1) (H1.out.blkAt 1 rfl);obtain ⟨z0,z1⟩:=zah (w:=w1) (H1.out.blkAt 0 rfl);cases rn with
 | false=>
  go_wp2_with fail
  go_ret
  exact ⟨zae (HFP.out.trans (by simp)).symm,Upd.of_below H1.out.below⟩
 | true=>
  cases r1 with
  | false=>
   go_wp2_with fail
   go_ret
   exact ⟨zae (HFP.out.trans (by simp)).symm,Upd.of_below H1.out.below⟩
  | true=>
   go_wp2_with fail
   refine (HR2.out _).mono ?_;rintro e w2 ⟨rfl,hu⟩;have H2:=zq (H1.out.upd0 hu);clear hu;clear k0 k1 k2 k3 k4 k5 k6 k7 k8 k9 z0 z1;obtain ⟨k0,k1,k2,k3,k4,k5,k6,k7,k8,k9⟩:=zai (w:=w2) (H2.out.blkAt 1 rfl);obtain ⟨z0,z1⟩:=zah (w:=w2) (H2.out.blkAt 0 rfl);cases r2 with
   | false=>
    go_wp2_with fail
    go_ret
    exact ⟨zae (HFP.out.trans (by simp)).symm,Upd.of_below H2.out.below⟩
   | true=>
    go_wp2_with fail
    refine (HR3.out _).mono ?_;rintro e w3 ⟨rfl,hu⟩;have H3:=zq (H2.out.upd0 hu);clear hu;clear k0 k1 k2 k3 k4 k5 k6 k7 k8 k9 z0 z1;obtain ⟨k0,k1,k2,k3,k4,k5,k6,k7,k8,k9⟩:=zai (w:=w3) (H3.out.blkAt 1 rfl);obtain ⟨z0,z1⟩:=zah (w:=w3) (H3.out.blkAt 0 rfl);cases r3 with
    | false=>
     go_wp2_with fail
     go_ret
     exact ⟨zae (HFP.out.trans (by simp)).symm,Upd.of_below H3.out.below⟩
    | true=>
     go_wp2_with fail
     refine (HR4.out _ (Upd.of_below H3.out.below)).mono ?_;rintro e w4 ⟨rfl,hu⟩;have H4:=zq (H3.out.upd0 hu);clear hu;clear k0 k1 k2 k3 k4 k5 k6 k7 k8 k9 z0 z1;obtain ⟨k0,k1,k2,k3,k4,k5,k6,k7,k8,k9⟩:=zai (w:=w4) (H4.out.blkAt 1 rfl);obtain ⟨z0,z1⟩:=zah (w:=w4) (H4.out.blkAt 0 rfl)
     go_wp2_with fail
     go_ret
     exact ⟨zae (HFP.out.trans (by simp)).symm,Upd.of_below H4.out.below⟩
theorem zyv (hf1:1≤f) (hf2:f≤4) (hc1:1≤cl) (hc2:cl≤4) (h:MmAt w ⟨6,fm,view,inst,seq,res,vb,rs,vv,vs,vc,cts,vp,pts⟩):
  Calls Tryz.prog 76 #[.agg (mmA ⟨6,fm,view,inst,seq,res,vb,rs,vv,vs,vc,cts,vp,pts⟩),.int .i64 f,.int .i64 cl] w fun e w'=>e= .returned (.bool (formP f cl (Mm.ms ⟨6,fm,view,inst,seq,res,vb,rs,vv,vs,vc,cts,vp,pts⟩)))∧Upd [] w w':=by
 have HM:=zq h;have HF:=zq h.form;obtain ⟨⟨ab,kb,eb⟩,⟨av,kv,ev⟩,⟨ac,kc,ec⟩,⟨ap,kp,ep⟩⟩:=h.form;clear h;simp only at eb ev ec ep;subst eb ev ec ep;have hz:(3*(f:Int)+1==0)=false:=by simp;omega
 have HN:=zq (fun w=>za0 (f:Int) w (by omega) (by omega));have H0:Hid (Own w.heap.size w ((w.alloc (mmB ⟨6,fm,view,inst,seq,res,.slice ab rs.length kb,rs,.slice av vs.length kv,vs,.slice ac cts.length kc,cts,.slice ap pts.length kp,pts⟩)).alloc (lkO f cl)) [_,_]):=zq (((Own.start (Below.refl w.heap.size w) (Nat.le_refl _)).box (mmB ⟨6,fm,view,inst,seq,res,.slice ab rs.length kb,rs,.slice av vs.length kv,vs,.slice ac cts.length kc,cts,.slice ap pts.length kp,pts⟩)).boxAt (lkO f cl) (n:=w.heap.size+1) (by simp));have HR1:=zq (fun (W:World) (b:Nat) (hb:b<W.heap.size) (hc: ∀j,(h:j<[inst,seq,res].length)→W.cell? ⟨b,j,none⟩=some (.int .i64 [inst,seq,res][j]))=>zb8 [inst,seq,res] b W hb (by simp) hc);have HR2:=zq (fun W=>zm9 HF.out W);have HR3:=zq (fun W=>zd0 view 0 11 W);have HFP:Hid (formP f cl (Mm.ms ⟨6,fm,view,inst,seq,res,.slice ab rs.length kb,rs,.slice av vs.length kv,vs,.slice ac cts.length kc,cts,.slice ap pts.length kp,pts⟩)=(zbv f fm&&((zeros [inst,seq,res])&&(bareP (Mm.ms ⟨6,fm,view,inst,seq,res,.slice ab rs.length kb,rs,.slice av vs.length kv,vs,.slice ac cts.length kc,cts,.slice ap pts.length kp,pts⟩) false false false false)&&(inW view 0 11)))):=zq rfl;generalize zeros [inst,seq,res]=r1 at*;generalize bareP (Mm.ms ⟨6,fm,view,inst,seq,res,.slice ab rs.length kb,rs,.slice av vs.length kv,vs,.slice ac cts.length kc,cts,.slice ap pts.length kp,pts⟩) false false false false=r2 at*;generalize inW view 0 11=r3 at*;have HNO:=zq (fun w=>zc3 f cl fm w hf1 hf2);generalize zbv f fm=rn at*;unfold mmB lkO at H0;obtain ⟨k0,k1,k2,k3,k4,k5,k6,k7,k8,k9⟩:=zai (w:=_) (H0.out.blkAt 1 rfl);obtain ⟨z0,z1⟩:=zah (w:=_) (H0.out.blkAt 0 rfl);go_enter Tryz.func76,Tryz.ntmps76
 go_wp2_with fail
 refine (HN.out _).mono ?_;rintro e w' ⟨rfl,rfl⟩
 go_wp2_with fail
 refine (HNO.out _).mono ?_;rintro e w1 ⟨rfl,hu⟩;have H1:=zq (H0.out.upd0 hu);clear hu;clear k0 k1 k2 k3 k4 k5 k6 k7 k8 k9 z0 z1;obtain ⟨k0,k1,k2,k3,k4,k5,k6,k7,k8,k9⟩:=zai (w:=w1) (H1.out.blkAt 1 rfl);obtain ⟨z0,z1⟩:=zah (w:=w1) (H1.out.blkAt 0 rfl);cases rn with
 | false=>
  go_wp2_with fail
  go_ret
  exact ⟨zae (HFP.out.trans (by simp)).symm,Upd.of_below H1.out.below⟩
 | true=>
  go_wp2_with fail
  refine (HR1.out (w1.alloc _) w1.heap.size (by simp) (zee (heap_alloc_new w1 _))).mono ?_;rintro e w2 ⟨rfl,hu⟩;have H2:=zq ((H1.out.alloc _).upd0 hu);clear hu;clear k0 k1 k2 k3 k4 k5 k6 k7 k8 k9 z0 z1;obtain ⟨k0,k1,k2,k3,k4,k5,k6,k7,k8,k9⟩:=zai (w:=w2) (H2.out.blkAt 1 rfl);obtain ⟨z0,z1⟩:=zah (w:=w2) (H2.out.blkAt 0 rfl);cases r1 with
  | false=>
   go_wp2_with fail
   go_ret
   exact ⟨zae (HFP.out.trans (by simp)).symm,Upd.of_below H2.out.below⟩
  | true=>
   go_wp2_with fail
   refine (HR2.out _).mono ?_;rintro e w3 ⟨rfl,hu⟩;have H3:=zq (H2.out.upd0 hu);clear hu;clear k0 k1 k2 k3 k4 k5 k6 k7 k8 k9 z0 z1;obtain ⟨k0,k1,k2,k3,k4,k5,k6,k7,k8,k9⟩:=zai (w:=w3) (H3.out.blkAt 1 rfl);obtain ⟨z0,z1⟩:=zah (w:=w3) (H3.out.blkAt 0 rfl);cases r2 with
   | false=>
    go_wp2_with fail
    go_ret
    exact ⟨zae (HFP.out.trans (by simp)).symm,Upd.of_below H3.out.below⟩
   | true=>
    go_wp2_with fail
    refine (HR3.out _).mono ?_;rintro e w4 ⟨rfl,hu⟩;have H4:=zq (H3.out.upd0 hu);clear hu;clear k0 k1 k2 k3 k4 k5 k6 k7 k8 k9 z0 z1;obtain ⟨k0,k1,k2,k3,k4,k5,k6,k7,k8,k9⟩:=zai (w:=w4) (H4.out.blkAt 1 rfl);obtain ⟨z0,z1⟩:=zah (w:=w4) (H4.out.blkAt 0 rfl)
    go_wp2_with fail
    go_ret
    exact ⟨zae (HFP.out.trans (by simp)).symm,Upd.of_below H4.out.below⟩
theorem zqz (hf1:1≤f) (hf2:f≤4) (hc1:1≤cl) (hc2:cl≤4) (h:MmAt w ⟨7,fm,view,inst,seq,res,vb,rs,vv,vs,vc,cts,vp,pts⟩):
  Calls Tryz.prog 76 #[.agg (mmA ⟨7,fm,view,inst,seq,res,vb,rs,vv,vs,vc,cts,vp,pts⟩),.int .i64 f,.int .i64 cl] w fun e w'=>e= .returned (.bool (formP f cl (Mm.ms ⟨7,fm,view,inst,seq,res,vb,rs,vv,vs,vc,cts,vp,pts⟩)))∧Upd [] w w':=by
 have HM:=zq h;have HF:=zq h.form;obtain ⟨⟨ab,kb,eb⟩,⟨av,kv,ev⟩,⟨ac,kc,ec⟩,⟨ap,kp,ep⟩⟩:=h.form;clear h;simp only at eb ev ec ep;subst eb ev ec ep;have hz:(3*(f:Int)+1==0)=false:=by simp;omega
 have HN:=zq (fun w=>za0 (f:Int) w (by omega) (by omega));have H0:Hid (Own w.heap.size w ((w.alloc (mmB ⟨7,fm,view,inst,seq,res,.slice ab rs.length kb,rs,.slice av vs.length kv,vs,.slice ac cts.length kc,cts,.slice ap pts.length kp,pts⟩)).alloc (lkO f cl)) [_,_]):=zq (((Own.start (Below.refl w.heap.size w) (Nat.le_refl _)).box (mmB ⟨7,fm,view,inst,seq,res,.slice ab rs.length kb,rs,.slice av vs.length kv,vs,.slice ac cts.length kc,cts,.slice ap pts.length kp,pts⟩)).boxAt (lkO f cl) (n:=w.heap.size+1) (by simp));have HR1:=zq (fun (W:World) (b:Nat) (hb:b<W.heap.size) (hc: ∀j,(h:j<[inst,seq,res].length)→W.cell? ⟨b,j,none⟩=some (.int .i64 [inst,seq,res][j]))=>zb8 [inst,seq,res] b W hb (by simp) hc);have HR2:=zq (fun W=>bare_vc HF.out W);have HR3:=zq (fun W (hu:Upd [] w W)=>zh8 f cl view _ vs _ cts W hf1 hf2 HM.out.vn (HM.out.upd hu).v HM.out.cn (HM.out.upd hu).c);have HFP:Hid (formP f cl (Mm.ms ⟨7,fm,view,inst,seq,res,.slice ab rs.length kb,rs,.slice av vs.length kv,vs,.slice ac cts.length kc,cts,.slice ap pts.length kp,pts⟩)=(zbv f fm&&((zeros [inst,seq,res])&&(bareP (Mm.ms ⟨7,fm,view,inst,seq,res,.slice ab rs.length kb,rs,.slice av vs.length kv,vs,.slice ac cts.length kc,cts,.slice ap pts.length kp,pts⟩) false true true false)&&(zc4 f cl view vs (cts.map Ct.cp))))):=zq rfl;generalize zeros [inst,seq,res]=r1 at*;generalize bareP (Mm.ms ⟨7,fm,view,inst,seq,res,.slice ab rs.length kb,rs,.slice av vs.length kv,vs,.slice ac cts.length kc,cts,.slice ap pts.length kp,pts⟩) false true true false=r2 at*;generalize zc4 f cl view vs (cts.map Ct.cp)=r3 at*;have HNO:=zq (fun w=>zc3 f cl fm w hf1 hf2);generalize zbv f fm=rn at*;unfold mmB lkO at H0;obtain ⟨k0,k1,k2,k3,k4,k5,k6,k7,k8,k9⟩:=zai (w:=_) (H0.out.blkAt 1 rfl);obtain ⟨z0,z1⟩:=zah (w:=_) (H0.out.blkAt 0 rfl);go_enter Tryz.func76,Tryz.ntmps76
 go_wp2_with fail
 refine (HN.out _).mono ?_;rintro e w' ⟨rfl,rfl⟩
 go_wp2_with fail
 refine (HNO.out _).mono ?_;rintro e w1 ⟨rfl,hu⟩;have H1:=zq (H0.out.upd0 hu);clear hu;clear k0 k1 k2 k3 k4 k5 k6 k7 k8 k9 z0 z1;obtain ⟨k0,k1,k2,k3,k4,k5,k6,k7,k8,k9⟩:=zai (w:=w1) (H1.out.blkAt 1 rfl);obtain ⟨z0,z1⟩:=zah (w:=w1) (H1.out.blkAt 0 rfl);cases rn with
 | false=>
  go_wp2_with fail
  go_ret
  exact ⟨zae (HFP.out.trans (by simp)).symm,Upd.of_below H1.out.below⟩
 | true=>
  go_wp2_with fail
  refine (HR1.out (w1.alloc _) w1.heap.size (by simp) (zee (heap_alloc_new w1 _))).mono ?_;rintro e w2 ⟨rfl,hu⟩;have H2:=zq ((H1.out.alloc _).upd0 hu);clear hu;clear k0 k1 k2 k3 k4 k5 k6 k7 k8 k9 z0 z1;obtain ⟨k0,k1,k2,k3,k4,k5,k6,k7,k8,k9⟩:=zai (w:=w2) (H2.out.blkAt 1 rfl);obtain ⟨z0,z1⟩:=zah (w:=w2) (H2.out.blkAt 0 rfl);cases r1 with
  | false=>
   go_wp2_with fail
   go_ret
   exact ⟨zae (HFP.out.trans (by simp)).symm,Upd.of_below H2.out.below⟩
  | true=>
   go_wp2_with fail
   refine (HR2.out _).mono ?_;rintro e w3 ⟨rfl,hu⟩;have H3:=zq (H2.out.upd0 hu);clear hu;clear k0 k1 k2 k3 k4 k5 k6 k7 k8 k9 z0 z1;obtain ⟨k0,k1,k2,k3,k4,k5,k6,k7,k8,k9⟩:=zai (w:=w3) (H3.out.blkAt 1 rfl);obtain ⟨z0,z1⟩:=zah (w:=w3) (H3.out.blkAt 0 rfl);cases r2 with
   | false=>
    go_wp2_with fail
    go_ret
    exact ⟨zae (HFP.out.trans (by simp)).symm,Upd.of_below H3.out.below⟩
   | true=>
    go_wp2_with fail
    refine (HR3.out _ (Upd.of_below H3.out.below)).mono ?_;rintro e w4 ⟨rfl,hu⟩;have H4:=zq (H3.out.upd0 hu);clear hu;clear k0 k1 k2 k3 k4 k5 k6 k7 k8 k9 z0 z1;obtain ⟨k0,k1,k2,k3,k4,k5,k6,k7,k8,k9⟩:=zai (w:=w4) (H4.out.blkAt 1 rfl);obtain ⟨z0,z1⟩:=zah (w:=w4) (H4.out.blkAt 0 rfl)
    go_wp2_with fail
    go_ret
    exact ⟨zae (HFP.out.trans (by simp)).symm,Upd.of_below H4.out.below⟩
theorem zyw (hf1:1≤f) (hf2:f≤4) (hc1:1≤cl) (hc2:cl≤4) (h:MmAt w ⟨10,fm,view,inst,seq,res,vb,rs,vv,vs,vc,cts,vp,pts⟩):
  Calls Tryz.prog 76 #[.agg (mmA ⟨10,fm,view,inst,seq,res,vb,rs,vv,vs,vc,cts,vp,pts⟩),.int .i64 f,.int .i64 cl] w fun e w'=>e= .returned (.bool (formP f cl (Mm.ms ⟨10,fm,view,inst,seq,res,vb,rs,vv,vs,vc,cts,vp,pts⟩)))∧Upd [] w w':=by
 have HM:=zq h;have HF:=zq h.form;obtain ⟨⟨ab,kb,eb⟩,⟨av,kv,ev⟩,⟨ac,kc,ec⟩,⟨ap,kp,ep⟩⟩:=h.form;clear h;simp only at eb ev ec ep;subst eb ev ec ep;have hz:(3*(f:Int)+1==0)=false:=by simp;omega
 have HN:=zq (fun w=>za0 (f:Int) w (by omega) (by omega));have H0:Hid (Own w.heap.size w ((w.alloc (mmB ⟨10,fm,view,inst,seq,res,.slice ab rs.length kb,rs,.slice av vs.length kv,vs,.slice ac cts.length kc,cts,.slice ap pts.length kp,pts⟩)).alloc (lkO f cl)) [_,_]):=zq (((Own.start (Below.refl w.heap.size w) (Nat.le_refl _)).box (mmB ⟨10,fm,view,inst,seq,res,.slice ab rs.length kb,rs,.slice av vs.length kv,vs,.slice ac cts.length kc,cts,.slice ap pts.length kp,pts⟩)).boxAt (lkO f cl) (n:=w.heap.size+1) (by simp));have HR2:=zq (fun W=>zm9 HF.out W);have HR3:=zq (fun W=>zd0 inst 0 (cl-1) W);have HR4:=zq (fun W=>zd0 seq 1 1048576 W);have HR5:=zq (fun W=>zd0 res (-549755813887) 549755813887 W);have HFP:Hid (formP f cl (Mm.ms ⟨10,fm,view,inst,seq,res,.slice ab rs.length kb,rs,.slice av vs.length kv,vs,.slice ac cts.length kc,cts,.slice ap pts.length kp,pts⟩)=(zbv f fm&&(((view==0))&&(bareP (Mm.ms ⟨10,fm,view,inst,seq,res,.slice ab rs.length kb,rs,.slice av vs.length kv,vs,.slice ac cts.length kc,cts,.slice ap pts.length kp,pts⟩) false false false false)&&(inW inst 0 (cl-1))&&(inW seq 1 1048576)&&(inW res (-549755813887) 549755813887)))):=zq rfl;generalize hr1:(view==0)=r1 at*;generalize bareP (Mm.ms ⟨10,fm,view,inst,seq,res,.slice ab rs.length kb,rs,.slice av vs.length kv,vs,.slice ac cts.length kc,cts,.slice ap pts.length kp,pts⟩) false false false false=r2 at*;generalize inW inst 0 (cl-1)=r3 at*;generalize inW seq 1 1048576=r4 at*;generalize inW res (-549755813887) 549755813887=r5 at*;have HNO:=zq (fun w=>zc3 f cl fm w hf1 hf2);generalize zbv f fm=rn at*;unfold mmB lkO at H0;obtain ⟨k0,k1,k2,k3,k4,k5,k6,k7,k8,k9⟩:=zai (w:=_) (H0.out.blkAt 1 rfl);obtain ⟨z0,z1⟩:=zah (w:=_) (H0.out.blkAt 0 rfl);go_enter Tryz.func76,Tryz.ntmps76
 go_wp2_with fail
 refine (HN.out _).mono ?_;rintro e w' ⟨rfl,rfl⟩
 go_wp2_with fail
 refine (HNO.out _).mono ?_;rintro e w1 ⟨rfl,hu⟩;have H1:=zq (H0.out.upd0 hu);clear hu;clear k0 k1 k2 k3 k4 k5 k6 k7 k8 k9 z0 z1;obtain ⟨k0,k1,k2,k3,k4,k5,k6,k7,k8,k9⟩:=zai (w:=w1) (H1.out.blkAt 1 rfl);obtain ⟨z0,z1⟩:=zah (w:=w1) (H1.out.blkAt 0 rfl);cases rn with
 | false=>
  go_wp2_with fail
  go_ret
  exact ⟨zae (HFP.out.trans (by simp)).symm,Upd.of_below H1.out.below⟩
 | true=>
  cases r1 with
  | false=>
   go_wp2_with fail
   go_ret
   exact ⟨zae (HFP.out.trans (by simp)).symm,Upd.of_below H1.out.below⟩
  | true=>
   go_wp2_with fail
   refine (HR2.out _).mono ?_;rintro e w2 ⟨rfl,hu⟩;have H2:=zq (H1.out.upd0 hu);clear hu;clear k0 k1 k2 k3 k4 k5 k6 k7 k8 k9 z0 z1;obtain ⟨k0,k1,k2,k3,k4,k5,k6,k7,k8,k9⟩:=zai (w:=w2) (H2.out.blkAt 1 rfl);obtain ⟨z0,z1⟩:=zah (w:=w2) (H2.out.blkAt 0 rfl);cases r2 with
   | false=>
    go_wp2_with fail
    go_ret
    exact ⟨zae (HFP.out.trans (by simp)).symm,Upd.of_below H2.out.below⟩
   | true=>
    go_wp2_with fail
    refine (HR3.out _).mono ?_;rintro e w3 ⟨rfl,hu⟩;have H3:=zq (H2.out.upd0 hu);clear hu;clear k0 k1 k2 k3 k4 k5 k6 k7 k8 k9 z0 z1;obtain ⟨k0,k1,k2,k3,k4,k5,k6,k7,k8,k9⟩:=zai (w:=w3) (H3.out.blkAt 1 rfl);obtain ⟨z0,z1⟩:=zah (w:=w3) (H3.out.blkAt 0 rfl);cases r3 with
    | false=>
     go_wp2_with fail
     go_ret
     exact ⟨zae (HFP.out.trans (by simp)).symm,Upd.of_below H3.out.below⟩
    | true=>
     go_wp2_with fail
     refine (HR4.out _).mono ?_;rintro e w4 ⟨rfl,hu⟩;have H4:=zq (H3.out.upd0 hu);clear hu;clear k0 k1 k2 k3 k4 k5 k6 k7 k8 k9 z0 z1;obtain ⟨k0,k1,k2,k3,k4,k5,k6,k7,k8,k9⟩:=zai (w:=w4) (H4.out.blkAt 1 rfl);obtain ⟨z0,z1⟩:=zah (w:=w4) (H4.out.blkAt 0 rfl);cases r4 with
     | false=>
      go_wp2_with fail
      go_ret
      exact ⟨zae (HFP.out.trans (by simp)).symm,Upd.of_below H4.out.below⟩
     | true=>
      go_wp2_with fail
      refine (HR5.out _).mono ?_;rintro e w5 ⟨rfl,hu⟩;have H5:=zq (H4.out.upd0 hu);clear hu;clear k0 k1 k2 k3 k4 k5 k6 k7 k8 k9 z0 z1;obtain ⟨k0,k1,k2,k3,k4,k5,k6,k7,k8,k9⟩:=zai (w:=w5) (H5.out.blkAt 1 rfl);obtain ⟨z0,z1⟩:=zah (w:=w5) (H5.out.blkAt 0 rfl)
      go_wp2_with fail
      go_ret
      exact ⟨zae (HFP.out.trans (by simp)).symm,Upd.of_below H5.out.below⟩
end
end Go.Proofs.YtannckelmojkoaaGreat
