/- Parts of the proof, one behind the other. -/
import Derived.Test.YtannckelmojkoaaGreatAgnB16
import Derived.Maps.AppendAt
import Derived.Test.YtannckelmojkoaaGreatRows
import Derived.Test.YtannckelmojkoaaGreatChecked
import Derived.JoinedOf
set_option maxHeartbeats 32000000
set_option maxRecDepth 100000
set_option linter.unusedVariables false
set_option linter.unusedSimpArgs false
namespace Go.Proofs.YtannckelmojkoaaGreat
open Go.RowKit Go.Heap
section
variable {B:Nat} {w0 w W:World} {ss:List Res} {p gd nt t ia ic i0 i1 tbb bgb mgb mtb:Nat} {fl sh id now st u bd sl sht fu:Int} {vt bk pt v2 v3 cv:Value}
theorem clk_two (h0:0≤now) (h1:now≤1000000) (h:TwoI B w0 W i0 i1 (qqL p gd nt t ia ic i0 i1 fl sh id (pI tbb) vt bk (pI mtb) pt (.slice (some ⟨bgb,0,none⟩) 2 2) v2 v3 st u bd sl sht fu (blk tbb tabO::blk bgb bgO::blk t (clkO now cv)::blk mgb mgO::blk mtb (mtO mgb)::ss))):Calls Tryz.prog 88 #[pI t] W fun e w'=>e= .returned (.bool true)∧TwoI B w0 w' i0 i1 (qqL p gd nt t ia ic i0 i1 fl sh id (pI tbb) vt bk (pI mtb) pt (.slice (some ⟨bgb,0,none⟩) 2 2) v2 v3 st u bd sl sht fu (blk tbb tabO::blk bgb bgO::blk t (clkO (now+1) cv)::blk mgb mgO::blk mtb (mtO mgb)::ss)):=by
 obtain ⟨x0,x1,a,b,c,d,e⟩:=h;have e2:=e.perm (List.perm_append_comm (l₁:=[_,_,_,_,_,_]) (l₂:=[_]) |>.append_right _);refine (zre h0 h1 e2).mono ?_;rintro e' w' ⟨q1,q2⟩;exact ⟨q1,x0,x1,a,b,c,d,q2.perm (List.perm_append_comm (l₁:=[_]) (l₂:=[_,_,_,_,_,_]) |>.append_right _)⟩
theorem zor (h:TwoI B w0 W i0 i1 (qqL p gd nt t ia ic i0 i1 fl sh id (pI tbb) vt bk (pI mtb) pt (.slice (some ⟨bgb,0,none⟩) 2 2) v2 v3 st u bd sl sht fu (blk tbb tabO::blk bgb bgO::blk t (clkO now cv)::blk mgb mgO::blk mtb (mtO mgb)::ss))):Calls Tryz.prog 96 #[pI mtb] W fun e w'=>e= .returned (.tuple #[])∧TwoI B w0 w' i0 i1 (qqL p gd nt t ia ic i0 i1 fl sh id (pI tbb) vt bk (pI mtb) pt (.slice (some ⟨bgb,0,none⟩) 2 2) v2 v3 st u bd sl sht fu (blk tbb tabO::blk bgb bgO::blk t (clkO now cv)::blk mgb mgO::blk mtb (mtO mgb)::ss)):=by
 obtain ⟨x0,x1,a,b,c,d,e⟩:=h;have e2:=e.perm (List.perm_append_comm (l₁:=[_,_,_,_,_,_,_]) (l₂:=[_,_]) |>.append_right _);refine (reset0 e2).mono ?_;rintro e' w' ⟨q1,q2⟩;exact ⟨q1,x0,x1,a,b,c,d,q2.perm (List.perm_append_comm (l₁:=[_,_]) (l₂:=[_,_,_,_,_,_,_]) |>.append_right _)⟩
theorem zyx (h:TwoI B w0 W i0 i1 (qqL p gd nt t ia ic i0 i1 fl sh id (pI tbb) vt bk (pI mtb) pt (.slice (some ⟨bgb,0,none⟩) 2 2) v2 v3 st u bd sl sht fu (blk tbb tabO::blk bgb bgO::blk t (clkO now cv)::blk mgb mgO::blk mtb (mtO mgb)::ss))):Calls Tryz.prog 93 #[pI p] W fun e w'=>e= .returned (.bool false)∧W=w':=old0 (h.own.dropAt 1 (by simp))
theorem zu5 (h:TwoI B w0 W i0 i1 (qqL p gd nt t ia ic i0 i1 fl sh id (pI tbb) vt bk (pI mtb) pt (.slice (some ⟨bgb,0,none⟩) 2 2) v2 v3 st u bd sl sht fu (blk tbb tabO::blk bgb bgO::blk t (clkO now cv)::blk mgb mgO::blk mtb (mtO mgb)::ss))):Calls Tryz.prog 91 #[pI p] W fun e w'=>e= .returned (.tuple #[])∧TwoI B w0 w' i0 i1 (qqL p gd nt t ia ic i0 i1 fl sh id (pI tbb) vt bk (pI mtb) pt (.slice (some ⟨bgb,0,none⟩) 2 2) v2 v3 st u bd sl sht fu (blk tbb tabO::blk bgb bgO::blk t (clkO now cv)::blk mgb mgO::blk mtb (mtO mgb)::ss)):=again0 h
theorem zo1 (s':Int) (h:TwoI B w0 W i0 i1 (qqL p gd nt t ia ic i0 i1 fl sh id (pI tbb) vt bk (pI mtb) pt (.slice (some ⟨bgb,0,none⟩) 2 2) v2 v3 st u bd sl sht fu (blk tbb tabO::blk bgb bgO::blk t (clkO now cv)::blk mgb mgO::blk mtb (mtO mgb)::ss))):TwoI B w0 (W.setCell ⟨p,32,none⟩ (.int .i64 s')) i0 i1 (qqL p gd nt t ia ic i0 i1 fl sh id (pI tbb) vt bk (pI mtb) pt (.slice (some ⟨bgb,0,none⟩) 2 2) v2 v3 s' u bd sl sht fu (blk tbb tabO::blk bgb bgO::blk t (clkO now cv)::blk mgb mgO::blk mtb (mtO mgb)::ss)):=by
 obtain ⟨x0,x1,a,b,c,d,e⟩:=h;exact ⟨x0,x1,a,b,c,d,e.putAt 2 rfl 32 (.int .i64 s')⟩
theorem tick0 (h0:0≤now) (h1:now≤1000) (hs0:0≤st) (hs1:st≤now) (h:TwoI B w0 W i0 i1 (qqL p gd nt t ia ic i0 i1 fl sh id (pI tbb) vt bk (pI mtb) pt (.slice (some ⟨bgb,0,none⟩) 2 2) v2 v3 st u bd sl sht fu (blk tbb tabO::blk bgb bgO::blk t (clkO now cv)::blk mgb mgO::blk mtb (mtO mgb)::ss))):
  Calls Tryz.prog 33 #[pI p] W fun e w'=>e= .returned (.tuple #[])∧ ∃st',0≤st'∧st'≤now+1∧TwoI B w0 w' i0 i1 (qqL p gd nt t ia ic i0 i1 fl sh id (pI tbb) vt bk (pI mtb) pt (.slice (some ⟨bgb,0,none⟩) 2 2) v2 v3 st' u bd sl sht fu (blk tbb tabO::blk bgb bgO::blk t (clkO (now+1) cv)::blk mgb mgO::blk mtb (mtO mgb)::ss)):=by
 have HK:=zq (clk_two h0 (by omega) h);obtain ⟨c33,-⟩:=zaf h.own 0 rfl 33 rfl;obtain ⟨c17,-⟩:=zaf h.own 0 rfl 17 rfl;clear h;go_enter Tryz.func33,Tryz.ntmps33
 go_wp2_with fail
 refine HK.out.mono ?_;rintro e w1 ⟨rfl,h⟩;have H:=zq h;clear h HK c33 c17;obtain ⟨c18,-⟩:=zaf H.out.own 0 rfl 18 rfl
 go_upto_block 0 with fail
 go_cut [] (fun wr=>Hid (TwoI B w0 wr i0 i1 (qqL p gd nt t ia ic i0 i1 fl sh id (pI tbb) vt bk (pI mtb) pt (.slice (some ⟨bgb,0,none⟩) 2 2) v2 v3 st u bd sl sht fu (blk tbb tabO::blk bgb bgO::blk t (clkO (now+1) cv)::blk mgb mgO::blk mtb (mtO mgb)::ss))))
 case first=>
  go_wp2_with fail
  go_loopw [21] (fun i wr=> ∃k:Nat,k≤2∧i= .int .i64 k∧Hid (TwoI B w0 wr i0 i1 (qqL p gd nt t ia ic i0 i1 fl sh id (pI tbb) vt bk (pI mtb) pt (.slice (some ⟨bgb,0,none⟩) 2 2) v2 v3 st u bd sl sht fu (blk tbb tabO::blk bgb bgO::blk t (clkO (now+1) cv)::blk mgb mgO::blk mtb (mtO mgb)::ss)))) (fun i _=>2-(intOf i).toNat)
  case atStart=>exact ⟨0,by omega,rfl,H⟩
  case round=>
   clear H c18;obtain ⟨k,hk,rfl,H⟩:=hrel;by_cases hlt:k<2
   ·have hkI:(k:Int)<2:=by omega
    have HS:=zq (zp9 k hlt H.out)
    go_wp2_with fail
    refine HS.out.mono ?_;rintro e w2 ⟨rfl,hu⟩;have H1:=zq (H.out.upd0 hu);clear hu HS
    go_wp2_with fail
    go_roundw
    case rel=>exact ⟨k+1,by omega,by go_num,H1⟩
    case measure=>simp [intOf];omega
   ·have hkI:decide ((k:Int)<2)=false:=by simp;omega
    go_wp2_with fail
    go_meet
    exact H
 case rest=>
  clear H c18;have H:=hcut;clear hcut;have HNW:=zq (fun n=>zf2 ((H.out.upd0 ((Upd.refl _ _).drewN n)).own.blkAt 4 rfl));obtain ⟨c17,-⟩:=zaf H.out.own 0 rfl 17 rfl;obtain ⟨c13,-⟩:=zaf H.out.own 0 rfl 13 rfl
  go_upto_region 8 with fail
  go_quiet ((go_at_call 90;exact zap (HNW.out _)))
  generalize hy:World.drewN _ _=y0;have H0:TwoI B w0 y0 i0 i1 (qqL p gd nt t ia ic i0 i1 fl sh id (pI tbb) vt bk (pI mtb) pt (.slice (some ⟨bgb,0,none⟩) 2 2) v2 v3 st u bd sl sht fu (blk tbb tabO::blk bgb bgO::blk t (clkO (now+1) cv)::blk mgb mgO::blk mtb (mtO mgb)::ss)):=by rw [←hy];exact H.out.upd0 ((Upd.refl _ _).drewN _)
  have H:=zq H0;clear hy H0 HNW c17 c13;have hm2:(now+1).tmod 2=(now+1)%2:=Int.tmod_eq_emod_of_nonneg (by omega);cases hmod:((now+1).tmod 2==0) with
  | false=>
   have hin:=zdq H.out;have HI:=zq (fun n=>(zdq (H.out.upd0 ((Upd.refl _ _).drewN n))).1);have HNW:=zq (fun n=>zf2 ((H.out.upd0 ((Upd.refl _ _).drewN n)).own.blkAt 4 rfl));clear hin;obtain ⟨c18,-⟩:=zaf H.out.own 0 rfl 18 rfl;obtain ⟨r0,-⟩:=zck (H.out.own.get 1 rfl)
   go_wp2_with fail
   go_quiet ((go_at_call 73;exact zap (HI.out _)))
   generalize hy:World.drewN _ _=y1;have H1:TwoI B w0 y1 i0 i1 (qqL p gd nt t ia ic i0 i1 fl sh id (pI tbb) vt bk (pI mtb) pt (.slice (some ⟨bgb,0,none⟩) 2 2) v2 v3 st u bd sl sht fu (blk tbb tabO::blk bgb bgO::blk t (clkO (now+1) cv)::blk mgb mgO::blk mtb (mtO mgb)::ss)):=by rw [←hy];exact H.out.upd0 ((Upd.refl _ _).drewN _)
   have H1:=zq H1;clear hy H HI HNW c18 r0;obtain ⟨c18,-⟩:=zaf H1.out.own 0 rfl 18 rfl;obtain ⟨r0,-⟩:=zck (H1.out.own.get 1 rfl)
   go_wp2_with fail
   refine (zdq H1.out).1.mono ?_;rintro e w' ⟨rfl,rfl⟩
   go_wp2_with fail
   refine (zyx H1.out).mono ?_;rintro e w' ⟨rfl,rfl⟩
   go_wp2_with fail
   have HNW:=zq (fun n=>zf2 ((H1.out.upd0 ((Upd.refl _ _).drewN n)).own.blkAt 4 rfl));obtain ⟨c17,-⟩:=zaf H1.out.own 0 rfl 17 rfl;obtain ⟨c32,-⟩:=zaf H1.out.own 0 rfl 32 rfl;obtain ⟨c7,-⟩:=zaf H1.out.own 0 rfl 7 rfl
   go_quiet ((go_at_call 90;exact zap (HNW.out _)))
   generalize hy:World.drewN _ _=y2;have H2:TwoI B w0 y2 i0 i1 (qqL p gd nt t ia ic i0 i1 fl sh id (pI tbb) vt bk (pI mtb) pt (.slice (some ⟨bgb,0,none⟩) 2 2) v2 v3 st u bd sl sht fu (blk tbb tabO::blk bgb bgO::blk t (clkO (now+1) cv)::blk mgb mgO::blk mtb (mtO mgb)::ss)):=by rw [←hy];exact H1.out.upd0 ((Upd.refl _ _).drewN _)
   have H2:=zq H2;clear hy H1 HNW c18 r0 c17 c32 c7;cases hper:decide (st+8≤now+1) with
   | false=>
    go_wp2_with fail
    refine bodyPost_end (results_none rfl _ _ _) rfl ?_;exact ⟨rfl,st,by omega,by omega,H2.out⟩
   | true=>
    obtain ⟨c18,-⟩:=zaf H2.out.own.drew 0 rfl 18 rfl;obtain ⟨r0,-⟩:=zck (H2.out.own.drew.get 1 rfl);obtain ⟨c23,-⟩:=zaf H2.out.own.drew 0 rfl 23 rfl;obtain ⟨k0,-⟩:=zaf H2.out.own.drew 0 rfl 0 rfl;obtain ⟨k1,-⟩:=zaf H2.out.own.drew 0 rfl 1 rfl;obtain ⟨k2,-⟩:=zaf H2.out.own.drew 0 rfl 2 rfl;obtain ⟨k3,-⟩:=zaf H2.out.own.drew 0 rfl 3 rfl;obtain ⟨k4,-⟩:=zaf H2.out.own.drew 0 rfl 4 rfl;obtain ⟨k5,-⟩:=zaf H2.out.own.drew 0 rfl 5 rfl;obtain ⟨k6,-⟩:=zaf H2.out.own.drew 0 rfl 6 rfl;obtain ⟨k7,-⟩:=zaf H2.out.own.drew 0 rfl 7 rfl;obtain ⟨k8,-⟩:=zaf H2.out.own.drew 0 rfl 8 rfl;obtain ⟨k9,-⟩:=zaf H2.out.own.drew 0 rfl 9 rfl;obtain ⟨k10,-⟩:=zaf H2.out.own.drew 0 rfl 10 rfl;obtain ⟨k11,-⟩:=zaf H2.out.own.drew 0 rfl 11 rfl;obtain ⟨k12,-⟩:=zaf H2.out.own.drew 0 rfl 12 rfl;obtain ⟨k13,-⟩:=zaf H2.out.own.drew 0 rfl 13 rfl;obtain ⟨k14,-⟩:=zaf H2.out.own.drew 0 rfl 14 rfl;have HI:=zq (zdq (H2.out.upd0 (Upd.refl _ _).drew)).1;have HA:=zq (zkq (H2.out.own.drew.blkAt 6 rfl) (H2.out.own.drew.blkAt 5 rfl))
    go_wp2_with fail
    refine Held.wp_held [(p,18,[.slice (some ⟨ia,0,none⟩) 2 ic]),(ia,0,[pI i0]),(p,0,[.int .i64 1,.int .i64 2,.int .i64 2,.int .i64 4,.int .i64 64,.int .i64 fl,.int .i64 sh,.int .i64 8,.int .i64 1,.int .i64 2,.int .i64 12,.int .i64 8,.int .i64 6,.int .i64 2,.int .i64 6]),(p,23,[pI mtb])] [(3,0),(5,1),(11,2),(15,3)] [17] [(7,true),(10,true),(1,false)] (by kernel_rfl) (by kernel_rfl) ⟨⟨c18,trivial⟩,⟨r0,trivial⟩,⟨k0,k1,k2,k3,k4,k5,k6,k7,k8,k9,k10,k11,k12,k13,k14,trivial⟩,⟨c23,trivial⟩,trivial⟩ ?_;simp only [Held.cutAt,Held.walk,List.take_succ_cons,List.take_zero,List.drop_succ_cons,List.drop_zero]
    go_wp2_with fail
    refine HI.out.mono ?_;rintro e w' ⟨rfl,rfl⟩
    go_wp2_with fail
    refine ⟨⟨⟨c18,trivial⟩,⟨r0,trivial⟩,⟨k0,k1,k2,k3,k4,k5,k6,k7,k8,k9,k10,k11,k12,k13,k14,trivial⟩,⟨c23,trivial⟩,trivial⟩,?_⟩
    go_wp2_with fail
    refine HA.out.mono ?_;rintro e w5 ⟨ab,acap,rfl,hcap,a0,a1,hu⟩;have H3:=zq ((H2.out.upd0 (Upd.refl _ _).drew).upd0 hu);have HV:=zq (zuj (fl:=fl) (sh:=sh) hcap a0 a1);clear hu a0 a1 HA HI H2 c18 r0 c23 k0 k1 k2 k3 k4 k5 k6 k7 k8 k9 k10 k11 k12 k13 k14;obtain ⟨c18,-⟩:=zaf H3.out.own 0 rfl 18 rfl;obtain ⟨r0,-⟩:=zck (H3.out.own.get 1 rfl);obtain ⟨c23,-⟩:=zaf H3.out.own 0 rfl 23 rfl;obtain ⟨k0,-⟩:=zaf H3.out.own 0 rfl 0 rfl;obtain ⟨k1,-⟩:=zaf H3.out.own 0 rfl 1 rfl;obtain ⟨k2,-⟩:=zaf H3.out.own 0 rfl 2 rfl;obtain ⟨k3,-⟩:=zaf H3.out.own 0 rfl 3 rfl;obtain ⟨k4,-⟩:=zaf H3.out.own 0 rfl 4 rfl;obtain ⟨k5,-⟩:=zaf H3.out.own 0 rfl 5 rfl;obtain ⟨k6,-⟩:=zaf H3.out.own 0 rfl 6 rfl;obtain ⟨k7,-⟩:=zaf H3.out.own 0 rfl 7 rfl;obtain ⟨k8,-⟩:=zaf H3.out.own 0 rfl 8 rfl;obtain ⟨k9,-⟩:=zaf H3.out.own 0 rfl 9 rfl;obtain ⟨k10,-⟩:=zaf H3.out.own 0 rfl 10 rfl;obtain ⟨k11,-⟩:=zaf H3.out.own 0 rfl 11 rfl;obtain ⟨k12,-⟩:=zaf H3.out.own 0 rfl 12 rfl;obtain ⟨k13,-⟩:=zaf H3.out.own 0 rfl 13 rfl;obtain ⟨k14,-⟩:=zaf H3.out.own 0 rfl 14 rfl
    go_wp2_with fail
    refine ⟨⟨⟨c18,trivial⟩,⟨r0,trivial⟩,⟨k0,k1,k2,k3,k4,k5,k6,k7,k8,k9,k10,k11,k12,k13,k14,trivial⟩,⟨c23,trivial⟩,trivial⟩,?_⟩
    go_wp2_with fail
    refine HV.out.mono ?_;rintro e w6 ⟨rfl,hu⟩;have H4:=zq (H3.out.upd0 hu);clear hu HV H3 c18 r0 c23 k0 k1 k2 k3 k4 k5 k6 k7 k8 k9 k10 k11 k12 k13 k14
    go_wp2_with fail
    refine ⟨trivial,?_⟩
    go_wp2_with fail
    refine ⟨trivial,by rfl,⟨⟨rfl,.inl ⟨by kernel_rfl,rfl⟩⟩,⟨rfl,.inl ⟨by kernel_rfl,rfl⟩⟩,⟨rfl,.inr ⟨by kernel_rfl,by kernel_rfl⟩⟩,⟨rfl,.inl ⟨by kernel_rfl,rfl⟩⟩,trivial⟩,?_⟩;obtain ⟨c23,-⟩:=zaf H4.out.own 0 rfl 23 rfl
    go_wp2_with fail
    refine (zor H4.out).mono ?_;rintro e w7 ⟨rfl,h7⟩;have H7:=zq h7;clear h7 H4 c23;obtain ⟨c17,-⟩:=zaf H7.out.own 0 rfl 17 rfl;obtain ⟨c32,z32⟩:=zaf H7.out.own 0 rfl 32 rfl
    go_wp2_with fail
    refine (zf2 (H7.out.own.blkAt 4 rfl)).mono ?_;rintro e w' ⟨rfl,rfl⟩
    go_wp2_with fail
    refine bodyPost_end (results_none rfl _ _ _) rfl ?_;exact ⟨rfl,now+1,by omega,by omega,zo1 (now+1) H7.out⟩
  | true=>
   go_wp2_with fail
   refine (zu5 H.out).mono ?_;rintro e w8 ⟨rfl,h8⟩;have H:=zq h8;clear h8;have hin:=zdq H.out;have HI:=zq (fun n=>(zdq (H.out.upd0 ((Upd.refl _ _).drewN n))).1);have HNW:=zq (fun n=>zf2 ((H.out.upd0 ((Upd.refl _ _).drewN n)).own.blkAt 4 rfl));clear hin;obtain ⟨c18,-⟩:=zaf H.out.own 0 rfl 18 rfl;obtain ⟨r0,-⟩:=zck (H.out.own.get 1 rfl)
   go_wp2_with fail
   go_quiet ((go_at_call 73;exact zap (HI.out _)))
   generalize hy:World.drewN _ _=y1;have H1:TwoI B w0 y1 i0 i1 (qqL p gd nt t ia ic i0 i1 fl sh id (pI tbb) vt bk (pI mtb) pt (.slice (some ⟨bgb,0,none⟩) 2 2) v2 v3 st u bd sl sht fu (blk tbb tabO::blk bgb bgO::blk t (clkO (now+1) cv)::blk mgb mgO::blk mtb (mtO mgb)::ss)):=by rw [←hy];exact H.out.upd0 ((Upd.refl _ _).drewN _)
   have H1:=zq H1;clear hy H HI HNW c18 r0;obtain ⟨c18,-⟩:=zaf H1.out.own 0 rfl 18 rfl;obtain ⟨r0,-⟩:=zck (H1.out.own.get 1 rfl)
   go_wp2_with fail
   refine (zdq H1.out).1.mono ?_;rintro e w' ⟨rfl,rfl⟩
   go_wp2_with fail
   refine (zyx H1.out).mono ?_;rintro e w' ⟨rfl,rfl⟩
   go_wp2_with fail
   have HNW:=zq (fun n=>zf2 ((H1.out.upd0 ((Upd.refl _ _).drewN n)).own.blkAt 4 rfl));obtain ⟨c17,-⟩:=zaf H1.out.own 0 rfl 17 rfl;obtain ⟨c32,-⟩:=zaf H1.out.own 0 rfl 32 rfl;obtain ⟨c7,-⟩:=zaf H1.out.own 0 rfl 7 rfl
   go_quiet ((go_at_call 90;exact zap (HNW.out _)))
   generalize hy:World.drewN _ _=y2;have H2:TwoI B w0 y2 i0 i1 (qqL p gd nt t ia ic i0 i1 fl sh id (pI tbb) vt bk (pI mtb) pt (.slice (some ⟨bgb,0,none⟩) 2 2) v2 v3 st u bd sl sht fu (blk tbb tabO::blk bgb bgO::blk t (clkO (now+1) cv)::blk mgb mgO::blk mtb (mtO mgb)::ss)):=by rw [←hy];exact H1.out.upd0 ((Upd.refl _ _).drewN _)
   have H2:=zq H2;clear hy H1 HNW c18 r0 c17 c32 c7;cases hper:decide (st+8≤now+1) with
   | false=>
    go_wp2_with fail
    refine bodyPost_end (results_none rfl _ _ _) rfl ?_;exact ⟨rfl,st,by omega,by omega,H2.out⟩
   | true=>
    obtain ⟨c18,-⟩:=zaf H2.out.own.drew 0 rfl 18 rfl;obtain ⟨r0,-⟩:=zck (H2.out.own.drew.get 1 rfl);obtain ⟨c23,-⟩:=zaf H2.out.own.drew 0 rfl 23 rfl;obtain ⟨k0,-⟩:=zaf H2.out.own.drew 0 rfl 0 rfl;obtain ⟨k1,-⟩:=zaf H2.out.own.drew 0 rfl 1 rfl;obtain ⟨k2,-⟩:=zaf H2.out.own.drew 0 rfl 2 rfl;obtain ⟨k3,-⟩:=zaf H2.out.own.drew 0 rfl 3 rfl;obtain ⟨k4,-⟩:=zaf H2.out.own.drew 0 rfl 4 rfl;obtain ⟨k5,-⟩:=zaf H2.out.own.drew 0 rfl 5 rfl;obtain ⟨k6,-⟩:=zaf H2.out.own.drew 0 rfl 6 rfl;obtain ⟨k7,-⟩:=zaf H2.out.own.drew 0 rfl 7 rfl;obtain ⟨k8,-⟩:=zaf H2.out.own.drew 0 rfl 8 rfl;obtain ⟨k9,-⟩:=zaf H2.out.own.drew 0 rfl 9 rfl;obtain ⟨k10,-⟩:=zaf H2.out.own.drew 0 rfl 10 rfl;obtain ⟨k11,-⟩:=zaf H2.out.own.drew 0 rfl 11 rfl;obtain ⟨k12,-⟩:=zaf H2.out.own.drew 0 rfl 12 rfl;obtain ⟨k13,-⟩:=zaf H2.out.own.drew 0 rfl 13 rfl;obtain ⟨k14,-⟩:=zaf H2.out.own.drew 0 rfl 14 rfl;have HI:=zq (zdq (H2.out.upd0 (Upd.refl _ _).drew)).1;have HA:=zq (zkq (H2.out.own.drew.blkAt 6 rfl) (H2.out.own.drew.blkAt 5 rfl))
    go_wp2_with fail
    refine Held.wp_held [(p,18,[.slice (some ⟨ia,0,none⟩) 2 ic]),(ia,0,[pI i0]),(p,0,[.int .i64 1,.int .i64 2,.int .i64 2,.int .i64 4,.int .i64 64,.int .i64 fl,.int .i64 sh,.int .i64 8,.int .i64 1,.int .i64 2,.int .i64 12,.int .i64 8,.int .i64 6,.int .i64 2,.int .i64 6]),(p,23,[pI mtb])] [(3,0),(5,1),(11,2),(15,3)] [17] [(7,true),(10,true),(1,false)] (by kernel_rfl) (by kernel_rfl) ⟨⟨c18,trivial⟩,⟨r0,trivial⟩,⟨k0,k1,k2,k3,k4,k5,k6,k7,k8,k9,k10,k11,k12,k13,k14,trivial⟩,⟨c23,trivial⟩,trivial⟩ ?_;simp only [Held.cutAt,Held.walk,List.take_succ_cons,List.take_zero,List.drop_succ_cons,List.drop_zero]
    go_wp2_with fail
    refine HI.out.mono ?_;rintro e w' ⟨rfl,rfl⟩
    go_wp2_with fail
    refine ⟨⟨⟨c18,trivial⟩,⟨r0,trivial⟩,⟨k0,k1,k2,k3,k4,k5,k6,k7,k8,k9,k10,k11,k12,k13,k14,trivial⟩,⟨c23,trivial⟩,trivial⟩,?_⟩
    go_wp2_with fail
    refine HA.out.mono ?_;rintro e w5 ⟨ab,acap,rfl,hcap,a0,a1,hu⟩;have H3:=zq ((H2.out.upd0 (Upd.refl _ _).drew).upd0 hu);have HV:=zq (zuj (fl:=fl) (sh:=sh) hcap a0 a1);clear hu a0 a1 HA HI H2 c18 r0 c23 k0 k1 k2 k3 k4 k5 k6 k7 k8 k9 k10 k11 k12 k13 k14;obtain ⟨c18,-⟩:=zaf H3.out.own 0 rfl 18 rfl;obtain ⟨r0,-⟩:=zck (H3.out.own.get 1 rfl);obtain ⟨c23,-⟩:=zaf H3.out.own 0 rfl 23 rfl;obtain ⟨k0,-⟩:=zaf H3.out.own 0 rfl 0 rfl;obtain ⟨k1,-⟩:=zaf H3.out.own 0 rfl 1 rfl;obtain ⟨k2,-⟩:=zaf H3.out.own 0 rfl 2 rfl;obtain ⟨k3,-⟩:=zaf H3.out.own 0 rfl 3 rfl;obtain ⟨k4,-⟩:=zaf H3.out.own 0 rfl 4 rfl;obtain ⟨k5,-⟩:=zaf H3.out.own 0 rfl 5 rfl;obtain ⟨k6,-⟩:=zaf H3.out.own 0 rfl 6 rfl;obtain ⟨k7,-⟩:=zaf H3.out.own 0 rfl 7 rfl;obtain ⟨k8,-⟩:=zaf H3.out.own 0 rfl 8 rfl;obtain ⟨k9,-⟩:=zaf H3.out.own 0 rfl 9 rfl;obtain ⟨k10,-⟩:=zaf H3.out.own 0 rfl 10 rfl;obtain ⟨k11,-⟩:=zaf H3.out.own 0 rfl 11 rfl;obtain ⟨k12,-⟩:=zaf H3.out.own 0 rfl 12 rfl;obtain ⟨k13,-⟩:=zaf H3.out.own 0 rfl 13 rfl;obtain ⟨k14,-⟩:=zaf H3.out.own 0 rfl 14 rfl
    go_wp2_with fail
    refine ⟨⟨⟨c18,trivial⟩,⟨r0,trivial⟩,⟨k0,k1,k2,k3,k4,k5,k6,k7,k8,k9,k10,k11,k12,k13,k14,trivial⟩,⟨c23,trivial⟩,trivial⟩,?_⟩
    go_wp2_with fail
    refine HV.out.mono ?_;rintro e w6 ⟨rfl,hu⟩;have H4:=zq (H3.out.upd0 hu);clear hu HV H3 c18 r0 c23 k0 k1 k2 k3 k4 k5 k6 k7 k8 k9 k10 k11 k12 k13 k14
    go_wp2_with fail
    refine ⟨trivial,?_⟩
    go_wp2_with fail
    refine ⟨trivial,by rfl,⟨⟨rfl,.inl ⟨by kernel_rfl,rfl⟩⟩,⟨rfl,.inl ⟨by kernel_rfl,rfl⟩⟩,⟨rfl,.inr ⟨by kernel_rfl,by kernel_rfl⟩⟩,⟨rfl,.inl ⟨by kernel_rfl,rfl⟩⟩,trivial⟩,?_⟩;obtain ⟨c23,-⟩:=zaf H4.out.own 0 rfl 23 rfl
    go_wp2_with fail
    refine (zor H4.out).mono ?_;rintro e w7 ⟨rfl,h7⟩;have H7:=zq h7;clear h7 H4 c23;obtain ⟨c17,-⟩:=zaf H7.out.own 0 rfl 17 rfl;obtain ⟨c32,z32⟩:=zaf H7.out.own 0 rfl 32 rfl
    go_wp2_with fail
    refine (zf2 (H7.out.own.blkAt 4 rfl)).mono ?_;rintro e w' ⟨rfl,rfl⟩
    go_wp2_with fail
    refine bodyPost_end (results_none rfl _ _ _) rfl ?_;exact ⟨rfl,now+1,by omega,by omega,zo1 (now+1) H7.out⟩
end
end Go.Proofs.YtannckelmojkoaaGreat
namespace Go.Heap
open Go Go.RowKit
section
variable {B:Nat} {w0 w W W':World} {rs:List Res} {E sz n m:Nat} {v v':Value} {xs ys:List Value}
theorem zm0 (h:w.ownsRow B E sz v n xs) (k:Nat):k∈blkOf v↔v.ownBlock=some k:=by
 rcases h.2 with ⟨rfl,_⟩ | ⟨g,cap,cur,rfl,_⟩
 ·simp [blkOf,Value.ownBlock]
 ·simp only [blkOf,Value.ownBlock,List.mem_singleton,Option.some.injEq]
  exact eq_comm
theorem Own.growAny (h:Own B w0 W (ownR E sz v n xs::rs)) (hg:W.grownBy W' v.ownBlock) (hat:v'.ownBlock=v.ownBlock∨v'.ownBlock=some W.heap.size) (ho:W'.ownsRow 0 E sz v' m ys):Own B w0 W' (ownR E sz v' m ys::rs):=by
 have hown:=zal h.head;have hu:Upd (blkOf v) W W':=(Upd.refl _ _).grown hg (fun k hk=> .inl ((zm0 hown k).2 hk));refine h.step (r':=ownR E sz v' m ys) hu ⟨[],⟨ho,rfl⟩,by simp,fun k hk=>Nat.lt_of_lt_of_le (h.lt k hk) hu.size⟩ (fun k hk=> ?_);have h1:=(zm0 ho k).1 hk;rcases hat with hat | hat
 ·exact .inl ((zm0 hown k).2 (hat.symm.trans h1))
 ·rw [hat] at h1
  simp only [Option.some.injEq] at h1;exact .inr (by omega)
theorem zgh {P:Program} {ops:Array Oper} {rest:List Oper} {o:Oper} {a:Act} {Q:Exit→Act→World→Prop} (hgd:o.guard=none) (s x:Operand) (t:TypeId)
  (ho:o.op= .call {callee:= .builtin .append,args:=#[s,x],argTypes:=#[t,t]})
  (e:TypeId) (i:TypeInfo) (z:Value) (size bytes:Nat) (ht:P.underlying t=some (.slice e)) (hi:P.info? e=some i) (hz:i.zero=some z)
  (hsize:i.size=size) (hby:i.bytes=bytes) (hzs:z.cells.size=size) (hsz:0<size)
  (v:Value) (n:Nat) (xs:List Value) (hs:a.eval s=v) (hw:Own B w0 W (ownR e size v n xs::rs))
  (u:Value) (m:Nat) (ys:List Value) (hx:a.eval x=u) (hr:Reads W u size m ys) (h1: ∀u∈ys,u.oneCell'=true) (h63:n+m≤maxLen) (hbytes:(n+m)*bytes≤140737488355328)
  (h: ∀v' w',Own B w0 w' (ownR e size v' (n+m) (xs++ys)::rs)→wpList P ops Q rest (a.put o.dst v') w'):wpList P ops Q (o::rest) a W:=by
 obtain ⟨ao,cap,rfl,hl1,hl2,hl3,hl4,hl5⟩:=hr;cases ao with
 | none=>
  obtain ⟨rfl,rfl⟩:=hl4 rfl;have:ys=[]:=List.eq_nil_of_length_eq_zero (by simpa using hl3);subst this;exact wpList_append_own_none hgd s x t ho 0 e i size ht hi v n xs hs (zal hw.head) hx (h _ _ (by simpa using hw))
 | some ad=>
  have hnews: ∀j u,ys[j]?=some u→W.cell? (ad.add j)=some u:=by
   intro j u hj;have hlt:=(List.getElem?_eq_some_iff.1 hj).1;have hn:0<m:=by
    rcases Nat.eq_zero_or_pos m with h0 | h0
    ·subst h0;omega
    ·exact h0
   obtain ⟨b,o,hab,hb,hc⟩:=hl5 hn;simp only [Option.some.injEq] at hab;subst hab;have:(⟨b,o,none⟩:Addr).add j=⟨b,o+j,none⟩:=by unfold Addr.add;split<;>simp_all
   rw [this,hc j (by omega)];exact hj
  refine wpList_append_own_at W hgd s x t ho 0 e i z size bytes ht hi hz hsize hby hzs hsz v n xs hs (zal hw.head) ad m cap ys hx hl3 hnews h1 h63 hbytes (Nat.zero_le _) ?_;intro v' w' hown hgrow _ hat;exact h v' w' (hw.growAny hgrow hat hown)
end
end Go.Heap
namespace Go.Proofs.YtannckelmojkoaaGreat
open Go.ChangeShapes Go.WideShapes Go.ChangeAt Go.RowKit Go.Heap
def Ints (w:World) (v:Value) (zs:List Int):Prop:=Reads w v 1 zs.length (zs.map fun z=> .int .i64 z)
theorem Ints.upd {M:List Nat} {w w':World} {v:Value} {zs:List Int} (h:Ints w v zs) (hu:Upd M w w') (hm: ∀b∈blkOf v,b∉M):Ints w' v zs:=Reads.upd h hu hm
theorem Ints.at {w:World} {ao:Option Addr} {n cap:Nat} {zs:List Int} (h:Ints w (.slice ao n cap) zs) (k:Nat) (hk:k<zs.length):
  n=zs.length∧ ∃b o,ao=some ⟨b,o,none⟩∧b<w.heap.size∧w.cell? ⟨b,o+k,none⟩=some (.int .i64 zs[k]):=by
 obtain ⟨ao',cap',hv,h1,h2,h3,h4,h5⟩:=h;simp only [Value.slice.injEq] at hv;obtain ⟨rfl,rfl,rfl⟩:=hv;obtain ⟨b,o,rfl,hb,hc⟩:=h5 (by omega);exact ⟨rfl,b,o,rfl,hb,by rw [hc k (by omega)];simp [hk]⟩
end Go.Proofs.YtannckelmojkoaaGreat
namespace Go.Proofs.YtannckelmojkoaaGreat
open Go.RowKit Go.Heap
section
variable {B:Nat} {w0 w W:World} {ss:List Res}
def NQ (B:Nat) (w0 W:World) (p nt nm:Nat) (fl sh now bd sht:Int) (ps:List Peer) (ss:List Res):Prop:=
 ∃(gd t ia ic i0 i1 tbb bgb mgb mtb:Nat) (vt bk pt v2 v3 cv gv:Value) (st:Int) (rest:List Res),0≤st∧st≤now∧
  TwoI B w0 W i0 i1 (qqL p gd nt t ia ic i0 i1 fl sh 0 (pI tbb) vt bk (pI mtb) pt (.slice (some ⟨bgb,0,none⟩) 2 2) v2 v3 st 0 bd 0 sht 0 (blk tbb tabO::blk bgb bgO::blk t (clkO now cv)::blk mgb mgO::blk mtb (mtO mgb)::blk gd (grO fl sh gv)::plR gv ps::blk nt (noB nm)::blk nm (.map #[] 0)::(rest++ss)))
theorem nq_new {x:Nd} {nm:Nat} (hid:x.id=0) (hok:NdOk x) (h:Own B w0 W (nodeR x::blk x.nt (noB nm)::blk nm (.map #[] 0)::ss)):NQ B w0 W x.p x.nt nm x.fl x.sh 0 0 0 [] ss:=by
 obtain ⟨hl,hst⟩:=hok.rs
 match hrs:x.rs,hl with
 | [r0,r1],_=>
 have s0:=hst 0 r0 (by rw [hrs];rfl);have s1:=hst 1 r1 (by rw [hrs];rfl);have h1:=h.open;unfold ndL at h1;rw [hrs] at h1;simp only [List.map_cons,List.map_nil,List.flatMap_cons,List.flatMap_nil,rdR,List.append_nil,List.cons_append,List.nil_append,List.append_assoc] at h1;have g0:Own B w0 W ([blk x.bg bgO,blk x.pt ptO,blk x.mt (mtO x.mg),blk x.mg mgO,blk x.gd (grdO x.fl x.sh),blk x.vt (votO x.vg),blk x.vg vgO,blk x.tb tabO,segR x.p 141 x.cs,ownR 142 1 (.slice x.a1 2 x.c1) 2 [r0.x.ptr,r1.x.ptr],ownR 69 1 (.slice x.a2 2 x.c2) 2 [r0.va,r1.va],ownR 69 1 (.slice x.a3 2 x.c3) 2 [r0.vb,r1.vb],blk x.q (cfgO x.fl x.sh),blk x.t zc9,instR r0.x,blk r0.a z17O,blk r0.b z17O,instR r1.x,blk r1.a z17O,blk r1.b z17O]++(lgL x.bk++(blk x.nt (noB nm)::blk nm (.map #[] 0)::ss))):=h1.perm (by
  refine List.Perm.append_left [_,_,_,_] ?_;exact List.perm_append_comm_assoc (lgL x.bk) [_,_,_,_,_,_,_,_,_,_,_,_,_,_,_,_] _)
 have g1:Own B w0 W ([blk x.gd (grdO x.fl x.sh),blk x.bg bgO,blk x.pt ptO,blk x.mt (mtO x.mg),blk x.mg mgO,blk x.vt (votO x.vg),blk x.vg vgO,blk x.tb tabO,segR x.p 141 x.cs,ownR 142 1 (.slice x.a1 2 x.c1) 2 [r0.x.ptr,r1.x.ptr],ownR 69 1 (.slice x.a2 2 x.c2) 2 [r0.va,r1.va],ownR 69 1 (.slice x.a3 2 x.c3) 2 [r0.vb,r1.vb],blk x.q (cfgO x.fl x.sh),blk x.t zc9,instR r0.x,blk r0.a z17O,blk r0.b z17O,instR r1.x,blk r1.a z17O,blk r1.b z17O]++(lgL x.bk++(blk x.nt (noB nm)::blk nm (.map #[] 0)::ss))):=g0.perm (zcw _ 4 (by simp));have g2:Own B w0 W ([blk x.mt (mtO x.mg),blk x.gd (grdO x.fl x.sh),blk x.bg bgO,blk x.pt ptO,blk x.mg mgO,blk x.vt (votO x.vg),blk x.vg vgO,blk x.tb tabO,segR x.p 141 x.cs,ownR 142 1 (.slice x.a1 2 x.c1) 2 [r0.x.ptr,r1.x.ptr],ownR 69 1 (.slice x.a2 2 x.c2) 2 [r0.va,r1.va],ownR 69 1 (.slice x.a3 2 x.c3) 2 [r0.vb,r1.vb],blk x.q (cfgO x.fl x.sh),blk x.t zc9,instR r0.x,blk r0.a z17O,blk r0.b z17O,instR r1.x,blk r1.a z17O,blk r1.b z17O]++(lgL x.bk++(blk x.nt (noB nm)::blk nm (.map #[] 0)::ss))):=g1.perm (zcw _ 3 (by simp));have g3:Own B w0 W ([blk x.mg mgO,blk x.mt (mtO x.mg),blk x.gd (grdO x.fl x.sh),blk x.bg bgO,blk x.pt ptO,blk x.vt (votO x.vg),blk x.vg vgO,blk x.tb tabO,segR x.p 141 x.cs,ownR 142 1 (.slice x.a1 2 x.c1) 2 [r0.x.ptr,r1.x.ptr],ownR 69 1 (.slice x.a2 2 x.c2) 2 [r0.va,r1.va],ownR 69 1 (.slice x.a3 2 x.c3) 2 [r0.vb,r1.vb],blk x.q (cfgO x.fl x.sh),blk x.t zc9,instR r0.x,blk r0.a z17O,blk r0.b z17O,instR r1.x,blk r1.a z17O,blk r1.b z17O]++(lgL x.bk++(blk x.nt (noB nm)::blk nm (.map #[] 0)::ss))):=g2.perm (zcw _ 4 (by simp));have g4:Own B w0 W ([blk x.t zc9,blk x.mg mgO,blk x.mt (mtO x.mg),blk x.gd (grdO x.fl x.sh),blk x.bg bgO,blk x.pt ptO,blk x.vt (votO x.vg),blk x.vg vgO,blk x.tb tabO,segR x.p 141 x.cs,ownR 142 1 (.slice x.a1 2 x.c1) 2 [r0.x.ptr,r1.x.ptr],ownR 69 1 (.slice x.a2 2 x.c2) 2 [r0.va,r1.va],ownR 69 1 (.slice x.a3 2 x.c3) 2 [r0.vb,r1.vb],blk x.q (cfgO x.fl x.sh),instR r0.x,blk r0.a z17O,blk r0.b z17O,instR r1.x,blk r1.a z17O,blk r1.b z17O]++(lgL x.bk++(blk x.nt (noB nm)::blk nm (.map #[] 0)::ss))):=g3.perm (zcw _ 13 (by simp));have g5:Own B w0 W ([blk x.bg bgO,blk x.t zc9,blk x.mg mgO,blk x.mt (mtO x.mg),blk x.gd (grdO x.fl x.sh),blk x.pt ptO,blk x.vt (votO x.vg),blk x.vg vgO,blk x.tb tabO,segR x.p 141 x.cs,ownR 142 1 (.slice x.a1 2 x.c1) 2 [r0.x.ptr,r1.x.ptr],ownR 69 1 (.slice x.a2 2 x.c2) 2 [r0.va,r1.va],ownR 69 1 (.slice x.a3 2 x.c3) 2 [r0.vb,r1.vb],blk x.q (cfgO x.fl x.sh),instR r0.x,blk r0.a z17O,blk r0.b z17O,instR r1.x,blk r1.a z17O,blk r1.b z17O]++(lgL x.bk++(blk x.nt (noB nm)::blk nm (.map #[] 0)::ss))):=g4.perm (zcw _ 4 (by simp));have g6:Own B w0 W ([blk x.tb tabO,blk x.bg bgO,blk x.t zc9,blk x.mg mgO,blk x.mt (mtO x.mg),blk x.gd (grdO x.fl x.sh),blk x.pt ptO,blk x.vt (votO x.vg),blk x.vg vgO,segR x.p 141 x.cs,ownR 142 1 (.slice x.a1 2 x.c1) 2 [r0.x.ptr,r1.x.ptr],ownR 69 1 (.slice x.a2 2 x.c2) 2 [r0.va,r1.va],ownR 69 1 (.slice x.a3 2 x.c3) 2 [r0.vb,r1.vb],blk x.q (cfgO x.fl x.sh),instR r0.x,blk r0.a z17O,blk r0.b z17O,instR r1.x,blk r1.a z17O,blk r1.b z17O]++(lgL x.bk++(blk x.nt (noB nm)::blk nm (.map #[] 0)::ss))):=g5.perm (zcw _ 8 (by simp));have g7:Own B w0 W ([ownR 142 1 (.slice x.a1 2 x.c1) 2 [r0.x.ptr,r1.x.ptr],blk x.tb tabO,blk x.bg bgO,blk x.t zc9,blk x.mg mgO,blk x.mt (mtO x.mg),blk x.gd (grdO x.fl x.sh),blk x.pt ptO,blk x.vt (votO x.vg),blk x.vg vgO,segR x.p 141 x.cs,ownR 69 1 (.slice x.a2 2 x.c2) 2 [r0.va,r1.va],ownR 69 1 (.slice x.a3 2 x.c3) 2 [r0.vb,r1.vb],blk x.q (cfgO x.fl x.sh),instR r0.x,blk r0.a z17O,blk r0.b z17O,instR r1.x,blk r1.a z17O,blk r1.b z17O]++(lgL x.bk++(blk x.nt (noB nm)::blk nm (.map #[] 0)::ss))):=g6.perm (zcw _ 10 (by simp));have g8:Own B w0 W ([segR x.p 141 x.cs,ownR 142 1 (.slice x.a1 2 x.c1) 2 [r0.x.ptr,r1.x.ptr],blk x.tb tabO,blk x.bg bgO,blk x.t zc9,blk x.mg mgO,blk x.mt (mtO x.mg),blk x.gd (grdO x.fl x.sh),blk x.pt ptO,blk x.vt (votO x.vg),blk x.vg vgO,ownR 69 1 (.slice x.a2 2 x.c2) 2 [r0.va,r1.va],ownR 69 1 (.slice x.a3 2 x.c3) 2 [r0.vb,r1.vb],blk x.q (cfgO x.fl x.sh),instR r0.x,blk r0.a z17O,blk r0.b z17O,instR r1.x,blk r1.a z17O,blk r1.b z17O]++(lgL x.bk++(blk x.nt (noB nm)::blk nm (.map #[] 0)::ss))):=g7.perm (zcw _ 10 (by simp));have g9:Own B w0 W ([instR r1.x,segR x.p 141 x.cs,ownR 142 1 (.slice x.a1 2 x.c1) 2 [r0.x.ptr,r1.x.ptr],blk x.tb tabO,blk x.bg bgO,blk x.t zc9,blk x.mg mgO,blk x.mt (mtO x.mg),blk x.gd (grdO x.fl x.sh),blk x.pt ptO,blk x.vt (votO x.vg),blk x.vg vgO,ownR 69 1 (.slice x.a2 2 x.c2) 2 [r0.va,r1.va],ownR 69 1 (.slice x.a3 2 x.c3) 2 [r0.vb,r1.vb],blk x.q (cfgO x.fl x.sh),instR r0.x,blk r0.a z17O,blk r0.b z17O,blk r1.a z17O,blk r1.b z17O]++(lgL x.bk++(blk x.nt (noB nm)::blk nm (.map #[] 0)::ss))):=g8.perm (zcw _ 17 (by simp));have g10:Own B w0 W ([instR r0.x,instR r1.x,segR x.p 141 x.cs,ownR 142 1 (.slice x.a1 2 x.c1) 2 [r0.x.ptr,r1.x.ptr],blk x.tb tabO,blk x.bg bgO,blk x.t zc9,blk x.mg mgO,blk x.mt (mtO x.mg),blk x.gd (grdO x.fl x.sh),blk x.pt ptO,blk x.vt (votO x.vg),blk x.vg vgO,ownR 69 1 (.slice x.a2 2 x.c2) 2 [r0.va,r1.va],ownR 69 1 (.slice x.a3 2 x.c3) 2 [r0.vb,r1.vb],blk x.q (cfgO x.fl x.sh),blk r0.a z17O,blk r0.b z17O,blk r1.a z17O,blk r1.b z17O]++(lgL x.bk++(blk x.nt (noB nm)::blk nm (.map #[] 0)::ss))):=g9.perm (zcw _ 15 (by simp));have hrow:=zal (g10.get 3 rfl);obtain ⟨ia,ha⟩: ∃ia,x.a1=some ⟨ia,0,none⟩:=by
  rcases hrow.2 with ⟨hv,-⟩ | ⟨g,cap,cur,hv,-⟩
  ·simp only [Value.slice.injEq] at hv;omega
  ·simp only [Value.slice.injEq] at hv;exact ⟨g,hv.1⟩
 have hcs:x.cs=ndT x.fl x.sh 0 x.nt x.t (.slice (some ⟨ia,0,none⟩) 2 x.c1) (pI x.tb) (ptrV x.vt) x.gd (ptrV x.bk.p) (pI x.mt) (.slice (some ⟨x.pt,0,none⟩) 4 4) (.slice (some ⟨x.bg,0,none⟩) 2 2) (.slice x.a2 2 x.c2) (.slice x.a3 2 x.c3) 0 0 0 0 0 0:=by
  unfold Nd.cs;rw [hid,ha]
 have f0:Own B w0 W ([instR r0.x,instR r1.x,segR x.p 141 (ndT x.fl x.sh 0 x.nt x.t (.slice (some ⟨ia,0,none⟩) 2 x.c1) (pI x.tb) (ptrV x.vt) x.gd (ptrV x.bk.p) (pI x.mt) (.slice (some ⟨x.pt,0,none⟩) 4 4) (.slice (some ⟨x.bg,0,none⟩) 2 2) (.slice x.a2 2 x.c2) (.slice x.a3 2 x.c3) 0 0 0 0 0 0),inR ia x.c1 r0.x.ptr r1.x.ptr,blk x.tb tabO,blk x.bg bgO,blk x.t zc9,blk x.mg mgO,blk x.mt (mtO x.mg),blk x.gd (grdO x.fl x.sh)]++([blk x.pt ptO,blk x.vt (votO x.vg),blk x.vg vgO,ownR 69 1 (.slice x.a2 2 x.c2) 2 [r0.va,r1.va],ownR 69 1 (.slice x.a3 2 x.c3) 2 [r0.vb,r1.vb],blk x.q (cfgO x.fl x.sh),blk r0.a z17O,blk r0.b z17O,blk r1.a z17O,blk r1.b z17O]++(lgL x.bk++(blk x.nt (noB nm)::blk nm (.map #[] 0)::ss)))):=by
  have:=g10;rw [hcs,ha] at this;exact this
 have f1:Own B w0 W (plR (.slice none 0 0) []::([instR r0.x,instR r1.x,segR x.p 141 (ndT x.fl x.sh 0 x.nt x.t (.slice (some ⟨ia,0,none⟩) 2 x.c1) (pI x.tb) (ptrV x.vt) x.gd (ptrV x.bk.p) (pI x.mt) (.slice (some ⟨x.pt,0,none⟩) 4 4) (.slice (some ⟨x.bg,0,none⟩) 2 2) (.slice x.a2 2 x.c2) (.slice x.a3 2 x.c3) 0 0 0 0 0 0),inR ia x.c1 r0.x.ptr r1.x.ptr,blk x.tb tabO,blk x.bg bgO,blk x.t zc9,blk x.mg mgO,blk x.mt (mtO x.mg),blk x.gd (grdO x.fl x.sh)]++([blk x.pt ptO,blk x.vt (votO x.vg),blk x.vg vgO,ownR 69 1 (.slice x.a2 2 x.c2) 2 [r0.va,r1.va],ownR 69 1 (.slice x.a3 2 x.c3) 2 [r0.vb,r1.vb],blk x.q (cfgO x.fl x.sh),blk r0.a z17O,blk r0.b z17O,blk r1.a z17O,blk r1.b z17O]++(lgL x.bk++(blk x.nt (noB nm)::blk nm (.map #[] 0)::ss))))):=f0.row0;have f2:Own B w0 W ([instR r0.x,instR r1.x,segR x.p 141 (ndT x.fl x.sh 0 x.nt x.t (.slice (some ⟨ia,0,none⟩) 2 x.c1) (pI x.tb) (ptrV x.vt) x.gd (ptrV x.bk.p) (pI x.mt) (.slice (some ⟨x.pt,0,none⟩) 4 4) (.slice (some ⟨x.bg,0,none⟩) 2 2) (.slice x.a2 2 x.c2) (.slice x.a3 2 x.c3) 0 0 0 0 0 0),inR ia x.c1 r0.x.ptr r1.x.ptr,blk x.tb tabO,blk x.bg bgO,blk x.t zc9,blk x.mg mgO,blk x.mt (mtO x.mg),blk x.gd (grdO x.fl x.sh)]++(plR (.slice none 0 0) []::([blk x.nt (noB nm),blk nm (.map #[] 0)]++(([blk x.pt ptO,blk x.vt (votO x.vg),blk x.vg vgO,ownR 69 1 (.slice x.a2 2 x.c2) 2 [r0.va,r1.va],ownR 69 1 (.slice x.a3 2 x.c3) 2 [r0.vb,r1.vb],blk x.q (cfgO x.fl x.sh),blk r0.a z17O,blk r0.b z17O,blk r1.a z17O,blk r1.b z17O]++lgL x.bk)++ss)))):=f1.perm (by
  refine (List.perm_middle (l₁:=[instR r0.x,instR r1.x,segR x.p 141 (ndT x.fl x.sh 0 x.nt x.t (.slice (some ⟨ia,0,none⟩) 2 x.c1) (pI x.tb) (ptrV x.vt) x.gd (ptrV x.bk.p) (pI x.mt) (.slice (some ⟨x.pt,0,none⟩) 4 4) (.slice (some ⟨x.bg,0,none⟩) 2 2) (.slice x.a2 2 x.c2) (.slice x.a3 2 x.c3) 0 0 0 0 0 0),inR ia x.c1 r0.x.ptr r1.x.ptr,blk x.tb tabO,blk x.bg bgO,blk x.t zc9,blk x.mg mgO,blk x.mt (mtO x.mg),blk x.gd (grdO x.fl x.sh)])).symm.trans ?_;refine List.Perm.append_left _ (List.Perm.cons _ ?_);have e:=List.perm_append_comm_assoc ([blk x.pt ptO,blk x.vt (votO x.vg),blk x.vg vgO,ownR 69 1 (.slice x.a2 2 x.c2) 2 [r0.va,r1.va],ownR 69 1 (.slice x.a3 2 x.c3) 2 [r0.vb,r1.vb],blk x.q (cfgO x.fl x.sh),blk r0.a z17O,blk r0.b z17O,blk r1.a z17O,blk r1.b z17O]++lgL x.bk) [blk x.nt (noB nm),blk nm (.map #[] 0)] ss;rw [List.append_assoc] at e;exact e)
 exact ⟨x.gd,x.t,ia,x.c1,r0.x.i,r1.x.i,x.tb,x.bg,x.mg,x.mt,ptrV x.vt,ptrV x.bk.p,.slice (some ⟨x.pt,0,none⟩) 4 4,.slice x.a2 2 x.c2,.slice x.a3 2 x.c3,.slice none 0 0,.slice none 0 0,0,[blk x.pt ptO,blk x.vt (votO x.vg),blk x.vg vgO,ownR 69 1 (.slice x.a2 2 x.c2) 2 [r0.va,r1.va],ownR 69 1 (.slice x.a3 2 x.c3) 2 [r0.vb,r1.vb],blk x.q (cfgO x.fl x.sh),blk r0.a z17O,blk r0.b z17O,blk r1.a z17O,blk r1.b z17O]++lgL x.bk,by omega,by omega,r0.x,r1.x,rfl,rfl,s0,s1,f2⟩
end
section
variable {B:Nat} {w0 w W:World} {ss:List Res} {p nt nm:Nat} {fl sh now bd sht:Int} {ps:List Peer}
theorem NQ.upd0 {W':World} (h:NQ B w0 W p nt nm fl sh now bd sht ps ss) (hu:Upd [] W W'):NQ B w0 W' p nt nm fl sh now bd sht ps ss:=by
 obtain ⟨gd,t,ia,ic,i0,i1,tbb,bgb,mgb,mtb,vt,bk,pt,v2,v3,cv,gv,st,rest,hs0,hs1,x0,x1,e0,e1,s0,s1,ho⟩:=h;exact ⟨gd,t,ia,ic,i0,i1,tbb,bgb,mgb,mtb,vt,bk,pt,v2,v3,cv,gv,st,rest,hs0,hs1,x0,x1,e0,e1,s0,s1,ho.upd0 hu⟩
theorem nq_tick (h0:0≤now) (h1:now≤1000) (h:NQ B w0 W p nt nm fl sh now bd sht ps ss):Calls Tryz.prog 33 #[pI p] W fun e w'=>e= .returned (.tuple #[])∧NQ B w0 w' p nt nm fl sh (now+1) bd sht ps ss:=by
 obtain ⟨gd,t,ia,ic,i0,i1,tbb,bgb,mgb,mtb,vt,bk,pt,v2,v3,cv,gv,st,rest,hs0,hs1,x0,x1,e0,e1,s0,s1,ho⟩:=h;refine (tick0 h0 h1 hs0 hs1 ⟨x0,x1,e0,e1,s0,s1,ho⟩).mono ?_;rintro e w' ⟨q1,st',hs0,hs1,x0,x1,e0,e1,s0,s1,h3⟩;exact ⟨q1,gd,t,ia,ic,i0,i1,tbb,bgb,mgb,mtb,vt,bk,pt,v2,v3,cv,gv,st',rest,hs0,hs1,x0,x1,e0,e1,s0,s1,h3⟩
theorem zn7 (h:NQ B w0 W p nt nm fl sh now bd sht ps ss):(W.cell? ⟨p,29,none⟩=some (.int .i64 0)∧W.cell? ⟨p,30,none⟩=some (.int .i64 (-1))∧W.cell? ⟨p,33,none⟩=some (.bool false)∧W.cell? ⟨p,34,none⟩=some (.slice none 0 0))∧
  (W.cell? ⟨p,35,none⟩=some (.int .i64 0)∧W.cell? ⟨p,36,none⟩=some (.int .i64 bd)∧W.cell? ⟨p,37,none⟩=some (.int .i64 0)∧W.cell? ⟨p,38,none⟩=some (.int .i64 sht)∧W.cell? ⟨p,39,none⟩=some (.int .i64 0))∧W.frozen? ⟨p,34,none⟩=false:=by
 obtain ⟨gd,t,ia,ic,i0,i1,tbb,bgb,mgb,mtb,vt,bk,pt,v2,v3,cv,gv,st,rest,hs0,hs1,x0,x1,e0,e1,s0,s1,ho⟩:=h;have hs:=fun i v hv=>zaf ho 2 rfl i (v:=v) hv;exact ⟨⟨(hs 29 _ rfl).1,(hs 30 _ rfl).1,(hs 33 _ rfl).1,(hs 34 _ rfl).1⟩,⟨(hs 35 _ rfl).1,(hs 36 _ rfl).1,(hs 37 _ rfl).1,(hs 38 _ rfl).1,(hs 39 _ rfl).1⟩,(hs 34 _ rfl).2⟩
theorem nq_view (h:NQ B w0 W p nt nm fl sh now bd sht ps ss):Calls Tryz.prog 24 #[pI p] W fun e w'=>e= .returned (.int .i64 0)∧W=w':=by
 obtain ⟨⟨c29,-⟩,-⟩:=zn7 h;clear h;go_enter Tryz.func24,Tryz.ntmps24
 go_wp2_with fail
 go_ret
 exact ⟨rfl,rfl⟩
theorem nq_voted (h:NQ B w0 W p nt nm fl sh now bd sht ps ss):Calls Tryz.prog 40 #[pI p] W fun e w'=>e= .returned (.int .i64 (-1))∧W=w':=by
 obtain ⟨⟨-,c30,-⟩,-⟩:=zn7 h;clear h;go_enter Tryz.func40,Tryz.ntmps40
 go_wp2_with fail
 go_ret
 exact ⟨rfl,rfl⟩
theorem zss (h:NQ B w0 W p nt nm fl sh now bd sht ps ss):Calls Tryz.prog 52 #[pI p] W fun e w'=>e= .returned (.bool false)∧W=w':=by
 obtain ⟨⟨-,-,c33,-⟩,-⟩:=zn7 h;clear h;go_enter Tryz.func52,Tryz.ntmps52
 go_wp2_with fail
 go_ret
 exact ⟨rfl,rfl⟩
theorem nq_out (h:NQ B w0 W p nt nm fl sh now bd sht ps ss):Calls Tryz.prog 26 #[pI p] W fun e w'=>e= .returned (.slice none 0 0)∧NQ B w0 w' p nt nm fl sh now bd sht ps ss:=by
 obtain ⟨⟨-,-,-,c34⟩,-,z34⟩:=zn7 h;have H:Hid (NQ B w0 (W.setCell ⟨p,34,none⟩ (.slice none 0 0)) p nt nm fl sh now bd sht ps ss):=zq (by
  obtain ⟨gd,t,ia,ic,i0,i1,tbb,bgb,mgb,mtb,vt,bk,pt,v2,v3,cv,gv,st,rest,hs0,hs1,x0,x1,e0,e1,s0,s1,ho⟩:=h;have h3:=ho.putAt 2 rfl 34 (.slice none 0 0);exact ⟨gd,t,ia,ic,i0,i1,tbb,bgb,mgb,mtb,vt,bk,pt,v2,v3,cv,gv,st,rest,hs0,hs1,x0,x1,e0,e1,s0,s1,h3⟩)
 clear h;go_enter Tryz.func26,Tryz.ntmps26
 go_wp2_with fail
 go_ret
 exact ⟨rfl,H.out⟩
theorem zmu (h:NQ B w0 W p nt nm fl sh now bd sht ps ss):Calls Tryz.prog 25 #[pI p,.int .i64 0] W fun e w'=>e= .returned (.bool true)∧W=w':=by
 obtain ⟨gd,t,ia,ic,i0,i1,tbb,bgb,mgb,mtb,vt,bk,pt,v2,v3,cv,gv,st,rest,hs0,hs1,x0,x1,e0,e1,s0,s1,ho⟩:=h;have HI:=zq (zdq ⟨x0,x1,e0,e1,s0,s1,ho⟩).1;obtain ⟨c18,-⟩:=zaf ho 2 rfl 18 rfl;obtain ⟨r0,-⟩:=zck (ho.get 3 rfl);clear ho;go_enter Tryz.func25,Tryz.ntmps25
 go_wp2_with fail
 refine HI.out.mono ?_;rintro e w' ⟨rfl,rfl⟩
 go_wp2_with fail
 go_ret
 exact ⟨rfl,rfl⟩
end
theorem zxg (w:World):Calls Tryz.prog 46 #[.int .i64 1] w fun e w'=>e= .returned (.agg (cfgF 8 8))∧Upd [] w w':=by
 go_enter Tryz.func46,Tryz.ntmps46
 go_wp2_with fail
 refine bodyPost_ret (v:= .agg (cfgF 8 8)) (by simp [results,Tryz.results46,go_sem]) rfl ⟨rfl,(Upd.refl _ _).alloc _⟩
theorem ziy (W:World):Calls Tryz.prog 19 #[] W fun e w'=>e= .returned (.bool true)∧Upd [] W w':=by
 have HN:=zq (zkt (Own.start (Below.refl W.heap.size W) (Nat.le_refl _)));go_enter Tryz.func19,Tryz.ntmps19
 go_wp2_with fail
 refine HN.out.mono ?_;rintro e w1 ⟨nt,nm,rfl,h1⟩;have H1:=zq h1;clear h1 HN
 go_wp2_with fail
 refine (zxg _).mono ?_;rintro e w2 ⟨rfl,hu⟩;have H2:=zq (H1.out.upd0 hu);clear hu H1;have HX:=zq (node_new 8 8 (by omega) (by omega) (by omega) (by omega) 0 nt (by omega) (by omega) H2.out)
 go_wp2_with fail
 refine HX.out.mono ?_;rintro e w3 ⟨x,rfl,hid,hnt,hfl,hsh,hok,h3⟩;subst hnt;have HQ:=zq (nq_new hid hok h3);rw [hfl,hsh] at HQ;clear hid hfl hsh hok h3 HX H2;generalize x.p=p at*;generalize x.nt=nt at*
 go_wp2_with fail
 refine (nq_view HQ.out).mono ?_;rintro e w' ⟨rfl,rfl⟩
 go_wp2_with fail
 refine (zmu HQ.out).mono ?_;rintro e w' ⟨rfl,rfl⟩
 go_wp2_with fail
 refine (nq_voted HQ.out).mono ?_;rintro e w' ⟨rfl,rfl⟩
 go_wp2_with fail
 refine (nq_tick (by omega) (by omega) HQ.out).mono ?_;rintro e w4 ⟨rfl,h4⟩;have H4:=zq h4;clear h4 HQ
 go_wp2_with fail
 refine (nq_out H4.out).mono ?_;rintro e w5 ⟨rfl,h5⟩;have H5:=zq h5;clear h5 H4
 go_wp2_with fail
 refine (zss H5.out).mono ?_;rintro e w' ⟨rfl,rfl⟩
 go_wp2_with fail
 go_ret
 obtain ⟨gd,t,ia,ic,i0,i1,tbb,bgb,mgb,mtb,vt,bk,pt,v2,v3,cv,gv,st,rest,hs0,hs1,x0,x1,e0,e1,s0,s1,ho⟩:=H5.out;exact ⟨rfl,Upd.of_below ho.below⟩
end Go.Proofs.YtannckelmojkoaaGreat
namespace Go.Proofs.YtannckelmojkoaaGreat.Ov
open Go
theorem laid:laidOutB Tryz.pinned.checked.prog=true:=by kernel_rfl
theorem maps:mapsRowed Tryz.pinned.checked.prog=true:=by kernel_rfl
theorem stops:(Tryz.pinned.checked.prog.stops==[])=true:=by kernel_rfl
theorem stopKnobs:(Tryz.pinned.checked.prog.stopKnobs==[])=true:=by kernel_rfl
theorem heard:Tryz.pinned.checked.prog.stopsHeard=true:=by kernel_rfl
theorem lifts:Tryz.pinned.checked.prog.liftsFinal=false:=by kernel_rfl
theorem make:(Tryz.pinned.checked.prog.make==some Make.cut)=true:=by kernel_rfl
theorem plain:Tryz.pinned.checked.prog.plainKeys=false:=by kernel_rfl
theorem enter:Tryz.pinned.checked.prog.mayEnter=true:=by kernel_rfl
theorem band {a b:Bool} (ha:a=true) (hb:b=true):(a&&b)=true:=by rw [ha,hb];rfl
end Go.Proofs.YtannckelmojkoaaGreat.Ov
