/- Parts of the proof, one behind the other. -/
import Derived.Test.YtannckelmojkoaaGreatVwsB13
set_option maxHeartbeats 32000000
set_option maxRecDepth 100000
set_option linter.unusedVariables false
set_option linter.unusedSimpArgs false
namespace Go.Proofs.YtannckelmojkoaaGreat
open Go.RowKit Go.Heap
section
variable {w:World} {f:Nat} {cl fm view inst seq res:Int} {vb vv vc vp:Value} {rs:List Rq} {vs:Vs} {cts:List Ct} {pts:List Pt}
theorem zuj (hf1:1≤f) (hf2:f≤4) (hc1:1≤cl) (hc2:cl≤4) (hl: ¬rs.length=1) (h:MmAt w ⟨1,fm,view,inst,seq,res,vb,rs,vv,vs,vc,cts,vp,pts⟩):
  Calls Tryz.prog 76 #[.agg (mmA ⟨1,fm,view,inst,seq,res,vb,rs,vv,vs,vc,cts,vp,pts⟩),.int .i64 f,.int .i64 cl] w fun e w'=>e= .returned (.bool (formP f cl (Mm.ms ⟨1,fm,view,inst,seq,res,vb,rs,vv,vs,vc,cts,vp,pts⟩)))∧Upd [] w w':=by
 have HM:=zq h;have HF:=zq h.form;obtain ⟨⟨ab,kb,eb⟩,⟨av,kv,ev⟩,⟨ac,kc,ec⟩,⟨ap,kp,ep⟩⟩:=h.form;clear h;simp only at eb ev ec ep;subst eb ev ec ep;have hz:(3*(f:Int)+1==0)=false:=by simp;omega
 have HN:=zq (fun w=>za0 (f:Int) w (by omega) (by omega));have H0:Hid (Own w.heap.size w ((w.alloc (mmB ⟨1,fm,view,inst,seq,res,.slice ab rs.length kb,rs,.slice av vs.length kv,vs,.slice ac cts.length kc,cts,.slice ap pts.length kp,pts⟩)).alloc (lkO f cl)) [_,_]):=zq (((Own.start (Below.refl w.heap.size w) (Nat.le_refl _)).box (mmB ⟨1,fm,view,inst,seq,res,.slice ab rs.length kb,rs,.slice av vs.length kv,vs,.slice ac cts.length kc,cts,.slice ap pts.length kp,pts⟩)).boxAt (lkO f cl) (n:=w.heap.size+1) (by simp));have hb0:zbm rs 1 1 cl=false:=by unfold zbm inW;rw [Bool.and_eq_false_iff];right;rw [Bool.and_eq_false_iff];simp only [decide_eq_false_iff_not];omega
 have HR1:=zq (fun (W:World) (b:Nat) (hb:b<W.heap.size) (hc: ∀j,(h:j<[view,inst,seq,res].length)→W.cell? ⟨b,j,none⟩=some (.int .i64 [view,inst,seq,res][j]))=>zb8 [view,inst,seq,res] b W hb (by simp) hc);have HR2:=zq (fun W=>zoq HF.out W);have HR3:=zq (fun W (hu:Upd [] w W)=>(hb0 ▸ zda f cl 1 1 _ rs W HM.out.bn (HM.out.upd hu).b:Calls Tryz.prog 139 #[lkA f cl,.slice ab rs.length kb,.int .i64 1,.int .i64 1] W fun e w'=>e= .returned (.bool false)∧Upd [] W w'));have HFP:Hid (formP f cl (Mm.ms ⟨1,fm,view,inst,seq,res,.slice ab rs.length kb,rs,.slice av vs.length kv,vs,.slice ac cts.length kc,cts,.slice ap pts.length kp,pts⟩)=((zeros [view,inst,seq,res])&&(bareP (Mm.ms ⟨1,fm,view,inst,seq,res,.slice ab rs.length kb,rs,.slice av vs.length kv,vs,.slice ac cts.length kc,cts,.slice ap pts.length kp,pts⟩) true false false false)&&(false))):=zq ((show formP f cl (Mm.ms ⟨1,fm,view,inst,seq,res,.slice ab rs.length kb,rs,.slice av vs.length kv,vs,.slice ac cts.length kc,cts,.slice ap pts.length kp,pts⟩)=(zeros [view,inst,seq,res]&&bareP (Mm.ms ⟨1,fm,view,inst,seq,res,.slice ab rs.length kb,rs,.slice av vs.length kv,vs,.slice ac cts.length kc,cts,.slice ap pts.length kp,pts⟩) true false false false&&zbm rs 1 1 cl&&decide (100≤fm)&&(fm-100==(reqAt rs 0).client)) from rfl).trans (by rw [hb0];simp));generalize zeros [view,inst,seq,res]=r1 at*;generalize bareP (Mm.ms ⟨1,fm,view,inst,seq,res,.slice ab rs.length kb,rs,.slice av vs.length kv,vs,.slice ac cts.length kc,cts,.slice ap pts.length kp,pts⟩) true false false false=r2 at*;unfold mmB lkO at H0;obtain ⟨k0,k1,k2,k3,k4,k5,k6,k7,k8,k9⟩:=zai (w:=_) (H0.out.blkAt 1 rfl);obtain ⟨z0,z1⟩:=zah (w:=_) (H0.out.blkAt 0 rfl);go_enter Tryz.func76,Tryz.ntmps76
 go_wp2_with fail
 refine (HN.out _).mono ?_;rintro e w' ⟨rfl,rfl⟩
 go_wp2_with fail
 have H1:=H0;clear H0;generalize World.alloc (World.alloc w _) _=w1 at*;refine Held.wp_held2 [(w.heap.size,0,[.int .i64 1,.int .i64 fm,.int .i64 view,.int .i64 inst,.int .i64 seq,.int .i64 res,.slice ab rs.length kb,.slice av vs.length kv,.slice ac cts.length kc,.slice ap pts.length kp]),(w.heap.size,2,[.int .i64 view]),(w.heap.size,3,[.int .i64 inst]),(w.heap.size,4,[.int .i64 seq]),(w.heap.size,5,[.int .i64 res]),(w.heap.size,6,[.slice ab rs.length kb]),(w.heap.size+1,0,[.int .i64 f,.int .i64 cl])] [(1,1),(3,2),(5,3),(7,4),(11,0),(15,6),(17,5),(22,6),(27,6),(30,5),(33,6)] [] [(10,true),(3,true),(6,true)] (by kernel_rfl) (by kernel_rfl) ⟨⟨k0,k1,k2,k3,k4,k5,k6,k7,k8,k9,trivial⟩,⟨k2,trivial⟩,⟨k3,trivial⟩,⟨k4,trivial⟩,⟨k5,trivial⟩,⟨k6,trivial⟩,⟨z0,z1,trivial⟩,trivial⟩ ?_;simp only [Held.cutAt,Held.walk,List.take_succ_cons,List.take_zero,List.drop_succ_cons,List.drop_zero];have H1d:=zq H1.out.drew
 go_wp2_with fail
 refine (HR1.out (w1.drew.alloc _) w1.drew.heap.size (by simp) (zee (heap_alloc_new w1.drew _))).mono ?_;rintro e w2 ⟨rfl,hu⟩;have H2:=zq ((H1d.out.alloc _).upd0 hu);clear hu;clear k0 k1 k2 k3 k4 k5 k6 k7 k8 k9 z0 z1;obtain ⟨k0,k1,k2,k3,k4,k5,k6,k7,k8,k9⟩:=zai (w:=w2) (H2.out.blkAt 1 rfl);obtain ⟨z0,z1⟩:=zah (w:=w2) (H2.out.blkAt 0 rfl)
 go_wp2_with fail
 refine ⟨⟨⟨k0,k1,k2,k3,k4,k5,k6,k7,k8,k9,trivial⟩,⟨k2,trivial⟩,⟨k3,trivial⟩,⟨k4,trivial⟩,⟨k5,trivial⟩,⟨k6,trivial⟩,⟨z0,z1,trivial⟩,trivial⟩,?_⟩;cases r1 with
 | false=>
  go_wp2_with fail
  refine ⟨⟨⟨k0,k1,k2,k3,k4,k5,k6,k7,k8,k9,trivial⟩,⟨k2,trivial⟩,⟨k3,trivial⟩,⟨k4,trivial⟩,⟨k5,trivial⟩,⟨k6,trivial⟩,⟨z0,z1,trivial⟩,trivial⟩,?_⟩
  go_wp2_with fail
  refine ⟨⟨⟨k0,k1,k2,k3,k4,k5,k6,k7,k8,k9,trivial⟩,⟨k2,trivial⟩,⟨k3,trivial⟩,⟨k4,trivial⟩,⟨k5,trivial⟩,⟨k6,trivial⟩,⟨z0,z1,trivial⟩,trivial⟩,?_⟩
  go_wp2_with fail
  refine ⟨trivial,by rfl,⟨.inr ⟨⟨rfl,.inl ⟨by kernel_rfl,rfl⟩⟩,trivial⟩,.inr ⟨⟨rfl,.inl ⟨by kernel_rfl,rfl⟩⟩,trivial⟩,.inr ⟨⟨rfl,.inl ⟨by kernel_rfl,rfl⟩⟩,trivial⟩,.inr ⟨⟨rfl,.inl ⟨by kernel_rfl,rfl⟩⟩,trivial⟩,.inl ⟨rfl,rfl⟩,.inl ⟨rfl,rfl⟩,.inl ⟨rfl,rfl⟩,.inl ⟨rfl,rfl⟩,.inl ⟨rfl,rfl⟩,.inl ⟨rfl,rfl⟩,.inl ⟨rfl,rfl⟩,trivial⟩,?_⟩
  go_wp2_with fail
  go_ret
  exact ⟨zae (HFP.out.trans (by simp)).symm,Upd.of_below H2.out.below⟩
 | true=>
  go_wp2_with fail
  refine (HR2.out _).mono ?_;rintro e w3 ⟨rfl,hu⟩;have H3:=zq (H2.out.upd0 hu);clear hu;clear k0 k1 k2 k3 k4 k5 k6 k7 k8 k9 z0 z1;obtain ⟨k0,k1,k2,k3,k4,k5,k6,k7,k8,k9⟩:=zai (w:=w3) (H3.out.blkAt 1 rfl);obtain ⟨z0,z1⟩:=zah (w:=w3) (H3.out.blkAt 0 rfl)
  go_wp2_with fail
  refine ⟨⟨⟨k0,k1,k2,k3,k4,k5,k6,k7,k8,k9,trivial⟩,⟨k2,trivial⟩,⟨k3,trivial⟩,⟨k4,trivial⟩,⟨k5,trivial⟩,⟨k6,trivial⟩,⟨z0,z1,trivial⟩,trivial⟩,?_⟩;cases r2 with
  | false=>
   go_wp2_with fail
   refine ⟨⟨⟨k0,k1,k2,k3,k4,k5,k6,k7,k8,k9,trivial⟩,⟨k2,trivial⟩,⟨k3,trivial⟩,⟨k4,trivial⟩,⟨k5,trivial⟩,⟨k6,trivial⟩,⟨z0,z1,trivial⟩,trivial⟩,?_⟩
   go_wp2_with fail
   refine ⟨trivial,by rfl,⟨.inr ⟨⟨rfl,.inl ⟨by kernel_rfl,rfl⟩⟩,trivial⟩,.inr ⟨⟨rfl,.inl ⟨by kernel_rfl,rfl⟩⟩,trivial⟩,.inr ⟨⟨rfl,.inl ⟨by kernel_rfl,rfl⟩⟩,trivial⟩,.inr ⟨⟨rfl,.inl ⟨by kernel_rfl,rfl⟩⟩,trivial⟩,.inr ⟨⟨rfl,.inr ⟨by kernel_rfl,by kernel_rfl⟩⟩,trivial⟩,.inl ⟨rfl,rfl⟩,.inl ⟨rfl,rfl⟩,.inl ⟨rfl,rfl⟩,.inl ⟨rfl,rfl⟩,.inl ⟨rfl,rfl⟩,.inl ⟨rfl,rfl⟩,trivial⟩,?_⟩
   go_wp2_with fail
   go_ret
   exact ⟨zae (HFP.out.trans (by simp)).symm,Upd.of_below H3.out.below⟩
  | true=>
   go_wp2_with fail
   refine (HR3.out _ (Upd.of_below H3.out.below)).mono ?_;rintro e w4 ⟨rfl,hu⟩;have H4:=zq (H3.out.upd0 hu);clear hu;clear k0 k1 k2 k3 k4 k5 k6 k7 k8 k9 z0 z1;obtain ⟨k0,k1,k2,k3,k4,k5,k6,k7,k8,k9⟩:=zai (w:=w4) (H4.out.blkAt 1 rfl);obtain ⟨z0,z1⟩:=zah (w:=w4) (H4.out.blkAt 0 rfl)
   go_wp2_with fail
   refine ⟨⟨⟨k0,k1,k2,k3,k4,k5,k6,k7,k8,k9,trivial⟩,⟨k2,trivial⟩,⟨k3,trivial⟩,⟨k4,trivial⟩,⟨k5,trivial⟩,⟨k6,trivial⟩,⟨z0,z1,trivial⟩,trivial⟩,?_⟩
   go_wp2_with fail
   refine ⟨trivial,by rfl,⟨.inr ⟨⟨rfl,.inl ⟨by kernel_rfl,rfl⟩⟩,trivial⟩,.inr ⟨⟨rfl,.inl ⟨by kernel_rfl,rfl⟩⟩,trivial⟩,.inr ⟨⟨rfl,.inl ⟨by kernel_rfl,rfl⟩⟩,trivial⟩,.inr ⟨⟨rfl,.inl ⟨by kernel_rfl,rfl⟩⟩,trivial⟩,.inr ⟨⟨rfl,.inr ⟨by kernel_rfl,by kernel_rfl⟩⟩,trivial⟩,.inr ⟨⟨rfl,.inr ⟨by kernel_rfl,by kernel_rfl⟩⟩,trivial⟩,.inr ⟨⟨rfl,.inl ⟨by kernel_rfl,rfl⟩⟩,trivial⟩,.inl ⟨rfl,rfl⟩,.inl ⟨rfl,rfl⟩,.inl ⟨rfl,rfl⟩,.inl ⟨rfl,rfl⟩,trivial⟩,?_⟩
   go_wp2_with fail
   go_ret
   exact ⟨zae (HFP.out.trans (by simp)).symm,Upd.of_below H4.out.below⟩
theorem zuk {r:Rq} (hf1:1≤f) (hf2:f≤4) (hc1:1≤cl) (hc2:cl≤4) (hm1: -9223372036854775000≤fm) (hm2:fm≤9223372036854775000) (h:MmAt w ⟨1,fm,view,inst,seq,res,vb,[r],vv,vs,vc,cts,vp,pts⟩):
  Calls Tryz.prog 76 #[.agg (mmA ⟨1,fm,view,inst,seq,res,vb,[r],vv,vs,vc,cts,vp,pts⟩),.int .i64 f,.int .i64 cl] w fun e w'=>e= .returned (.bool (formP f cl (Mm.ms ⟨1,fm,view,inst,seq,res,vb,[r],vv,vs,vc,cts,vp,pts⟩)))∧Upd [] w w':=by
 have HM:=zq h;have HF:=zq h.form;obtain ⟨⟨ab,kb,eb⟩,⟨av,kv,ev⟩,⟨ac,kc,ec⟩,⟨ap,kp,ep⟩⟩:=h.form;clear h;simp only at eb ev ec ep;subst eb ev ec ep;have hz:(3*(f:Int)+1==0)=false:=by simp;omega
 have HN:=zq (fun w=>za0 (f:Int) w (by omega) (by omega));have H0:Hid (Own w.heap.size w ((w.alloc (mmB ⟨1,fm,view,inst,seq,res,.slice ab [r].length kb,[r],.slice av vs.length kv,vs,.slice ac cts.length kc,cts,.slice ap pts.length kp,pts⟩)).alloc (lkO f cl)) [_,_]):=zq (((Own.start (Below.refl w.heap.size w) (Nat.le_refl _)).box (mmB ⟨1,fm,view,inst,seq,res,.slice ab [r].length kb,[r],.slice av vs.length kv,vs,.slice ac cts.length kc,cts,.slice ap pts.length kp,pts⟩)).boxAt (lkO f cl) (n:=w.heap.size+1) (by simp));have hbo: ∃b o,ab=some ⟨b,o,none⟩:=by
  obtain ⟨ao,cap,e,-,-,-,-,h5⟩:=HM.out.b;obtain ⟨b,o,rfl,-⟩:=h5 (by simp);cases e
  exact ⟨b,o,rfl⟩
 obtain ⟨b,o,rfl⟩:=hbo;have HCC:Hid (∀W,Below w.heap.size w W→W.cell? ⟨b,o,none⟩=some (.int .i64 r.client)):=zq (fun W hb=>by
  obtain ⟨ao,cap,e,-,-,-,-,h5⟩:=(HM.out.upd (Upd.of_below hb)).b;obtain ⟨b',o',rfl,-,hc⟩:=h5 (by simp);cases e
  exact (zb4 hc 0 r (by simp)).1)
 have HR1:=zq (fun (W:World) (b:Nat) (hb:b<W.heap.size) (hc: ∀j,(h:j<[view,inst,seq,res].length)→W.cell? ⟨b,j,none⟩=some (.int .i64 [view,inst,seq,res][j]))=>zb8 [view,inst,seq,res] b W hb (by simp) hc);have HR2:=zq (fun W=>zoq HF.out W);have HR3:=zq (fun W (hu:Upd [] w W)=>zda f cl 1 1 _ [r] W HM.out.bn (HM.out.upd hu).b);have HFP:Hid (formP f cl (Mm.ms ⟨1,fm,view,inst,seq,res,.slice (some ⟨b,o,none⟩) [r].length kb,[r],.slice av vs.length kv,vs,.slice ac cts.length kc,cts,.slice ap pts.length kp,pts⟩)=((zeros [view,inst,seq,res])&&(bareP (Mm.ms ⟨1,fm,view,inst,seq,res,.slice (some ⟨b,o,none⟩) [r].length kb,[r],.slice av vs.length kv,vs,.slice ac cts.length kc,cts,.slice ap pts.length kp,pts⟩) true false false false)&&(zbm [r] 1 1 cl)&&(decide (100≤fm))&&((fm-100==r.client)))):=zq (rfl);generalize zeros [view,inst,seq,res]=r1 at*;generalize bareP (Mm.ms ⟨1,fm,view,inst,seq,res,.slice (some ⟨b,o,none⟩) [r].length kb,[r],.slice av vs.length kv,vs,.slice ac cts.length kc,cts,.slice ap pts.length kp,pts⟩) true false false false=r2 at*;generalize zbm [r] 1 1 cl=r3 at*;generalize hr4:decide (100≤fm)=r4 at*;generalize hr5:(fm-100==r.client)=r5 at*;unfold mmB lkO at H0;obtain ⟨k0,k1,k2,k3,k4,k5,k6,k7,k8,k9⟩:=zai (w:=_) (H0.out.blkAt 1 rfl);obtain ⟨z0,z1⟩:=zah (w:=_) (H0.out.blkAt 0 rfl);go_enter Tryz.func76,Tryz.ntmps76
 go_wp2_with fail
 refine (HN.out _).mono ?_;rintro e w' ⟨rfl,rfl⟩
 go_wp2_with fail
 have H1:=H0;clear H0;generalize World.alloc (World.alloc w _) _=w1 at*;have x0:=HCC.out _ H1.out.below;refine Held.wp_held2 [(w.heap.size,0,[.int .i64 1,.int .i64 fm,.int .i64 view,.int .i64 inst,.int .i64 seq,.int .i64 res,.slice (some ⟨b,o,none⟩) [r].length kb,.slice av vs.length kv,.slice ac cts.length kc,.slice ap pts.length kp]),(w.heap.size,2,[.int .i64 view]),(w.heap.size,3,[.int .i64 inst]),(w.heap.size,4,[.int .i64 seq]),(w.heap.size,5,[.int .i64 res]),(w.heap.size,6,[.slice (some ⟨b,o,none⟩) [r].length kb]),(w.heap.size+1,0,[.int .i64 f,.int .i64 cl]),(w.heap.size,1,[.int .i64 fm]),(b,o,[.int .i64 r.client])] [(1,1),(3,2),(5,3),(7,4),(11,0),(15,6),(17,5),(22,7),(27,7),(30,5),(33,8)] [] [(10,true),(3,true),(6,true)] (by kernel_rfl) (by kernel_rfl) ⟨⟨k0,k1,k2,k3,k4,k5,k6,k7,k8,k9,trivial⟩,⟨k2,trivial⟩,⟨k3,trivial⟩,⟨k4,trivial⟩,⟨k5,trivial⟩,⟨k6,trivial⟩,⟨z0,z1,trivial⟩,⟨k1,trivial⟩,⟨x0,trivial⟩,trivial⟩ ?_;simp only [Held.cutAt,Held.walk,List.take_succ_cons,List.take_zero,List.drop_succ_cons,List.drop_zero];have H1d:=zq H1.out.drew
 go_wp2_with fail
 refine (HR1.out (w1.drew.alloc _) w1.drew.heap.size (by simp) (zee (heap_alloc_new w1.drew _))).mono ?_;rintro e w2 ⟨rfl,hu⟩;have H2:=zq ((H1d.out.alloc _).upd0 hu);clear hu;clear k0 k1 k2 k3 k4 k5 k6 k7 k8 k9 z0 z1;clear x0;obtain ⟨k0,k1,k2,k3,k4,k5,k6,k7,k8,k9⟩:=zai (w:=w2) (H2.out.blkAt 1 rfl);obtain ⟨z0,z1⟩:=zah (w:=w2) (H2.out.blkAt 0 rfl);have x0:=HCC.out _ H2.out.below
 go_wp2_with fail
 refine ⟨⟨⟨k0,k1,k2,k3,k4,k5,k6,k7,k8,k9,trivial⟩,⟨k2,trivial⟩,⟨k3,trivial⟩,⟨k4,trivial⟩,⟨k5,trivial⟩,⟨k6,trivial⟩,⟨z0,z1,trivial⟩,⟨k1,trivial⟩,⟨x0,trivial⟩,trivial⟩,?_⟩;cases r1 with
 | false=>
  go_wp2_with fail
  refine ⟨⟨⟨k0,k1,k2,k3,k4,k5,k6,k7,k8,k9,trivial⟩,⟨k2,trivial⟩,⟨k3,trivial⟩,⟨k4,trivial⟩,⟨k5,trivial⟩,⟨k6,trivial⟩,⟨z0,z1,trivial⟩,⟨k1,trivial⟩,⟨x0,trivial⟩,trivial⟩,?_⟩
  go_wp2_with fail
  refine ⟨⟨⟨k0,k1,k2,k3,k4,k5,k6,k7,k8,k9,trivial⟩,⟨k2,trivial⟩,⟨k3,trivial⟩,⟨k4,trivial⟩,⟨k5,trivial⟩,⟨k6,trivial⟩,⟨z0,z1,trivial⟩,⟨k1,trivial⟩,⟨x0,trivial⟩,trivial⟩,?_⟩
  go_wp2_with fail
  refine ⟨trivial,by rfl,⟨.inr ⟨⟨rfl,.inl ⟨by kernel_rfl,rfl⟩⟩,trivial⟩,.inr ⟨⟨rfl,.inl ⟨by kernel_rfl,rfl⟩⟩,trivial⟩,.inr ⟨⟨rfl,.inl ⟨by kernel_rfl,rfl⟩⟩,trivial⟩,.inr ⟨⟨rfl,.inl ⟨by kernel_rfl,rfl⟩⟩,trivial⟩,.inl ⟨rfl,rfl⟩,.inl ⟨rfl,rfl⟩,.inl ⟨rfl,rfl⟩,.inl ⟨rfl,rfl⟩,.inl ⟨rfl,rfl⟩,.inl ⟨rfl,rfl⟩,.inl ⟨rfl,rfl⟩,trivial⟩,?_⟩
  go_wp2_with fail
  go_ret
  exact ⟨zae (HFP.out.trans (by simp)).symm,Upd.of_below H2.out.below⟩
 | true=>
  go_wp2_with fail
  refine (HR2.out _).mono ?_;rintro e w3 ⟨rfl,hu⟩;have H3:=zq (H2.out.upd0 hu);clear hu;clear k0 k1 k2 k3 k4 k5 k6 k7 k8 k9 z0 z1;clear x0;obtain ⟨k0,k1,k2,k3,k4,k5,k6,k7,k8,k9⟩:=zai (w:=w3) (H3.out.blkAt 1 rfl);obtain ⟨z0,z1⟩:=zah (w:=w3) (H3.out.blkAt 0 rfl);have x0:=HCC.out _ H3.out.below
  go_wp2_with fail
  refine ⟨⟨⟨k0,k1,k2,k3,k4,k5,k6,k7,k8,k9,trivial⟩,⟨k2,trivial⟩,⟨k3,trivial⟩,⟨k4,trivial⟩,⟨k5,trivial⟩,⟨k6,trivial⟩,⟨z0,z1,trivial⟩,⟨k1,trivial⟩,⟨x0,trivial⟩,trivial⟩,?_⟩;cases r2 with
  | false=>
   go_wp2_with fail
   refine ⟨⟨⟨k0,k1,k2,k3,k4,k5,k6,k7,k8,k9,trivial⟩,⟨k2,trivial⟩,⟨k3,trivial⟩,⟨k4,trivial⟩,⟨k5,trivial⟩,⟨k6,trivial⟩,⟨z0,z1,trivial⟩,⟨k1,trivial⟩,⟨x0,trivial⟩,trivial⟩,?_⟩
   go_wp2_with fail
   refine ⟨trivial,by rfl,⟨.inr ⟨⟨rfl,.inl ⟨by kernel_rfl,rfl⟩⟩,trivial⟩,.inr ⟨⟨rfl,.inl ⟨by kernel_rfl,rfl⟩⟩,trivial⟩,.inr ⟨⟨rfl,.inl ⟨by kernel_rfl,rfl⟩⟩,trivial⟩,.inr ⟨⟨rfl,.inl ⟨by kernel_rfl,rfl⟩⟩,trivial⟩,.inr ⟨⟨rfl,.inr ⟨by kernel_rfl,by kernel_rfl⟩⟩,trivial⟩,.inl ⟨rfl,rfl⟩,.inl ⟨rfl,rfl⟩,.inl ⟨rfl,rfl⟩,.inl ⟨rfl,rfl⟩,.inl ⟨rfl,rfl⟩,.inl ⟨rfl,rfl⟩,trivial⟩,?_⟩
   go_wp2_with fail
   go_ret
   exact ⟨zae (HFP.out.trans (by simp)).symm,Upd.of_below H3.out.below⟩
  | true=>
   go_wp2_with fail
   refine (HR3.out _ (Upd.of_below H3.out.below)).mono ?_;rintro e w4 ⟨rfl,hu⟩;have H4:=zq (H3.out.upd0 hu);clear hu;clear k0 k1 k2 k3 k4 k5 k6 k7 k8 k9 z0 z1;clear x0;obtain ⟨k0,k1,k2,k3,k4,k5,k6,k7,k8,k9⟩:=zai (w:=w4) (H4.out.blkAt 1 rfl);obtain ⟨z0,z1⟩:=zah (w:=w4) (H4.out.blkAt 0 rfl);have x0:=HCC.out _ H4.out.below
   go_wp2_with fail
   refine ⟨⟨⟨k0,k1,k2,k3,k4,k5,k6,k7,k8,k9,trivial⟩,⟨k2,trivial⟩,⟨k3,trivial⟩,⟨k4,trivial⟩,⟨k5,trivial⟩,⟨k6,trivial⟩,⟨z0,z1,trivial⟩,⟨k1,trivial⟩,⟨x0,trivial⟩,trivial⟩,?_⟩;cases r3 with
   | false=>
    go_wp2_with fail
    refine ⟨trivial,by rfl,⟨.inr ⟨⟨rfl,.inl ⟨by kernel_rfl,rfl⟩⟩,trivial⟩,.inr ⟨⟨rfl,.inl ⟨by kernel_rfl,rfl⟩⟩,trivial⟩,.inr ⟨⟨rfl,.inl ⟨by kernel_rfl,rfl⟩⟩,trivial⟩,.inr ⟨⟨rfl,.inl ⟨by kernel_rfl,rfl⟩⟩,trivial⟩,.inr ⟨⟨rfl,.inr ⟨by kernel_rfl,by kernel_rfl⟩⟩,trivial⟩,.inr ⟨⟨rfl,.inr ⟨by kernel_rfl,by kernel_rfl⟩⟩,trivial⟩,.inr ⟨⟨rfl,.inl ⟨by kernel_rfl,rfl⟩⟩,trivial⟩,.inl ⟨rfl,rfl⟩,.inl ⟨rfl,rfl⟩,.inl ⟨rfl,rfl⟩,.inl ⟨rfl,rfl⟩,trivial⟩,?_⟩
    go_wp2_with fail
    go_ret
    exact ⟨zae (HFP.out.trans (by simp)).symm,Upd.of_below H4.out.below⟩
   | true=>
    cases r4 with
    | false=>
     go_wp2_with fail
     refine ⟨trivial,by rfl,⟨.inr ⟨⟨rfl,.inl ⟨by kernel_rfl,rfl⟩⟩,trivial⟩,.inr ⟨⟨rfl,.inl ⟨by kernel_rfl,rfl⟩⟩,trivial⟩,.inr ⟨⟨rfl,.inl ⟨by kernel_rfl,rfl⟩⟩,trivial⟩,.inr ⟨⟨rfl,.inl ⟨by kernel_rfl,rfl⟩⟩,trivial⟩,.inr ⟨⟨rfl,.inr ⟨by kernel_rfl,by kernel_rfl⟩⟩,trivial⟩,.inr ⟨⟨rfl,.inr ⟨by kernel_rfl,by kernel_rfl⟩⟩,trivial⟩,.inr ⟨⟨rfl,.inl ⟨by kernel_rfl,rfl⟩⟩,trivial⟩,.inr ⟨⟨rfl,.inl ⟨by kernel_rfl,rfl⟩⟩,trivial⟩,.inl ⟨rfl,rfl⟩,.inl ⟨rfl,rfl⟩,.inl ⟨rfl,rfl⟩,trivial⟩,?_⟩
     go_wp2_with fail
     go_ret
     exact ⟨zae (HFP.out.trans (by simp)).symm,Upd.of_below H4.out.below⟩
    | true=>
     cases r5 with
     | false=>
      go_wp2_with fail
      refine ⟨trivial,by rfl,⟨.inr ⟨⟨rfl,.inl ⟨by kernel_rfl,rfl⟩⟩,trivial⟩,.inr ⟨⟨rfl,.inl ⟨by kernel_rfl,rfl⟩⟩,trivial⟩,.inr ⟨⟨rfl,.inl ⟨by kernel_rfl,rfl⟩⟩,trivial⟩,.inr ⟨⟨rfl,.inl ⟨by kernel_rfl,rfl⟩⟩,trivial⟩,.inr ⟨⟨rfl,.inr ⟨by kernel_rfl,by kernel_rfl⟩⟩,trivial⟩,.inr ⟨⟨rfl,.inr ⟨by kernel_rfl,by kernel_rfl⟩⟩,trivial⟩,.inr ⟨⟨rfl,.inl ⟨by kernel_rfl,rfl⟩⟩,trivial⟩,.inr ⟨⟨rfl,.inl ⟨by kernel_rfl,rfl⟩⟩,trivial⟩,.inr ⟨⟨rfl,.inl ⟨by kernel_rfl,rfl⟩⟩,trivial⟩,.inr ⟨⟨rfl,.inl ⟨by kernel_rfl,rfl⟩⟩,trivial⟩,.inr ⟨⟨rfl,.inl ⟨by kernel_rfl,rfl⟩⟩,trivial⟩,trivial⟩,?_⟩
      go_wp2_with fail
      go_ret
      exact ⟨zae (HFP.out.trans (by simp)).symm,Upd.of_below H4.out.below⟩
     | true=>
      go_wp2_with fail
      refine ⟨trivial,by rfl,⟨.inr ⟨⟨rfl,.inl ⟨by kernel_rfl,rfl⟩⟩,trivial⟩,.inr ⟨⟨rfl,.inl ⟨by kernel_rfl,rfl⟩⟩,trivial⟩,.inr ⟨⟨rfl,.inl ⟨by kernel_rfl,rfl⟩⟩,trivial⟩,.inr ⟨⟨rfl,.inl ⟨by kernel_rfl,rfl⟩⟩,trivial⟩,.inr ⟨⟨rfl,.inr ⟨by kernel_rfl,by kernel_rfl⟩⟩,trivial⟩,.inr ⟨⟨rfl,.inr ⟨by kernel_rfl,by kernel_rfl⟩⟩,trivial⟩,.inr ⟨⟨rfl,.inl ⟨by kernel_rfl,rfl⟩⟩,trivial⟩,.inr ⟨⟨rfl,.inl ⟨by kernel_rfl,rfl⟩⟩,trivial⟩,.inr ⟨⟨rfl,.inl ⟨by kernel_rfl,rfl⟩⟩,trivial⟩,.inr ⟨⟨rfl,.inl ⟨by kernel_rfl,rfl⟩⟩,trivial⟩,.inr ⟨⟨rfl,.inl ⟨by kernel_rfl,rfl⟩⟩,trivial⟩,trivial⟩,?_⟩
      go_wp2_with fail
      go_ret
      exact ⟨zae (HFP.out.trans (by simp)).symm,Upd.of_below H4.out.below⟩
theorem zq0 (hf1:1≤f) (hf2:f≤4) (hc1:1≤cl) (hc2:cl≤4) (h:MmAt w ⟨3,fm,view,inst,seq,res,vb,rs,vv,vs,vc,cts,vp,pts⟩):
  Calls Tryz.prog 76 #[.agg (mmA ⟨3,fm,view,inst,seq,res,vb,rs,vv,vs,vc,cts,vp,pts⟩),.int .i64 f,.int .i64 cl] w fun e w'=>e= .returned (.bool (formP f cl (Mm.ms ⟨3,fm,view,inst,seq,res,vb,rs,vv,vs,vc,cts,vp,pts⟩)))∧Upd [] w w':=by
 have HM:=zq h;have HF:=zq h.form;obtain ⟨⟨ab,kb,eb⟩,⟨av,kv,ev⟩,⟨ac,kc,ec⟩,⟨ap,kp,ep⟩⟩:=h.form;clear h;simp only at eb ev ec ep;subst eb ev ec ep;have hz:(3*(f:Int)+1==0)=false:=by simp;omega
 have HN:=zq (fun w=>za0 (f:Int) w (by omega) (by omega));have H0:Hid (Own w.heap.size w ((w.alloc (mmB ⟨3,fm,view,inst,seq,res,.slice ab rs.length kb,rs,.slice av vs.length kv,vs,.slice ac cts.length kc,cts,.slice ap pts.length kp,pts⟩)).alloc (lkO f cl)) [_,_]):=zq (((Own.start (Below.refl w.heap.size w) (Nat.le_refl _)).box (mmB ⟨3,fm,view,inst,seq,res,.slice ab rs.length kb,rs,.slice av vs.length kv,vs,.slice ac cts.length kc,cts,.slice ap pts.length kp,pts⟩)).boxAt (lkO f cl) (n:=w.heap.size+1) (by simp));have HR2:=zq (fun W=>zoq HF.out W);have HR3:=zq (fun W=>zfh f cl view inst seq W);have HR4:=zq (fun W (hu:Upd [] w W)=>zda f cl 1 4 _ rs W HM.out.bn (HM.out.upd hu).b);have HR5:=zq (fun W=>zil f view inst W hf1 hf2);have HFP:Hid (formP f cl (Mm.ms ⟨3,fm,view,inst,seq,res,.slice ab rs.length kb,rs,.slice av vs.length kv,vs,.slice ac cts.length kc,cts,.slice ap pts.length kp,pts⟩)=(zbv f fm&&(((res==0))&&(bareP (Mm.ms ⟨3,fm,view,inst,seq,res,.slice ab rs.length kb,rs,.slice av vs.length kv,vs,.slice ac cts.length kc,cts,.slice ap pts.length kp,pts⟩) true false false false)&&(zce f view inst seq)&&(zbm rs 1 4 cl)&&((fm==zan f view inst))))):=zq (rfl);generalize hr1:(res==0)=r1 at*;generalize bareP (Mm.ms ⟨3,fm,view,inst,seq,res,.slice ab rs.length kb,rs,.slice av vs.length kv,vs,.slice ac cts.length kc,cts,.slice ap pts.length kp,pts⟩) true false false false=r2 at*;generalize zce f view inst seq=r3 at*;generalize zbm rs 1 4 cl=r4 at*;generalize zan f view inst=pp at*;generalize hr6:(fm==zan f view inst)=r6 at*;have HNO:=zq (fun w=>zc3 f cl fm w hf1 hf2);generalize zbv f fm=rn at*;unfold mmB lkO at H0;obtain ⟨k0,k1,k2,k3,k4,k5,k6,k7,k8,k9⟩:=zai (w:=_) (H0.out.blkAt 1 rfl);obtain ⟨z0,z1⟩:=zah (w:=_) (H0.out.blkAt 0 rfl);go_enter Tryz.func76,Tryz.ntmps76
 go_wp2_with fail
 refine (HN.out _).mono ?_;rintro e w' ⟨rfl,rfl⟩
 go_wp2_with fail
 refine (HNO.out _).mono ?_;rintro e w1 ⟨rfl,hu⟩;have H1:=zq (H0.out.upd0 hu);clear hu;clear k0 k1 k2 k3 k4 k5 k6 k7 k8 k9 z0 z1;obtain ⟨k0,k1,k2,k3,k4,k5,k6,k7,k8,k9⟩:=zai (w:=w1) (H1.out.blkAt 1 rfl);obtain ⟨z0,z1⟩:=zah (w:=w1) (H1.out.blkAt 0 rfl);cases rn with
 | false=>
  go_wp2_with fail
  go_ret
  exact ⟨zae (HFP.out.trans (by simp)).symm,Upd.of_below H1.out.below⟩
 | true=>
  go_wp2_with fail
  refine Held.wp_held2 [(w.heap.size,0,[.int .i64 3,.int .i64 fm,.int .i64 view,.int .i64 inst,.int .i64 seq,.int .i64 res,.slice ab rs.length kb,.slice av vs.length kv,.slice ac cts.length kc,.slice ap pts.length kp]),(w.heap.size,1,[.int .i64 fm]),(w.heap.size,2,[.int .i64 view]),(w.heap.size,3,[.int .i64 inst]),(w.heap.size,4,[.int .i64 seq]),(w.heap.size,5,[.int .i64 res]),(w.heap.size,6,[.slice ab rs.length kb]),(w.heap.size+1,0,[.int .i64 f,.int .i64 cl])] [(1,5),(4,0),(8,7),(10,2),(12,3),(14,4),(18,7),(20,6),(25,1),(28,2),(30,3)] [] [(6,true),(10,true),(6,true),(10,true)] (by kernel_rfl) (by kernel_rfl) ⟨⟨k0,k1,k2,k3,k4,k5,k6,k7,k8,k9,trivial⟩,⟨k1,trivial⟩,⟨k2,trivial⟩,⟨k3,trivial⟩,⟨k4,trivial⟩,⟨k5,trivial⟩,⟨k6,trivial⟩,⟨z0,z1,trivial⟩,trivial⟩ ?_;simp only [Held.cutAt,Held.walk,List.take_succ_cons,List.take_zero,List.drop_succ_cons,List.drop_zero];have H1d:=zq H1.out.drew;cases r1 with
  | false=>
   go_wp2_with fail
   refine ⟨⟨⟨k0,k1,k2,k3,k4,k5,k6,k7,k8,k9,trivial⟩,⟨k1,trivial⟩,⟨k2,trivial⟩,⟨k3,trivial⟩,⟨k4,trivial⟩,⟨k5,trivial⟩,⟨k6,trivial⟩,⟨z0,z1,trivial⟩,trivial⟩,?_⟩
   go_wp2_with fail
   refine ⟨⟨⟨k0,k1,k2,k3,k4,k5,k6,k7,k8,k9,trivial⟩,⟨k1,trivial⟩,⟨k2,trivial⟩,⟨k3,trivial⟩,⟨k4,trivial⟩,⟨k5,trivial⟩,⟨k6,trivial⟩,⟨z0,z1,trivial⟩,trivial⟩,?_⟩
   go_wp2_with fail
   refine ⟨⟨⟨k0,k1,k2,k3,k4,k5,k6,k7,k8,k9,trivial⟩,⟨k1,trivial⟩,⟨k2,trivial⟩,⟨k3,trivial⟩,⟨k4,trivial⟩,⟨k5,trivial⟩,⟨k6,trivial⟩,⟨z0,z1,trivial⟩,trivial⟩,?_⟩
   go_wp2_with fail
   refine ⟨⟨⟨k0,k1,k2,k3,k4,k5,k6,k7,k8,k9,trivial⟩,⟨k1,trivial⟩,⟨k2,trivial⟩,⟨k3,trivial⟩,⟨k4,trivial⟩,⟨k5,trivial⟩,⟨k6,trivial⟩,⟨z0,z1,trivial⟩,trivial⟩,?_⟩
   go_wp2_with fail
   refine ⟨trivial,by rfl,⟨.inr ⟨⟨rfl,.inl ⟨by kernel_rfl,rfl⟩⟩,trivial⟩,.inl ⟨rfl,rfl⟩,.inl ⟨rfl,rfl⟩,.inl ⟨rfl,rfl⟩,.inl ⟨rfl,rfl⟩,.inl ⟨rfl,rfl⟩,.inl ⟨rfl,rfl⟩,.inl ⟨rfl,rfl⟩,.inl ⟨rfl,rfl⟩,.inl ⟨rfl,rfl⟩,.inl ⟨rfl,rfl⟩,trivial⟩,?_⟩
   go_wp2_with fail
   go_ret
   exact ⟨zae (HFP.out.trans (by simp)).symm,Upd.of_below H1d.out.below⟩
  | true=>
   go_wp2_with fail
   refine (HR2.out _).mono ?_;rintro e w2 ⟨rfl,hu⟩;have H2:=zq (H1d.out.upd0 hu);clear hu;clear k0 k1 k2 k3 k4 k5 k6 k7 k8 k9 z0 z1;obtain ⟨k0,k1,k2,k3,k4,k5,k6,k7,k8,k9⟩:=zai (w:=w2) (H2.out.blkAt 1 rfl);obtain ⟨z0,z1⟩:=zah (w:=w2) (H2.out.blkAt 0 rfl)
   go_wp2_with fail
   refine ⟨⟨⟨k0,k1,k2,k3,k4,k5,k6,k7,k8,k9,trivial⟩,⟨k1,trivial⟩,⟨k2,trivial⟩,⟨k3,trivial⟩,⟨k4,trivial⟩,⟨k5,trivial⟩,⟨k6,trivial⟩,⟨z0,z1,trivial⟩,trivial⟩,?_⟩;cases r2 with
   | false=>
    go_wp2_with fail
    refine ⟨⟨⟨k0,k1,k2,k3,k4,k5,k6,k7,k8,k9,trivial⟩,⟨k1,trivial⟩,⟨k2,trivial⟩,⟨k3,trivial⟩,⟨k4,trivial⟩,⟨k5,trivial⟩,⟨k6,trivial⟩,⟨z0,z1,trivial⟩,trivial⟩,?_⟩
    go_wp2_with fail
    refine ⟨⟨⟨k0,k1,k2,k3,k4,k5,k6,k7,k8,k9,trivial⟩,⟨k1,trivial⟩,⟨k2,trivial⟩,⟨k3,trivial⟩,⟨k4,trivial⟩,⟨k5,trivial⟩,⟨k6,trivial⟩,⟨z0,z1,trivial⟩,trivial⟩,?_⟩
    go_wp2_with fail
    refine ⟨⟨⟨k0,k1,k2,k3,k4,k5,k6,k7,k8,k9,trivial⟩,⟨k1,trivial⟩,⟨k2,trivial⟩,⟨k3,trivial⟩,⟨k4,trivial⟩,⟨k5,trivial⟩,⟨k6,trivial⟩,⟨z0,z1,trivial⟩,trivial⟩,?_⟩
    go_wp2_with fail
    refine ⟨trivial,by rfl,⟨.inr ⟨⟨rfl,.inl ⟨by kernel_rfl,rfl⟩⟩,trivial⟩,.inr ⟨⟨rfl,.inr ⟨by kernel_rfl,by kernel_rfl⟩⟩,trivial⟩,.inl ⟨rfl,rfl⟩,.inl ⟨rfl,rfl⟩,.inl ⟨rfl,rfl⟩,.inl ⟨rfl,rfl⟩,.inl ⟨rfl,rfl⟩,.inl ⟨rfl,rfl⟩,.inl ⟨rfl,rfl⟩,.inl ⟨rfl,rfl⟩,.inl ⟨rfl,rfl⟩,trivial⟩,?_⟩
    go_wp2_with fail
    go_ret
    exact ⟨zae (HFP.out.trans (by simp)).symm,Upd.of_below H2.out.below⟩
   | true=>
    go_wp2_with fail
    refine (HR3.out _).mono ?_;rintro e w3 ⟨rfl,hu⟩;have H3:=zq (H2.out.upd0 hu);clear hu;clear k0 k1 k2 k3 k4 k5 k6 k7 k8 k9 z0 z1;obtain ⟨k0,k1,k2,k3,k4,k5,k6,k7,k8,k9⟩:=zai (w:=w3) (H3.out.blkAt 1 rfl);obtain ⟨z0,z1⟩:=zah (w:=w3) (H3.out.blkAt 0 rfl)
    go_wp2_with fail
    refine ⟨⟨⟨k0,k1,k2,k3,k4,k5,k6,k7,k8,k9,trivial⟩,⟨k1,trivial⟩,⟨k2,trivial⟩,⟨k3,trivial⟩,⟨k4,trivial⟩,⟨k5,trivial⟩,⟨k6,trivial⟩,⟨z0,z1,trivial⟩,trivial⟩,?_⟩;cases r3 with
    | false=>
     go_wp2_with fail
     refine ⟨⟨⟨k0,k1,k2,k3,k4,k5,k6,k7,k8,k9,trivial⟩,⟨k1,trivial⟩,⟨k2,trivial⟩,⟨k3,trivial⟩,⟨k4,trivial⟩,⟨k5,trivial⟩,⟨k6,trivial⟩,⟨z0,z1,trivial⟩,trivial⟩,?_⟩
     go_wp2_with fail
     refine ⟨⟨⟨k0,k1,k2,k3,k4,k5,k6,k7,k8,k9,trivial⟩,⟨k1,trivial⟩,⟨k2,trivial⟩,⟨k3,trivial⟩,⟨k4,trivial⟩,⟨k5,trivial⟩,⟨k6,trivial⟩,⟨z0,z1,trivial⟩,trivial⟩,?_⟩
     go_wp2_with fail
     refine ⟨trivial,by rfl,⟨.inr ⟨⟨rfl,.inl ⟨by kernel_rfl,rfl⟩⟩,trivial⟩,.inr ⟨⟨rfl,.inr ⟨by kernel_rfl,by kernel_rfl⟩⟩,trivial⟩,.inr ⟨⟨rfl,.inr ⟨by kernel_rfl,by kernel_rfl⟩⟩,trivial⟩,.inr ⟨⟨rfl,.inl ⟨by kernel_rfl,rfl⟩⟩,trivial⟩,.inr ⟨⟨rfl,.inl ⟨by kernel_rfl,rfl⟩⟩,trivial⟩,.inr ⟨⟨rfl,.inl ⟨by kernel_rfl,rfl⟩⟩,trivial⟩,.inl ⟨rfl,rfl⟩,.inl ⟨rfl,rfl⟩,.inl ⟨rfl,rfl⟩,.inl ⟨rfl,rfl⟩,.inl ⟨rfl,rfl⟩,trivial⟩,?_⟩
     go_wp2_with fail
     go_ret
     exact ⟨zae (HFP.out.trans (by simp)).symm,Upd.of_below H3.out.below⟩
    | true=>
     go_wp2_with fail
     refine (HR4.out _ (Upd.of_below H3.out.below)).mono ?_;rintro e w4 ⟨rfl,hu⟩;have H4:=zq (H3.out.upd0 hu);clear hu;clear k0 k1 k2 k3 k4 k5 k6 k7 k8 k9 z0 z1;obtain ⟨k0,k1,k2,k3,k4,k5,k6,k7,k8,k9⟩:=zai (w:=w4) (H4.out.blkAt 1 rfl);obtain ⟨z0,z1⟩:=zah (w:=w4) (H4.out.blkAt 0 rfl)
     go_wp2_with fail
     refine ⟨⟨⟨k0,k1,k2,k3,k4,k5,k6,k7,k8,k9,trivial⟩,⟨k1,trivial⟩,⟨k2,trivial⟩,⟨k3,trivial⟩,⟨k4,trivial⟩,⟨k5,trivial⟩,⟨k6,trivial⟩,⟨z0,z1,trivial⟩,trivial⟩,?_⟩;cases r4 with
     | false=>
      go_wp2_with fail
      refine ⟨⟨⟨k0,k1,k2,k3,k4,k5,k6,k7,k8,k9,trivial⟩,⟨k1,trivial⟩,⟨k2,trivial⟩,⟨k3,trivial⟩,⟨k4,trivial⟩,⟨k5,trivial⟩,⟨k6,trivial⟩,⟨z0,z1,trivial⟩,trivial⟩,?_⟩
      go_wp2_with fail
      refine ⟨trivial,by rfl,⟨.inr ⟨⟨rfl,.inl ⟨by kernel_rfl,rfl⟩⟩,trivial⟩,.inr ⟨⟨rfl,.inr ⟨by kernel_rfl,by kernel_rfl⟩⟩,trivial⟩,.inr ⟨⟨rfl,.inr ⟨by kernel_rfl,by kernel_rfl⟩⟩,trivial⟩,.inr ⟨⟨rfl,.inl ⟨by kernel_rfl,rfl⟩⟩,trivial⟩,.inr ⟨⟨rfl,.inl ⟨by kernel_rfl,rfl⟩⟩,trivial⟩,.inr ⟨⟨rfl,.inl ⟨by kernel_rfl,rfl⟩⟩,trivial⟩,.inr ⟨⟨rfl,.inr ⟨by kernel_rfl,by kernel_rfl⟩⟩,trivial⟩,.inr ⟨⟨rfl,.inl ⟨by kernel_rfl,rfl⟩⟩,trivial⟩,.inl ⟨rfl,rfl⟩,.inl ⟨rfl,rfl⟩,.inl ⟨rfl,rfl⟩,trivial⟩,?_⟩
      go_wp2_with fail
      go_ret
      exact ⟨zae (HFP.out.trans (by simp)).symm,Upd.of_below H4.out.below⟩
     | true=>
      go_wp2_with fail
      refine (HR5.out _).mono ?_;rintro e w5 ⟨rfl,hu⟩;have H5:=zq (H4.out.upd0 hu);clear hu;clear k0 k1 k2 k3 k4 k5 k6 k7 k8 k9 z0 z1;obtain ⟨k0,k1,k2,k3,k4,k5,k6,k7,k8,k9⟩:=zai (w:=w5) (H5.out.blkAt 1 rfl);obtain ⟨z0,z1⟩:=zah (w:=w5) (H5.out.blkAt 0 rfl)
      go_wp2_with fail
      refine ⟨⟨⟨k0,k1,k2,k3,k4,k5,k6,k7,k8,k9,trivial⟩,⟨k1,trivial⟩,⟨k2,trivial⟩,⟨k3,trivial⟩,⟨k4,trivial⟩,⟨k5,trivial⟩,⟨k6,trivial⟩,⟨z0,z1,trivial⟩,trivial⟩,?_⟩;cases r6 with
      | false=>
       go_wp2_with fail
       refine ⟨trivial,by rfl,⟨.inr ⟨⟨rfl,.inl ⟨by kernel_rfl,rfl⟩⟩,trivial⟩,.inr ⟨⟨rfl,.inr ⟨by kernel_rfl,by kernel_rfl⟩⟩,trivial⟩,.inr ⟨⟨rfl,.inr ⟨by kernel_rfl,by kernel_rfl⟩⟩,trivial⟩,.inr ⟨⟨rfl,.inl ⟨by kernel_rfl,rfl⟩⟩,trivial⟩,.inr ⟨⟨rfl,.inl ⟨by kernel_rfl,rfl⟩⟩,trivial⟩,.inr ⟨⟨rfl,.inl ⟨by kernel_rfl,rfl⟩⟩,trivial⟩,.inr ⟨⟨rfl,.inr ⟨by kernel_rfl,by kernel_rfl⟩⟩,trivial⟩,.inr ⟨⟨rfl,.inl ⟨by kernel_rfl,rfl⟩⟩,trivial⟩,.inr ⟨⟨rfl,.inl ⟨by kernel_rfl,rfl⟩⟩,trivial⟩,.inr ⟨⟨rfl,.inl ⟨by kernel_rfl,rfl⟩⟩,trivial⟩,.inr ⟨⟨rfl,.inl ⟨by kernel_rfl,rfl⟩⟩,trivial⟩,trivial⟩,?_⟩
       go_wp2_with fail
       go_ret
       exact ⟨zae (HFP.out.trans (by simp)).symm,Upd.of_below H5.out.below⟩
      | true=>
       go_wp2_with fail
       refine ⟨trivial,by rfl,⟨.inr ⟨⟨rfl,.inl ⟨by kernel_rfl,rfl⟩⟩,trivial⟩,.inr ⟨⟨rfl,.inr ⟨by kernel_rfl,by kernel_rfl⟩⟩,trivial⟩,.inr ⟨⟨rfl,.inr ⟨by kernel_rfl,by kernel_rfl⟩⟩,trivial⟩,.inr ⟨⟨rfl,.inl ⟨by kernel_rfl,rfl⟩⟩,trivial⟩,.inr ⟨⟨rfl,.inl ⟨by kernel_rfl,rfl⟩⟩,trivial⟩,.inr ⟨⟨rfl,.inl ⟨by kernel_rfl,rfl⟩⟩,trivial⟩,.inr ⟨⟨rfl,.inr ⟨by kernel_rfl,by kernel_rfl⟩⟩,trivial⟩,.inr ⟨⟨rfl,.inl ⟨by kernel_rfl,rfl⟩⟩,trivial⟩,.inr ⟨⟨rfl,.inl ⟨by kernel_rfl,rfl⟩⟩,trivial⟩,.inr ⟨⟨rfl,.inl ⟨by kernel_rfl,rfl⟩⟩,trivial⟩,.inr ⟨⟨rfl,.inl ⟨by kernel_rfl,rfl⟩⟩,trivial⟩,trivial⟩,?_⟩
       go_wp2_with fail
       go_ret
       exact ⟨zae (HFP.out.trans (by simp)).symm,Upd.of_below H5.out.below⟩
theorem zqw (hf1:1≤f) (hf2:f≤4) (hc1:1≤cl) (hc2:cl≤4) (h:MmAt w ⟨8,fm,view,inst,seq,res,vb,rs,vv,vs,vc,cts,vp,pts⟩):
  Calls Tryz.prog 76 #[.agg (mmA ⟨8,fm,view,inst,seq,res,vb,rs,vv,vs,vc,cts,vp,pts⟩),.int .i64 f,.int .i64 cl] w fun e w'=>e= .returned (.bool (formP f cl (Mm.ms ⟨8,fm,view,inst,seq,res,vb,rs,vv,vs,vc,cts,vp,pts⟩)))∧Upd [] w w':=by
 have HM:=zq h;have HF:=zq h.form;obtain ⟨⟨ab,kb,eb⟩,⟨av,kv,ev⟩,⟨ac,kc,ec⟩,⟨ap,kp,ep⟩⟩:=h.form;clear h;simp only at eb ev ec ep;subst eb ev ec ep;have hz:(3*(f:Int)+1==0)=false:=by simp;omega
 have HN:=zq (fun w=>za0 (f:Int) w (by omega) (by omega));have H0:Hid (Own w.heap.size w ((w.alloc (mmB ⟨8,fm,view,inst,seq,res,.slice ab rs.length kb,rs,.slice av vs.length kv,vs,.slice ac cts.length kc,cts,.slice ap pts.length kp,pts⟩)).alloc (lkO f cl)) [_,_]):=zq (((Own.start (Below.refl w.heap.size w) (Nat.le_refl _)).box (mmB ⟨8,fm,view,inst,seq,res,.slice ab rs.length kb,rs,.slice av vs.length kv,vs,.slice ac cts.length kc,cts,.slice ap pts.length kp,pts⟩)).boxAt (lkO f cl) (n:=w.heap.size+1) (by simp));have HR1:=zq (fun (W:World) (b:Nat) (hb:b<W.heap.size) (hc: ∀j,(h:j<[seq,res].length)→W.cell? ⟨b,j,none⟩=some (.int .i64 [seq,res][j]))=>zb8 [seq,res] b W hb (by simp) hc);have HR2:=zq (fun W=>bare_p HF.out W);have HR3:=zq (fun W=>zd0 view 1 12 W);have HR4:=zq (fun W=>zd0 inst 0 (f:Int) W);have HR5:=zq (fun W=>zil f view inst W hf1 hf2);have HR7:=zq (fun W (hu:Upd [] w W)=>zsf f cl view _ pts W hf1 hf2 HM.out.pn (HM.out.upd hu).p);have HFP:Hid (formP f cl (Mm.ms ⟨8,fm,view,inst,seq,res,.slice ab rs.length kb,rs,.slice av vs.length kv,vs,.slice ac cts.length kc,cts,.slice ap pts.length kp,pts⟩)=(zbv f fm&&((zeros [seq,res])&&(bareP (Mm.ms ⟨8,fm,view,inst,seq,res,.slice ab rs.length kb,rs,.slice av vs.length kv,vs,.slice ac cts.length kc,cts,.slice ap pts.length kp,pts⟩) false false false true)&&(inW view 1 12)&&(inW inst 0 (f:Int))&&((fm==zan f view inst))&&(okParts f cl view (pts.map Pt.pa))))):=zq (rfl);generalize zeros [seq,res]=r1 at*;generalize bareP (Mm.ms ⟨8,fm,view,inst,seq,res,.slice ab rs.length kb,rs,.slice av vs.length kv,vs,.slice ac cts.length kc,cts,.slice ap pts.length kp,pts⟩) false false false true=r2 at*;generalize inW view 1 12=r3 at*;generalize inW inst 0 (f:Int)=r4 at*;generalize zan f view inst=pp at*;generalize hr6:(fm==pp)=r6 at*;generalize okParts f cl view (pts.map Pt.pa)=r7 at*;have HNO:=zq (fun w=>zc3 f cl fm w hf1 hf2);generalize zbv f fm=rn at*;unfold mmB lkO at H0;obtain ⟨k0,k1,k2,k3,k4,k5,k6,k7,k8,k9⟩:=zai (w:=_) (H0.out.blkAt 1 rfl);obtain ⟨z0,z1⟩:=zah (w:=_) (H0.out.blkAt 0 rfl);go_enter Tryz.func76,Tryz.ntmps76
 go_wp2_with fail
 refine (HN.out _).mono ?_;rintro e w' ⟨rfl,rfl⟩
 go_wp2_with fail
 refine (HNO.out _).mono ?_;rintro e w1 ⟨rfl,hu⟩;have H1:=zq (H0.out.upd0 hu);clear hu;clear k0 k1 k2 k3 k4 k5 k6 k7 k8 k9 z0 z1;obtain ⟨k0,k1,k2,k3,k4,k5,k6,k7,k8,k9⟩:=zai (w:=w1) (H1.out.blkAt 1 rfl);obtain ⟨z0,z1⟩:=zah (w:=w1) (H1.out.blkAt 0 rfl);cases rn with
 | false=>
  go_wp2_with fail
  go_ret
  exact ⟨zae (HFP.out.trans (by simp)).symm,Upd.of_below H1.out.below⟩
 | true=>
  go_wp2_with fail
  refine Held.wp_held2 [(w.heap.size,0,[.int .i64 8,.int .i64 fm,.int .i64 view,.int .i64 inst,.int .i64 seq,.int .i64 res,.slice ab rs.length kb,.slice av vs.length kv,.slice ac cts.length kc,.slice ap pts.length kp]),(w.heap.size,1,[.int .i64 fm]),(w.heap.size,2,[.int .i64 view]),(w.heap.size,3,[.int .i64 inst]),(w.heap.size,4,[.int .i64 seq]),(w.heap.size,5,[.int .i64 res]),(w.heap.size,9,[.slice ap pts.length kp]),(w.heap.size+1,0,[.int .i64 f,.int .i64 cl])] [(1,4),(3,5),(7,0),(12,2),(17,3),(23,1),(26,2),(28,3),(33,7),(35,2),(37,6)] [38] [(6,true),(3,true),(5,true),(6,true),(10,true),(9,false)] (by kernel_rfl) (by kernel_rfl) ⟨⟨k0,k1,k2,k3,k4,k5,k6,k7,k8,k9,trivial⟩,⟨k1,trivial⟩,⟨k2,trivial⟩,⟨k3,trivial⟩,⟨k4,trivial⟩,⟨k5,trivial⟩,⟨k9,trivial⟩,⟨z0,z1,trivial⟩,trivial⟩ ?_;simp only [Held.cutAt,Held.walk,List.take_succ_cons,List.take_zero,List.drop_succ_cons,List.drop_zero];have H1d:=zq H1.out.drew
  go_wp2_with fail
  refine (HR1.out (w1.drew.alloc _) w1.drew.heap.size (by simp) (zee (heap_alloc_new w1.drew _))).mono ?_;rintro e w2 ⟨rfl,hu⟩;have H2:=zq ((H1d.out.alloc _).upd0 hu);clear hu;clear k0 k1 k2 k3 k4 k5 k6 k7 k8 k9 z0 z1;obtain ⟨k0,k1,k2,k3,k4,k5,k6,k7,k8,k9⟩:=zai (w:=w2) (H2.out.blkAt 1 rfl);obtain ⟨z0,z1⟩:=zah (w:=w2) (H2.out.blkAt 0 rfl)
  go_wp2_with fail
  refine ⟨⟨⟨k0,k1,k2,k3,k4,k5,k6,k7,k8,k9,trivial⟩,⟨k1,trivial⟩,⟨k2,trivial⟩,⟨k3,trivial⟩,⟨k4,trivial⟩,⟨k5,trivial⟩,⟨k9,trivial⟩,⟨z0,z1,trivial⟩,trivial⟩,?_⟩;cases r1 with
  | false=>
   go_wp2_with fail
   refine ⟨⟨⟨k0,k1,k2,k3,k4,k5,k6,k7,k8,k9,trivial⟩,⟨k1,trivial⟩,⟨k2,trivial⟩,⟨k3,trivial⟩,⟨k4,trivial⟩,⟨k5,trivial⟩,⟨k9,trivial⟩,⟨z0,z1,trivial⟩,trivial⟩,?_⟩
   go_wp2_with fail
   refine ⟨⟨⟨k0,k1,k2,k3,k4,k5,k6,k7,k8,k9,trivial⟩,⟨k1,trivial⟩,⟨k2,trivial⟩,⟨k3,trivial⟩,⟨k4,trivial⟩,⟨k5,trivial⟩,⟨k9,trivial⟩,⟨z0,z1,trivial⟩,trivial⟩,?_⟩
   go_wp2_with fail
   refine ⟨⟨⟨k0,k1,k2,k3,k4,k5,k6,k7,k8,k9,trivial⟩,⟨k1,trivial⟩,⟨k2,trivial⟩,⟨k3,trivial⟩,⟨k4,trivial⟩,⟨k5,trivial⟩,⟨k9,trivial⟩,⟨z0,z1,trivial⟩,trivial⟩,?_⟩
   go_wp2_with fail
   refine ⟨⟨⟨k0,k1,k2,k3,k4,k5,k6,k7,k8,k9,trivial⟩,⟨k1,trivial⟩,⟨k2,trivial⟩,⟨k3,trivial⟩,⟨k4,trivial⟩,⟨k5,trivial⟩,⟨k9,trivial⟩,⟨z0,z1,trivial⟩,trivial⟩,?_⟩
   go_wp2_with fail
   refine ⟨trivial,?_⟩
   go_wp2_with fail
   refine ⟨trivial,by rfl,⟨.inr ⟨⟨rfl,.inl ⟨by kernel_rfl,rfl⟩⟩,trivial⟩,.inr ⟨⟨rfl,.inl ⟨by kernel_rfl,rfl⟩⟩,trivial⟩,.inl ⟨rfl,rfl⟩,.inl ⟨rfl,rfl⟩,.inl ⟨rfl,rfl⟩,.inl ⟨rfl,rfl⟩,.inl ⟨rfl,rfl⟩,.inl ⟨rfl,rfl⟩,.inl ⟨rfl,rfl⟩,.inl ⟨rfl,rfl⟩,.inl ⟨rfl,rfl⟩,trivial⟩,?_⟩
   go_wp2_with fail
   go_ret
   exact ⟨zae (HFP.out.trans (by simp)).symm,Upd.of_below H2.out.below⟩
  | true=>
   go_wp2_with fail
   refine (HR2.out _).mono ?_;rintro e w3 ⟨rfl,hu⟩;have H3:=zq (H2.out.upd0 hu);clear hu;clear k0 k1 k2 k3 k4 k5 k6 k7 k8 k9 z0 z1;obtain ⟨k0,k1,k2,k3,k4,k5,k6,k7,k8,k9⟩:=zai (w:=w3) (H3.out.blkAt 1 rfl);obtain ⟨z0,z1⟩:=zah (w:=w3) (H3.out.blkAt 0 rfl)
   go_wp2_with fail
   refine ⟨⟨⟨k0,k1,k2,k3,k4,k5,k6,k7,k8,k9,trivial⟩,⟨k1,trivial⟩,⟨k2,trivial⟩,⟨k3,trivial⟩,⟨k4,trivial⟩,⟨k5,trivial⟩,⟨k9,trivial⟩,⟨z0,z1,trivial⟩,trivial⟩,?_⟩;cases r2 with
   | false=>
    go_wp2_with fail
    refine ⟨⟨⟨k0,k1,k2,k3,k4,k5,k6,k7,k8,k9,trivial⟩,⟨k1,trivial⟩,⟨k2,trivial⟩,⟨k3,trivial⟩,⟨k4,trivial⟩,⟨k5,trivial⟩,⟨k9,trivial⟩,⟨z0,z1,trivial⟩,trivial⟩,?_⟩
    go_wp2_with fail
    refine ⟨⟨⟨k0,k1,k2,k3,k4,k5,k6,k7,k8,k9,trivial⟩,⟨k1,trivial⟩,⟨k2,trivial⟩,⟨k3,trivial⟩,⟨k4,trivial⟩,⟨k5,trivial⟩,⟨k9,trivial⟩,⟨z0,z1,trivial⟩,trivial⟩,?_⟩
    go_wp2_with fail
    refine ⟨⟨⟨k0,k1,k2,k3,k4,k5,k6,k7,k8,k9,trivial⟩,⟨k1,trivial⟩,⟨k2,trivial⟩,⟨k3,trivial⟩,⟨k4,trivial⟩,⟨k5,trivial⟩,⟨k9,trivial⟩,⟨z0,z1,trivial⟩,trivial⟩,?_⟩
    go_wp2_with fail
    refine ⟨trivial,?_⟩
    go_wp2_with fail
    refine ⟨trivial,by rfl,⟨.inr ⟨⟨rfl,.inl ⟨by kernel_rfl,rfl⟩⟩,trivial⟩,.inr ⟨⟨rfl,.inl ⟨by kernel_rfl,rfl⟩⟩,trivial⟩,.inr ⟨⟨rfl,.inr ⟨by kernel_rfl,by kernel_rfl⟩⟩,trivial⟩,.inl ⟨rfl,rfl⟩,.inl ⟨rfl,rfl⟩,.inl ⟨rfl,rfl⟩,.inl ⟨rfl,rfl⟩,.inl ⟨rfl,rfl⟩,.inl ⟨rfl,rfl⟩,.inl ⟨rfl,rfl⟩,.inl ⟨rfl,rfl⟩,trivial⟩,?_⟩
    go_wp2_with fail
    go_ret
    exact ⟨zae (HFP.out.trans (by simp)).symm,Upd.of_below H3.out.below⟩
   | true=>
    go_wp2_with fail
    refine (HR3.out _).mono ?_;rintro e w4 ⟨rfl,hu⟩;have H4:=zq (H3.out.upd0 hu);clear hu;clear k0 k1 k2 k3 k4 k5 k6 k7 k8 k9 z0 z1;obtain ⟨k0,k1,k2,k3,k4,k5,k6,k7,k8,k9⟩:=zai (w:=w4) (H4.out.blkAt 1 rfl);obtain ⟨z0,z1⟩:=zah (w:=w4) (H4.out.blkAt 0 rfl)
    go_wp2_with fail
    refine ⟨⟨⟨k0,k1,k2,k3,k4,k5,k6,k7,k8,k9,trivial⟩,⟨k1,trivial⟩,⟨k2,trivial⟩,⟨k3,trivial⟩,⟨k4,trivial⟩,⟨k5,trivial⟩,⟨k9,trivial⟩,⟨z0,z1,trivial⟩,trivial⟩,?_⟩;cases r3 with
    | false=>
     go_wp2_with fail
     refine ⟨⟨⟨k0,k1,k2,k3,k4,k5,k6,k7,k8,k9,trivial⟩,⟨k1,trivial⟩,⟨k2,trivial⟩,⟨k3,trivial⟩,⟨k4,trivial⟩,⟨k5,trivial⟩,⟨k9,trivial⟩,⟨z0,z1,trivial⟩,trivial⟩,?_⟩
     go_wp2_with fail
     refine ⟨⟨⟨k0,k1,k2,k3,k4,k5,k6,k7,k8,k9,trivial⟩,⟨k1,trivial⟩,⟨k2,trivial⟩,⟨k3,trivial⟩,⟨k4,trivial⟩,⟨k5,trivial⟩,⟨k9,trivial⟩,⟨z0,z1,trivial⟩,trivial⟩,?_⟩
     go_wp2_with fail
     refine ⟨trivial,?_⟩
     go_wp2_with fail
     refine ⟨trivial,by rfl,⟨.inr ⟨⟨rfl,.inl ⟨by kernel_rfl,rfl⟩⟩,trivial⟩,.inr ⟨⟨rfl,.inl ⟨by kernel_rfl,rfl⟩⟩,trivial⟩,.inr ⟨⟨rfl,.inr ⟨by kernel_rfl,by kernel_rfl⟩⟩,trivial⟩,.inr ⟨⟨rfl,.inl ⟨by kernel_rfl,rfl⟩⟩,trivial⟩,.inl ⟨rfl,rfl⟩,.inl ⟨rfl,rfl⟩,.inl ⟨rfl,rfl⟩,.inl ⟨rfl,rfl⟩,.inl ⟨rfl,rfl⟩,.inl ⟨rfl,rfl⟩,.inl ⟨rfl,rfl⟩,trivial⟩,?_⟩
     go_wp2_with fail
     go_ret
     exact ⟨zae (HFP.out.trans (by simp)).symm,Upd.of_below H4.out.below⟩
    | true=>
     go_wp2_with fail
     refine (HR4.out _).mono ?_;rintro e w5 ⟨rfl,hu⟩;have H5:=zq (H4.out.upd0 hu);clear hu;clear k0 k1 k2 k3 k4 k5 k6 k7 k8 k9 z0 z1;obtain ⟨k0,k1,k2,k3,k4,k5,k6,k7,k8,k9⟩:=zai (w:=w5) (H5.out.blkAt 1 rfl);obtain ⟨z0,z1⟩:=zah (w:=w5) (H5.out.blkAt 0 rfl)
     go_wp2_with fail
     refine ⟨⟨⟨k0,k1,k2,k3,k4,k5,k6,k7,k8,k9,trivial⟩,⟨k1,trivial⟩,⟨k2,trivial⟩,⟨k3,trivial⟩,⟨k4,trivial⟩,⟨k5,trivial⟩,⟨k9,trivial⟩,⟨z0,z1,trivial⟩,trivial⟩,?_⟩;cases r4 with
     | false=>
      go_wp2_with fail
      refine ⟨⟨⟨k0,k1,k2,k3,k4,k5,k6,k7,k8,k9,trivial⟩,⟨k1,trivial⟩,⟨k2,trivial⟩,⟨k3,trivial⟩,⟨k4,trivial⟩,⟨k5,trivial⟩,⟨k9,trivial⟩,⟨z0,z1,trivial⟩,trivial⟩,?_⟩
      go_wp2_with fail
      refine ⟨trivial,?_⟩
      go_wp2_with fail
      refine ⟨trivial,by rfl,⟨.inr ⟨⟨rfl,.inl ⟨by kernel_rfl,rfl⟩⟩,trivial⟩,.inr ⟨⟨rfl,.inl ⟨by kernel_rfl,rfl⟩⟩,trivial⟩,.inr ⟨⟨rfl,.inr ⟨by kernel_rfl,by kernel_rfl⟩⟩,trivial⟩,.inr ⟨⟨rfl,.inl ⟨by kernel_rfl,rfl⟩⟩,trivial⟩,.inr ⟨⟨rfl,.inl ⟨by kernel_rfl,rfl⟩⟩,trivial⟩,.inl ⟨rfl,rfl⟩,.inl ⟨rfl,rfl⟩,.inl ⟨rfl,rfl⟩,.inl ⟨rfl,rfl⟩,.inl ⟨rfl,rfl⟩,.inl ⟨rfl,rfl⟩,trivial⟩,?_⟩
      go_wp2_with fail
      go_ret
      exact ⟨zae (HFP.out.trans (by simp)).symm,Upd.of_below H5.out.below⟩
     | true=>
      go_wp2_with fail
      refine (HR5.out _).mono ?_;rintro e w6 ⟨rfl,hu⟩;have H6:=zq (H5.out.upd0 hu);clear hu;clear k0 k1 k2 k3 k4 k5 k6 k7 k8 k9 z0 z1;obtain ⟨k0,k1,k2,k3,k4,k5,k6,k7,k8,k9⟩:=zai (w:=w6) (H6.out.blkAt 1 rfl);obtain ⟨z0,z1⟩:=zah (w:=w6) (H6.out.blkAt 0 rfl)
      go_wp2_with fail
      refine ⟨⟨⟨k0,k1,k2,k3,k4,k5,k6,k7,k8,k9,trivial⟩,⟨k1,trivial⟩,⟨k2,trivial⟩,⟨k3,trivial⟩,⟨k4,trivial⟩,⟨k5,trivial⟩,⟨k9,trivial⟩,⟨z0,z1,trivial⟩,trivial⟩,?_⟩;cases r6 with
      | false=>
       go_wp2_with fail
       refine ⟨trivial,?_⟩
       go_wp2_with fail
       refine ⟨trivial,by rfl,⟨.inr ⟨⟨rfl,.inl ⟨by kernel_rfl,rfl⟩⟩,trivial⟩,.inr ⟨⟨rfl,.inl ⟨by kernel_rfl,rfl⟩⟩,trivial⟩,.inr ⟨⟨rfl,.inr ⟨by kernel_rfl,by kernel_rfl⟩⟩,trivial⟩,.inr ⟨⟨rfl,.inl ⟨by kernel_rfl,rfl⟩⟩,trivial⟩,.inr ⟨⟨rfl,.inl ⟨by kernel_rfl,rfl⟩⟩,trivial⟩,.inr ⟨⟨rfl,.inl ⟨by kernel_rfl,rfl⟩⟩,trivial⟩,.inr ⟨⟨rfl,.inl ⟨by kernel_rfl,rfl⟩⟩,trivial⟩,.inr ⟨⟨rfl,.inl ⟨by kernel_rfl,rfl⟩⟩,trivial⟩,.inl ⟨rfl,rfl⟩,.inl ⟨rfl,rfl⟩,.inl ⟨rfl,rfl⟩,trivial⟩,?_⟩
       go_wp2_with fail
       go_ret
       exact ⟨zae (HFP.out.trans (by simp)).symm,Upd.of_below H6.out.below⟩
      | true=>
       go_wp2_with fail
       refine (HR7.out _ (Upd.of_below H6.out.below)).mono ?_;rintro e w7 ⟨rfl,hu⟩;have H7:=zq (H6.out.upd0 hu);clear hu;clear k0 k1 k2 k3 k4 k5 k6 k7 k8 k9 z0 z1;obtain ⟨k0,k1,k2,k3,k4,k5,k6,k7,k8,k9⟩:=zai (w:=w7) (H7.out.blkAt 1 rfl);obtain ⟨z0,z1⟩:=zah (w:=w7) (H7.out.blkAt 0 rfl)
       go_wp2_with fail
       refine ⟨trivial,?_⟩;cases r7 with
       | false=>
        go_wp2_with fail
        refine ⟨trivial,by rfl,⟨.inr ⟨⟨rfl,.inl ⟨by kernel_rfl,rfl⟩⟩,trivial⟩,.inr ⟨⟨rfl,.inl ⟨by kernel_rfl,rfl⟩⟩,trivial⟩,.inr ⟨⟨rfl,.inr ⟨by kernel_rfl,by kernel_rfl⟩⟩,trivial⟩,.inr ⟨⟨rfl,.inl ⟨by kernel_rfl,rfl⟩⟩,trivial⟩,.inr ⟨⟨rfl,.inl ⟨by kernel_rfl,rfl⟩⟩,trivial⟩,.inr ⟨⟨rfl,.inl ⟨by kernel_rfl,rfl⟩⟩,trivial⟩,.inr ⟨⟨rfl,.inl ⟨by kernel_rfl,rfl⟩⟩,trivial⟩,.inr ⟨⟨rfl,.inl ⟨by kernel_rfl,rfl⟩⟩,trivial⟩,.inr ⟨⟨rfl,.inr ⟨by kernel_rfl,by kernel_rfl⟩⟩,trivial⟩,.inr ⟨⟨rfl,.inl ⟨by kernel_rfl,rfl⟩⟩,trivial⟩,.inr ⟨⟨rfl,.inl ⟨by kernel_rfl,rfl⟩⟩,trivial⟩,trivial⟩,?_⟩
        go_wp2_with fail
        go_ret
        exact ⟨zae (HFP.out.trans (by simp)).symm,Upd.of_below H7.out.below⟩
       | true=>
        go_wp2_with fail
        refine ⟨trivial,by rfl,⟨.inr ⟨⟨rfl,.inl ⟨by kernel_rfl,rfl⟩⟩,trivial⟩,.inr ⟨⟨rfl,.inl ⟨by kernel_rfl,rfl⟩⟩,trivial⟩,.inr ⟨⟨rfl,.inr ⟨by kernel_rfl,by kernel_rfl⟩⟩,trivial⟩,.inr ⟨⟨rfl,.inl ⟨by kernel_rfl,rfl⟩⟩,trivial⟩,.inr ⟨⟨rfl,.inl ⟨by kernel_rfl,rfl⟩⟩,trivial⟩,.inr ⟨⟨rfl,.inl ⟨by kernel_rfl,rfl⟩⟩,trivial⟩,.inr ⟨⟨rfl,.inl ⟨by kernel_rfl,rfl⟩⟩,trivial⟩,.inr ⟨⟨rfl,.inl ⟨by kernel_rfl,rfl⟩⟩,trivial⟩,.inr ⟨⟨rfl,.inr ⟨by kernel_rfl,by kernel_rfl⟩⟩,trivial⟩,.inr ⟨⟨rfl,.inl ⟨by kernel_rfl,rfl⟩⟩,trivial⟩,.inr ⟨⟨rfl,.inl ⟨by kernel_rfl,rfl⟩⟩,trivial⟩,trivial⟩,?_⟩
        go_wp2_with fail
        go_ret
        exact ⟨zae (HFP.out.trans (by simp)).symm,Upd.of_below H7.out.below⟩
theorem zqx (hf1:1≤f) (hf2:f≤4) (hc1:1≤cl) (hc2:cl≤4) (hl: ¬cts.length=1) (h:MmAt w ⟨9,fm,view,inst,seq,res,vb,rs,vv,vs,vc,cts,vp,pts⟩):
  Calls Tryz.prog 76 #[.agg (mmA ⟨9,fm,view,inst,seq,res,vb,rs,vv,vs,vc,cts,vp,pts⟩),.int .i64 f,.int .i64 cl] w fun e w'=>e= .returned (.bool (formP f cl (Mm.ms ⟨9,fm,view,inst,seq,res,vb,rs,vv,vs,vc,cts,vp,pts⟩)))∧Upd [] w w':=by
 have HM:=zq h;have HF:=zq h.form;obtain ⟨⟨ab,kb,eb⟩,⟨av,kv,ev⟩,⟨ac,kc,ec⟩,⟨ap,kp,ep⟩⟩:=h.form;clear h;simp only at eb ev ec ep;subst eb ev ec ep;have hz:(3*(f:Int)+1==0)=false:=by simp;omega
 have HN:=zq (fun w=>za0 (f:Int) w (by omega) (by omega));have H0:Hid (Own w.heap.size w ((w.alloc (mmB ⟨9,fm,view,inst,seq,res,.slice ab rs.length kb,rs,.slice av vs.length kv,vs,.slice ac cts.length kc,cts,.slice ap pts.length kp,pts⟩)).alloc (lkO f cl)) [_,_]):=zq (((Own.start (Below.refl w.heap.size w) (Nat.le_refl _)).box (mmB ⟨9,fm,view,inst,seq,res,.slice ab rs.length kb,rs,.slice av vs.length kv,vs,.slice ac cts.length kc,cts,.slice ap pts.length kp,pts⟩)).boxAt (lkO f cl) (n:=w.heap.size+1) (by simp));have hr3:((cts.length:Int)==1)=false:=by simp;omega
 have HR1:=zq (fun (W:World) (b:Nat) (hb:b<W.heap.size) (hc: ∀j,(h:j<[view,inst,seq,res].length)→W.cell? ⟨b,j,none⟩=some (.int .i64 [view,inst,seq,res][j]))=>zb8 [view,inst,seq,res] b W hb (by simp) hc);have HR2:=zq (fun W=>bare_c HF.out W);have HR4:=zq trivial;have HFP:Hid (formP f cl (Mm.ms ⟨9,fm,view,inst,seq,res,.slice ab rs.length kb,rs,.slice av vs.length kv,vs,.slice ac cts.length kc,cts,.slice ap pts.length kp,pts⟩)=(zbv f fm&&((zeros [view,inst,seq,res])&&(bareP (Mm.ms ⟨9,fm,view,inst,seq,res,.slice ab rs.length kb,rs,.slice av vs.length kv,vs,.slice ac cts.length kc,cts,.slice ap pts.length kp,pts⟩) false false true false)&&false))):=zq ((show formP f cl (Mm.ms ⟨9,fm,view,inst,seq,res,.slice ab rs.length kb,rs,.slice av vs.length kv,vs,.slice ac cts.length kc,cts,.slice ap pts.length kp,pts⟩)=(zbv f fm&&(zeros [view,inst,seq,res]&&bareP (Mm.ms ⟨9,fm,view,inst,seq,res,.slice ab rs.length kb,rs,.slice av vs.length kv,vs,.slice ac cts.length kc,cts,.slice ap pts.length kp,pts⟩) false false true false&&(((cts.map Ct.cp).length:Int)==1)&&zgg f cl (zfa (cts.map Ct.cp) 0))) from rfl).trans (by rw [List.length_map,hr3];simp));generalize zeros [view,inst,seq,res]=r1 at*;generalize bareP (Mm.ms ⟨9,fm,view,inst,seq,res,.slice ab rs.length kb,rs,.slice av vs.length kv,vs,.slice ac cts.length kc,cts,.slice ap pts.length kp,pts⟩) false false true false=r2 at*;have HNO:=zq (fun w=>zc3 f cl fm w hf1 hf2);generalize zbv f fm=rn at*;unfold mmB lkO at H0;obtain ⟨k0,k1,k2,k3,k4,k5,k6,k7,k8,k9⟩:=zai (w:=_) (H0.out.blkAt 1 rfl);obtain ⟨z0,z1⟩:=zah (w:=_) (H0.out.blkAt 0 rfl);go_enter Tryz.func76,Tryz.ntmps76
 go_wp2_with fail
 refine (HN.out _).mono ?_;rintro e w' ⟨rfl,rfl⟩
 go_wp2_with fail
 refine (HNO.out _).mono ?_;rintro e w1 ⟨rfl,hu⟩;have H1:=zq (H0.out.upd0 hu);clear hu;clear k0 k1 k2 k3 k4 k5 k6 k7 k8 k9 z0 z1;obtain ⟨k0,k1,k2,k3,k4,k5,k6,k7,k8,k9⟩:=zai (w:=w1) (H1.out.blkAt 1 rfl);obtain ⟨z0,z1⟩:=zah (w:=w1) (H1.out.blkAt 0 rfl);cases rn with
 | false=>
  go_wp2_with fail
  go_ret
  exact ⟨zae (HFP.out.trans (by simp)).symm,Upd.of_below H1.out.below⟩
 | true=>
  go_wp2_with fail
  refine Held.wp_held2 [(w.heap.size,0,[.int .i64 9,.int .i64 fm,.int .i64 view,.int .i64 inst,.int .i64 seq,.int .i64 res,.slice ab rs.length kb,.slice av vs.length kv,.slice ac cts.length kc,.slice ap pts.length kp]),(w.heap.size,2,[.int .i64 view]),(w.heap.size,3,[.int .i64 inst]),(w.heap.size,4,[.int .i64 seq]),(w.heap.size,5,[.int .i64 res]),(w.heap.size,8,[.slice ac cts.length kc]),(w.heap.size+1,0,[.int .i64 f,.int .i64 cl])] [(1,1),(3,2),(5,3),(7,4),(11,0),(16,5),(21,6),(23,5),(25,6)] [26] [(10,true),(3,true),(14,false)] (by kernel_rfl) (by kernel_rfl) ⟨⟨k0,k1,k2,k3,k4,k5,k6,k7,k8,k9,trivial⟩,⟨k2,trivial⟩,⟨k3,trivial⟩,⟨k4,trivial⟩,⟨k5,trivial⟩,⟨k8,trivial⟩,⟨z0,z1,trivial⟩,trivial⟩ ?_;simp only [Held.cutAt,Held.walk,List.take_succ_cons,List.take_zero,List.drop_succ_cons,List.drop_zero];have H1d:=zq H1.out.drew
  go_wp2_with fail
  refine (HR1.out (w1.drew.alloc _) w1.drew.heap.size (by simp) (zee (heap_alloc_new w1.drew _))).mono ?_;rintro e w2 ⟨rfl,hu⟩;have H2:=zq ((H1d.out.alloc _).upd0 hu);clear hu;clear k0 k1 k2 k3 k4 k5 k6 k7 k8 k9 z0 z1;obtain ⟨k0,k1,k2,k3,k4,k5,k6,k7,k8,k9⟩:=zai (w:=w2) (H2.out.blkAt 1 rfl);obtain ⟨z0,z1⟩:=zah (w:=w2) (H2.out.blkAt 0 rfl)
  go_wp2_with fail
  refine ⟨⟨⟨k0,k1,k2,k3,k4,k5,k6,k7,k8,k9,trivial⟩,⟨k2,trivial⟩,⟨k3,trivial⟩,⟨k4,trivial⟩,⟨k5,trivial⟩,⟨k8,trivial⟩,⟨z0,z1,trivial⟩,trivial⟩,?_⟩;cases r1 with
  | false=>
   go_wp2_with fail
   refine ⟨⟨⟨k0,k1,k2,k3,k4,k5,k6,k7,k8,k9,trivial⟩,⟨k2,trivial⟩,⟨k3,trivial⟩,⟨k4,trivial⟩,⟨k5,trivial⟩,⟨k8,trivial⟩,⟨z0,z1,trivial⟩,trivial⟩,?_⟩
   go_wp2_with fail
   refine ⟨trivial,?_⟩
   go_wp2_with fail
   refine ⟨trivial,by rfl,⟨.inr ⟨⟨rfl,.inl ⟨by kernel_rfl,rfl⟩⟩,trivial⟩,.inr ⟨⟨rfl,.inl ⟨by kernel_rfl,rfl⟩⟩,trivial⟩,.inr ⟨⟨rfl,.inl ⟨by kernel_rfl,rfl⟩⟩,trivial⟩,.inr ⟨⟨rfl,.inl ⟨by kernel_rfl,rfl⟩⟩,trivial⟩,.inl ⟨rfl,rfl⟩,.inl ⟨rfl,rfl⟩,.inl ⟨rfl,rfl⟩,.inl ⟨rfl,rfl⟩,.inl ⟨rfl,rfl⟩,trivial⟩,?_⟩
   go_wp2_with fail
   go_ret
   exact ⟨zae (HFP.out.trans (by simp)).symm,Upd.of_below H2.out.below⟩
  | true=>
   go_wp2_with fail
   refine (HR2.out _).mono ?_;rintro e w3 ⟨rfl,hu⟩;have H3:=zq (H2.out.upd0 hu);clear hu;clear k0 k1 k2 k3 k4 k5 k6 k7 k8 k9 z0 z1;obtain ⟨k0,k1,k2,k3,k4,k5,k6,k7,k8,k9⟩:=zai (w:=w3) (H3.out.blkAt 1 rfl);obtain ⟨z0,z1⟩:=zah (w:=w3) (H3.out.blkAt 0 rfl)
   go_wp2_with fail
   refine ⟨⟨⟨k0,k1,k2,k3,k4,k5,k6,k7,k8,k9,trivial⟩,⟨k2,trivial⟩,⟨k3,trivial⟩,⟨k4,trivial⟩,⟨k5,trivial⟩,⟨k8,trivial⟩,⟨z0,z1,trivial⟩,trivial⟩,?_⟩;cases r2 with
   | false=>
    go_wp2_with fail
    refine ⟨trivial,?_⟩
    go_wp2_with fail
    refine ⟨trivial,by rfl,⟨.inr ⟨⟨rfl,.inl ⟨by kernel_rfl,rfl⟩⟩,trivial⟩,.inr ⟨⟨rfl,.inl ⟨by kernel_rfl,rfl⟩⟩,trivial⟩,.inr ⟨⟨rfl,.inl ⟨by kernel_rfl,rfl⟩⟩,trivial⟩,.inr ⟨⟨rfl,.inl ⟨by kernel_rfl,rfl⟩⟩,trivial⟩,.inr ⟨⟨rfl,.inr ⟨by kernel_rfl,by kernel_rfl⟩⟩,trivial⟩,.inl ⟨rfl,rfl⟩,.inl ⟨rfl,rfl⟩,.inl ⟨rfl,rfl⟩,.inl ⟨rfl,rfl⟩,trivial⟩,?_⟩
    go_wp2_with fail
    go_ret
    exact ⟨zae (HFP.out.trans (by simp)).symm,Upd.of_below H3.out.below⟩
   | true=>
    go_wp2_with fail
    refine ⟨trivial,?_⟩
    go_wp2_with fail
    refine ⟨trivial,by rfl,⟨.inr ⟨⟨rfl,.inl ⟨by kernel_rfl,rfl⟩⟩,trivial⟩,.inr ⟨⟨rfl,.inl ⟨by kernel_rfl,rfl⟩⟩,trivial⟩,.inr ⟨⟨rfl,.inl ⟨by kernel_rfl,rfl⟩⟩,trivial⟩,.inr ⟨⟨rfl,.inl ⟨by kernel_rfl,rfl⟩⟩,trivial⟩,.inr ⟨⟨rfl,.inr ⟨by kernel_rfl,by kernel_rfl⟩⟩,trivial⟩,.inr ⟨⟨rfl,.inl ⟨by kernel_rfl,rfl⟩⟩,trivial⟩,.inl ⟨rfl,rfl⟩,.inl ⟨rfl,rfl⟩,.inl ⟨rfl,rfl⟩,trivial⟩,?_⟩
    go_wp2_with fail
    go_ret
    exact ⟨zae (HFP.out.trans (by simp)).symm,Upd.of_below H3.out.below⟩
theorem zqy {c:Ct} (hf1:1≤f) (hf2:f≤4) (hc1:1≤cl) (hc2:cl≤4) (h:MmAt w ⟨9,fm,view,inst,seq,res,vb,rs,vv,vs,vc,[c],vp,pts⟩):
  Calls Tryz.prog 76 #[.agg (mmA ⟨9,fm,view,inst,seq,res,vb,rs,vv,vs,vc,[c],vp,pts⟩),.int .i64 f,.int .i64 cl] w fun e w'=>e= .returned (.bool (formP f cl (Mm.ms ⟨9,fm,view,inst,seq,res,vb,rs,vv,vs,vc,[c],vp,pts⟩)))∧Upd [] w w':=by
 have HM:=zq h;have HF:=zq h.form;obtain ⟨⟨ab,kb,eb⟩,⟨av,kv,ev⟩,⟨ac,kc,ec⟩,⟨ap,kp,ep⟩⟩:=h.form;clear h;simp only at eb ev ec ep;subst eb ev ec ep;have hz:(3*(f:Int)+1==0)=false:=by simp;omega
 have HN:=zq (fun w=>za0 (f:Int) w (by omega) (by omega));have H0:Hid (Own w.heap.size w ((w.alloc (mmB ⟨9,fm,view,inst,seq,res,.slice ab rs.length kb,rs,.slice av vs.length kv,vs,.slice ac [c].length kc,[c],.slice ap pts.length kp,pts⟩)).alloc (lkO f cl)) [_,_]):=zq (((Own.start (Below.refl w.heap.size w) (Nat.le_refl _)).box (mmB ⟨9,fm,view,inst,seq,res,.slice ab rs.length kb,rs,.slice av vs.length kv,vs,.slice ac [c].length kc,[c],.slice ap pts.length kp,pts⟩)).boxAt (lkO f cl) (n:=w.heap.size+1) (by simp));obtain ⟨⟨a1,q1,e1⟩,a2,q2,e2⟩:=CtW.slices (HM.out.c.2 c (by simp));have hbo: ∃b o,ac=some ⟨b,o,none⟩:=by obtain ⟨b,o,e,-⟩:=HM.out.c.at 0 (by simp);exact ⟨b,o,e⟩
 obtain ⟨b,o,rfl⟩:=hbo;have HCC:Hid (∀W,Below w.heap.size w W→W.cell? ⟨b,o,none⟩=some (.int .i64 c.view)∧W.cell? ⟨b,o+1,none⟩=some (.int .i64 c.inst)∧W.cell? ⟨b,o+2,none⟩=some (.int .i64 c.seq)∧W.cell? ⟨b,o+3,none⟩=some (.slice a1 c.rs.length q1)∧W.cell? ⟨b,o+4,none⟩=some (.slice a2 c.vs.length q2)):=zq (fun W hb=>by
  obtain ⟨b',o',eb',-,p0,p1,p2,p3,p4⟩:=(HM.out.upd (Upd.of_below hb)).c.at 0 (by simp);simp only [Option.some.injEq,Addr.mk.injEq,and_true] at eb';obtain ⟨rfl,rfl⟩:=eb';simp only [Nat.zero_mul,Nat.add_zero,List.getElem_cons_zero] at p0 p1 p2 p3 p4;rw [e1] at p3;rw [e2] at p4;exact ⟨p0,p1,p2,p3,p4⟩)
 have HR1:=zq (fun (W:World) (b:Nat) (hb:b<W.heap.size) (hc: ∀j,(h:j<[view,inst,seq,res].length)→W.cell? ⟨b,j,none⟩=some (.int .i64 [view,inst,seq,res][j]))=>zb8 [view,inst,seq,res] b W hb (by simp) hc);have HR2:=zq (fun W=>bare_c HF.out W);have HR3:=zq (fun W (hu:Upd [] w W)=>znc f cl c W hf1 hf2 ((HM.out.upd hu).c.2 c (by simp)));unfold ctAgg at HR3;rw [e1,e2] at HR3;clear e1 e2;have HFP:Hid (formP f cl (Mm.ms ⟨9,fm,view,inst,seq,res,.slice ab rs.length kb,rs,.slice av vs.length kv,vs,.slice (some ⟨b,o,none⟩) [c].length kc,[c],.slice ap pts.length kp,pts⟩)=(zbv f fm&&((zeros [view,inst,seq,res])&&(bareP (Mm.ms ⟨9,fm,view,inst,seq,res,.slice ab rs.length kb,rs,.slice av vs.length kv,vs,.slice (some ⟨b,o,none⟩) [c].length kc,[c],.slice ap pts.length kp,pts⟩) false false true false)&&(zgg f cl c.cp)))):=zq ((show formP f cl (Mm.ms ⟨9,fm,view,inst,seq,res,.slice ab rs.length kb,rs,.slice av vs.length kv,vs,.slice (some ⟨b,o,none⟩) [c].length kc,[c],.slice ap pts.length kp,pts⟩)=(zbv f fm&&(zeros [view,inst,seq,res]&&bareP (Mm.ms ⟨9,fm,view,inst,seq,res,.slice ab rs.length kb,rs,.slice av vs.length kv,vs,.slice (some ⟨b,o,none⟩) [c].length kc,[c],.slice ap pts.length kp,pts⟩) false false true false&&true&&zgg f cl c.cp)) from rfl).trans (by simp));generalize zeros [view,inst,seq,res]=r1 at*;generalize bareP (Mm.ms ⟨9,fm,view,inst,seq,res,.slice ab rs.length kb,rs,.slice av vs.length kv,vs,.slice (some ⟨b,o,none⟩) [c].length kc,[c],.slice ap pts.length kp,pts⟩) false false true false=r2 at*;generalize zgg f cl c.cp=r3 at*;have HNO:=zq (fun w=>zc3 f cl fm w hf1 hf2);generalize zbv f fm=rn at*;unfold mmB lkO at H0;obtain ⟨k0,k1,k2,k3,k4,k5,k6,k7,k8,k9⟩:=zai (w:=_) (H0.out.blkAt 1 rfl);obtain ⟨z0,z1⟩:=zah (w:=_) (H0.out.blkAt 0 rfl);go_enter Tryz.func76,Tryz.ntmps76
 go_wp2_with fail
 refine (HN.out _).mono ?_;rintro e w' ⟨rfl,rfl⟩
 go_wp2_with fail
 refine (HNO.out _).mono ?_;rintro e w1 ⟨rfl,hu⟩;have H1:=zq (H0.out.upd0 hu);clear hu;clear k0 k1 k2 k3 k4 k5 k6 k7 k8 k9 z0 z1;obtain ⟨k0,k1,k2,k3,k4,k5,k6,k7,k8,k9⟩:=zai (w:=w1) (H1.out.blkAt 1 rfl);obtain ⟨z0,z1⟩:=zah (w:=w1) (H1.out.blkAt 0 rfl);cases rn with
 | false=>
  go_wp2_with fail
  go_ret
  exact ⟨zae (HFP.out.trans (by simp)).symm,Upd.of_below H1.out.below⟩
 | true=>
  go_wp2_with fail
  obtain ⟨x0,x1,x2,x3,x4⟩:=HCC.out _ H1.out.below;refine Held.wp_held2 [(w.heap.size,0,[.int .i64 9,.int .i64 fm,.int .i64 view,.int .i64 inst,.int .i64 seq,.int .i64 res,.slice ab rs.length kb,.slice av vs.length kv,.slice (some ⟨b,o,none⟩) [c].length kc,.slice ap pts.length kp]),(w.heap.size,2,[.int .i64 view]),(w.heap.size,3,[.int .i64 inst]),(w.heap.size,4,[.int .i64 seq]),(w.heap.size,5,[.int .i64 res]),(w.heap.size,8,[.slice (some ⟨b,o,none⟩) [c].length kc]),(w.heap.size+1,0,[.int .i64 f,.int .i64 cl]),(b,o,[.int .i64 c.view,.int .i64 c.inst,.int .i64 c.seq,.slice a1 c.rs.length q1,.slice a2 c.vs.length q2])] [(1,1),(3,2),(5,3),(7,4),(11,0),(16,5),(21,6),(23,5),(25,7)] [26] [(10,true),(3,true),(14,false)] (by kernel_rfl) (by kernel_rfl) ⟨⟨k0,k1,k2,k3,k4,k5,k6,k7,k8,k9,trivial⟩,⟨k2,trivial⟩,⟨k3,trivial⟩,⟨k4,trivial⟩,⟨k5,trivial⟩,⟨k8,trivial⟩,⟨z0,z1,trivial⟩,⟨x0,x1,x2,x3,x4,trivial⟩,trivial⟩ ?_;simp only [Held.cutAt,Held.walk,List.take_succ_cons,List.take_zero,List.drop_succ_cons,List.drop_zero];have H1d:=zq H1.out.drew
  go_wp2_with fail
  refine (HR1.out (w1.drew.alloc _) w1.drew.heap.size (by simp) (zee (heap_alloc_new w1.drew _))).mono ?_;rintro e w2 ⟨rfl,hu⟩;have H2:=zq ((H1d.out.alloc _).upd0 hu);clear hu;clear k0 k1 k2 k3 k4 k5 k6 k7 k8 k9 z0 z1;clear x0 x1 x2 x3 x4;obtain ⟨k0,k1,k2,k3,k4,k5,k6,k7,k8,k9⟩:=zai (w:=w2) (H2.out.blkAt 1 rfl);obtain ⟨z0,z1⟩:=zah (w:=w2) (H2.out.blkAt 0 rfl);obtain ⟨x0,x1,x2,x3,x4⟩:=HCC.out _ H2.out.below
  go_wp2_with fail
  refine ⟨⟨⟨k0,k1,k2,k3,k4,k5,k6,k7,k8,k9,trivial⟩,⟨k2,trivial⟩,⟨k3,trivial⟩,⟨k4,trivial⟩,⟨k5,trivial⟩,⟨k8,trivial⟩,⟨z0,z1,trivial⟩,⟨x0,x1,x2,x3,x4,trivial⟩,trivial⟩,?_⟩;cases r1 with
  | false=>
   go_wp2_with fail
   refine ⟨⟨⟨k0,k1,k2,k3,k4,k5,k6,k7,k8,k9,trivial⟩,⟨k2,trivial⟩,⟨k3,trivial⟩,⟨k4,trivial⟩,⟨k5,trivial⟩,⟨k8,trivial⟩,⟨z0,z1,trivial⟩,⟨x0,x1,x2,x3,x4,trivial⟩,trivial⟩,?_⟩
   go_wp2_with fail
   refine ⟨trivial,?_⟩
   go_wp2_with fail
   refine ⟨trivial,by rfl,⟨.inr ⟨⟨rfl,.inl ⟨by kernel_rfl,rfl⟩⟩,trivial⟩,.inr ⟨⟨rfl,.inl ⟨by kernel_rfl,rfl⟩⟩,trivial⟩,.inr ⟨⟨rfl,.inl ⟨by kernel_rfl,rfl⟩⟩,trivial⟩,.inr ⟨⟨rfl,.inl ⟨by kernel_rfl,rfl⟩⟩,trivial⟩,.inl ⟨rfl,rfl⟩,.inl ⟨rfl,rfl⟩,.inl ⟨rfl,rfl⟩,.inl ⟨rfl,rfl⟩,.inl ⟨rfl,rfl⟩,trivial⟩,?_⟩
   go_wp2_with fail
   go_ret
   exact ⟨zae (HFP.out.trans (by simp)).symm,Upd.of_below H2.out.below⟩
  | true=>
   go_wp2_with fail
   refine (HR2.out _).mono ?_;rintro e w3 ⟨rfl,hu⟩;have H3:=zq (H2.out.upd0 hu);clear hu;clear k0 k1 k2 k3 k4 k5 k6 k7 k8 k9 z0 z1;clear x0 x1 x2 x3 x4;obtain ⟨k0,k1,k2,k3,k4,k5,k6,k7,k8,k9⟩:=zai (w:=w3) (H3.out.blkAt 1 rfl);obtain ⟨z0,z1⟩:=zah (w:=w3) (H3.out.blkAt 0 rfl);obtain ⟨x0,x1,x2,x3,x4⟩:=HCC.out _ H3.out.below
   go_wp2_with fail
   refine ⟨⟨⟨k0,k1,k2,k3,k4,k5,k6,k7,k8,k9,trivial⟩,⟨k2,trivial⟩,⟨k3,trivial⟩,⟨k4,trivial⟩,⟨k5,trivial⟩,⟨k8,trivial⟩,⟨z0,z1,trivial⟩,⟨x0,x1,x2,x3,x4,trivial⟩,trivial⟩,?_⟩;cases r2 with
   | false=>
    go_wp2_with fail
    refine ⟨trivial,?_⟩
    go_wp2_with fail
    refine ⟨trivial,by rfl,⟨.inr ⟨⟨rfl,.inl ⟨by kernel_rfl,rfl⟩⟩,trivial⟩,.inr ⟨⟨rfl,.inl ⟨by kernel_rfl,rfl⟩⟩,trivial⟩,.inr ⟨⟨rfl,.inl ⟨by kernel_rfl,rfl⟩⟩,trivial⟩,.inr ⟨⟨rfl,.inl ⟨by kernel_rfl,rfl⟩⟩,trivial⟩,.inr ⟨⟨rfl,.inr ⟨by kernel_rfl,by kernel_rfl⟩⟩,trivial⟩,.inl ⟨rfl,rfl⟩,.inl ⟨rfl,rfl⟩,.inl ⟨rfl,rfl⟩,.inl ⟨rfl,rfl⟩,trivial⟩,?_⟩
    go_wp2_with fail
    go_ret
    exact ⟨zae (HFP.out.trans (by simp)).symm,Upd.of_below H3.out.below⟩
   | true=>
    go_wp2_with fail
    refine (HR3.out _ (Upd.of_below H3.out.below)).mono ?_;rintro e w4 ⟨rfl,hu⟩;have H4:=zq (H3.out.upd0 hu);clear hu;clear k0 k1 k2 k3 k4 k5 k6 k7 k8 k9 z0 z1;clear x0 x1 x2 x3 x4;obtain ⟨k0,k1,k2,k3,k4,k5,k6,k7,k8,k9⟩:=zai (w:=w4) (H4.out.blkAt 1 rfl);obtain ⟨z0,z1⟩:=zah (w:=w4) (H4.out.blkAt 0 rfl);obtain ⟨x0,x1,x2,x3,x4⟩:=HCC.out _ H4.out.below
    go_wp2_with fail
    refine ⟨trivial,?_⟩;cases r3 with
    | false=>
     go_wp2_with fail
     refine ⟨trivial,by rfl,⟨.inr ⟨⟨rfl,.inl ⟨by kernel_rfl,rfl⟩⟩,trivial⟩,.inr ⟨⟨rfl,.inl ⟨by kernel_rfl,rfl⟩⟩,trivial⟩,.inr ⟨⟨rfl,.inl ⟨by kernel_rfl,rfl⟩⟩,trivial⟩,.inr ⟨⟨rfl,.inl ⟨by kernel_rfl,rfl⟩⟩,trivial⟩,.inr ⟨⟨rfl,.inr ⟨by kernel_rfl,by kernel_rfl⟩⟩,trivial⟩,.inr ⟨⟨rfl,.inl ⟨by kernel_rfl,rfl⟩⟩,trivial⟩,.inr ⟨⟨rfl,.inr ⟨by kernel_rfl,by kernel_rfl⟩⟩,trivial⟩,.inr ⟨⟨rfl,.inl ⟨by kernel_rfl,rfl⟩⟩,trivial⟩,.inr ⟨⟨rfl,.inr ⟨by kernel_rfl,by kernel_rfl⟩⟩,trivial⟩,trivial⟩,?_⟩
     go_wp2_with fail
     go_ret
     exact ⟨zae (HFP.out.trans (by simp)).symm,Upd.of_below H4.out.below⟩
    | true=>
     go_wp2_with fail
     refine ⟨trivial,by rfl,⟨.inr ⟨⟨rfl,.inl ⟨by kernel_rfl,rfl⟩⟩,trivial⟩,.inr ⟨⟨rfl,.inl ⟨by kernel_rfl,rfl⟩⟩,trivial⟩,.inr ⟨⟨rfl,.inl ⟨by kernel_rfl,rfl⟩⟩,trivial⟩,.inr ⟨⟨rfl,.inl ⟨by kernel_rfl,rfl⟩⟩,trivial⟩,.inr ⟨⟨rfl,.inr ⟨by kernel_rfl,by kernel_rfl⟩⟩,trivial⟩,.inr ⟨⟨rfl,.inl ⟨by kernel_rfl,rfl⟩⟩,trivial⟩,.inr ⟨⟨rfl,.inr ⟨by kernel_rfl,by kernel_rfl⟩⟩,trivial⟩,.inr ⟨⟨rfl,.inl ⟨by kernel_rfl,rfl⟩⟩,trivial⟩,.inr ⟨⟨rfl,.inr ⟨by kernel_rfl,by kernel_rfl⟩⟩,trivial⟩,trivial⟩,?_⟩
     go_wp2_with fail
     go_ret
     exact ⟨zae (HFP.out.trans (by simp)).symm,Upd.of_below H4.out.below⟩
theorem zug {kind:Int} (hf1:1≤f) (hf2:f≤4) (hc1:1≤cl) (hc2:cl≤4) (n1: ¬kind=1) (n2: ¬kind=2) (n3: ¬kind=3) (n4: ¬kind=4) (n5: ¬kind=5) (n6: ¬kind=6) (n7: ¬kind=7) (n8: ¬kind=8) (n9: ¬kind=9) (n10: ¬kind=10) (h:MmAt w ⟨kind,fm,view,inst,seq,res,vb,rs,vv,vs,vc,cts,vp,pts⟩):
  Calls Tryz.prog 76 #[.agg (mmA ⟨kind,fm,view,inst,seq,res,vb,rs,vv,vs,vc,cts,vp,pts⟩),.int .i64 f,.int .i64 cl] w fun e w'=>e= .returned (.bool (formP f cl (Mm.ms ⟨kind,fm,view,inst,seq,res,vb,rs,vv,vs,vc,cts,vp,pts⟩)))∧Upd [] w w':=by
 have HM:=zq h;have HF:=zq h.form;obtain ⟨⟨ab,kb,eb⟩,⟨av,kv,ev⟩,⟨ac,kc,ec⟩,⟨ap,kp,ep⟩⟩:=h.form;clear h;simp only at eb ev ec ep;subst eb ev ec ep;have hz:(3*(f:Int)+1==0)=false:=by simp;omega
 have HN:=zq (fun w=>za0 (f:Int) w (by omega) (by omega));have H0:Hid (Own w.heap.size w ((w.alloc (mmB ⟨kind,fm,view,inst,seq,res,.slice ab rs.length kb,rs,.slice av vs.length kv,vs,.slice ac cts.length kc,cts,.slice ap pts.length kp,pts⟩)).alloc (lkO f cl)) [_,_]):=zq (((Own.start (Below.refl w.heap.size w) (Nat.le_refl _)).box (mmB ⟨kind,fm,view,inst,seq,res,.slice ab rs.length kb,rs,.slice av vs.length kv,vs,.slice ac cts.length kc,cts,.slice ap pts.length kp,pts⟩)).boxAt (lkO f cl) (n:=w.heap.size+1) (by simp));have HFP:Hid (formP f cl (Mm.ms ⟨kind,fm,view,inst,seq,res,.slice ab rs.length kb,rs,.slice av vs.length kv,vs,.slice ac cts.length kc,cts,.slice ap pts.length kp,pts⟩)=(zbv f fm&&false)):=zq (by unfold formP;rw [if_neg (show¬(Mm.ms ⟨kind,fm,view,inst,seq,res,.slice ab rs.length kb,rs,.slice av vs.length kv,vs,.slice ac cts.length kc,cts,.slice ap pts.length kp,pts⟩).kind=1 from n1)];unfold formK;rw [if_neg (show¬(Mm.ms ⟨kind,fm,view,inst,seq,res,.slice ab rs.length kb,rs,.slice av vs.length kv,vs,.slice ac cts.length kc,cts,.slice ap pts.length kp,pts⟩).kind=2 from n2),if_neg (show¬(Mm.ms ⟨kind,fm,view,inst,seq,res,.slice ab rs.length kb,rs,.slice av vs.length kv,vs,.slice ac cts.length kc,cts,.slice ap pts.length kp,pts⟩).kind=3 from n3),if_neg (show¬(Mm.ms ⟨kind,fm,view,inst,seq,res,.slice ab rs.length kb,rs,.slice av vs.length kv,vs,.slice ac cts.length kc,cts,.slice ap pts.length kp,pts⟩).kind=4 from n4),if_neg (show¬(Mm.ms ⟨kind,fm,view,inst,seq,res,.slice ab rs.length kb,rs,.slice av vs.length kv,vs,.slice ac cts.length kc,cts,.slice ap pts.length kp,pts⟩).kind=5 from n5),if_neg (show¬(Mm.ms ⟨kind,fm,view,inst,seq,res,.slice ab rs.length kb,rs,.slice av vs.length kv,vs,.slice ac cts.length kc,cts,.slice ap pts.length kp,pts⟩).kind=6 from n6),if_neg (show¬(Mm.ms ⟨kind,fm,view,inst,seq,res,.slice ab rs.length kb,rs,.slice av vs.length kv,vs,.slice ac cts.length kc,cts,.slice ap pts.length kp,pts⟩).kind=7 from n7),if_neg (show¬(Mm.ms ⟨kind,fm,view,inst,seq,res,.slice ab rs.length kb,rs,.slice av vs.length kv,vs,.slice ac cts.length kc,cts,.slice ap pts.length kp,pts⟩).kind=8 from n8),if_neg (show¬(Mm.ms ⟨kind,fm,view,inst,seq,res,.slice ab rs.length kb,rs,.slice av vs.length kv,vs,.slice ac cts.length kc,cts,.slice ap pts.length kp,pts⟩).kind=9 from n9),if_neg (show¬(Mm.ms ⟨kind,fm,view,inst,seq,res,.slice ab rs.length kb,rs,.slice av vs.length kv,vs,.slice ac cts.length kc,cts,.slice ap pts.length kp,pts⟩).kind=10 from n10)];rfl);have e1:=zdx n1;clear n1;have e2:=zdx n2;clear n2;have e3:=zdx n3;clear n3;have e4:=zdx n4;clear n4;have e5:=zdx n5;clear n5;have e6:=zdx n6;clear n6;have e7:=zdx n7;clear n7;have e8:=zdx n8;clear n8;have e9:=zdx n9;clear n9;have e10:=zdx n10;clear n10;have HNO:=zq (fun w=>zc3 f cl fm w hf1 hf2);generalize zbv f fm=rn at*;unfold mmB lkO at H0;obtain ⟨k0,k1,k2,k3,k4,k5,k6,k7,k8,k9⟩:=zai (w:=_) (H0.out.blkAt 1 rfl);obtain ⟨z0,z1⟩:=zah (w:=_) (H0.out.blkAt 0 rfl);go_enter Tryz.func76,Tryz.ntmps76
 go_wp2_with fail
 refine (HN.out _).mono ?_;rintro e w' ⟨rfl,rfl⟩
 go_wp2_with fail
 refine (HNO.out _).mono ?_;rintro e w1 ⟨rfl,hu⟩;have H1:=zq (H0.out.upd0 hu);clear hu;clear k0 k1 k2 k3 k4 k5 k6 k7 k8 k9 z0 z1;obtain ⟨k0,k1,k2,k3,k4,k5,k6,k7,k8,k9⟩:=zai (w:=w1) (H1.out.blkAt 1 rfl);obtain ⟨z0,z1⟩:=zah (w:=w1) (H1.out.blkAt 0 rfl);cases rn with
 | false=>
  go_wp2_with fail
  go_ret
  exact ⟨zae (HFP.out.trans (by simp)).symm,Upd.of_below H1.out.below⟩
 | true=>
  go_wp2_with fail
  go_ret
  exact ⟨zae (HFP.out.trans (by simp)).symm,Upd.of_below H1.out.below⟩
theorem zlz (f:Nat) (cl:Int) (m:Mm) (w:World) (hf1:1≤f) (hf2:f≤4) (hc1:1≤cl) (hc2:cl≤4) (hm1: -9223372036854775000≤m.fm) (hm2:m.fm≤9223372036854775000) (h:MmAt w m):
  Calls Tryz.prog 76 #[.agg (mmA m),.int .i64 f,.int .i64 cl] w fun e w'=>e= .returned (.bool (formP f cl m.ms))∧Upd [] w w':=by
 obtain ⟨kind,fm,view,inst,seq,res,vb,rs,vv,vs,vc,cts,vp,pts⟩:=m;by_cases n1:kind=1
 ·subst n1
  by_cases hl:rs.length=1
  ·obtain ⟨r,rfl⟩:=List.length_eq_one_iff.1 hl
   exact zuk hf1 hf2 hc1 hc2 hm1 hm2 h
  ·exact zuj hf1 hf2 hc1 hc2 hl h
 by_cases n2:kind=2
 ·subst n2
  exact zyx hf1 hf2 hc1 hc2 h
 by_cases n3:kind=3
 ·subst n3
  exact zq0 hf1 hf2 hc1 hc2 h
 by_cases n4:kind=4
 ·subst n4
  exact zui hf1 hf2 hc1 hc2 h
 by_cases n5:kind=5
 ·subst n5
  exact zuh hf1 hf2 hc1 hc2 h
 by_cases n6:kind=6
 ·subst n6
  exact zyv hf1 hf2 hc1 hc2 h
 by_cases n7:kind=7
 ·subst n7
  exact zqz hf1 hf2 hc1 hc2 h
 by_cases n8:kind=8
 ·subst n8
  exact zqw hf1 hf2 hc1 hc2 h
 by_cases n9:kind=9
 ·subst n9
  by_cases hl:cts.length=1
  ·obtain ⟨c,rfl⟩:=List.length_eq_one_iff.1 hl
   exact zqy hf1 hf2 hc1 hc2 h
  ·exact zqx hf1 hf2 hc1 hc2 hl h
 by_cases n10:kind=10
 ·subst n10
  exact zyw hf1 hf2 hc1 hc2 h
 exact zug hf1 hf2 hc1 hc2 n1 n2 n3 n4 n5 n6 n7 n8 n9 n10 h
end
end Go.Proofs.YtannckelmojkoaaGreat
