/- Parts of the proof, one behind the other. -/
import Derived.Test.YtannckelmojkoaaGreatPrpB23
set_option maxHeartbeats 32000000
set_option maxRecDepth 100000
set_option linter.unusedVariables false
set_option linter.unusedSimpArgs false
namespace Go.Proofs.YtannckelmojkoaaGreat
open Go.RowKit Go.Heap
abbrev zTwo:Obj:= .cells #[.pointer none,.pointer none] 28 (0,0)
abbrev zCfg:Obj:= .cells #[.int .i64 0,.int .i64 0,.int .i64 0,.int .i64 0,.int .i64 0,.int .i64 0,.int .i64 0,.int .i64 0,.int .i64 0,.int .i64 0,.int .i64 0,.int .i64 0,.int .i64 0,.int .i64 0,.int .i64 0] 30 (0,0)
section
variable {B:Nat} {w0 w W W':World} {ss rs:List Res} {x:Np} {s s':Ns} {l l':Nt}
theorem znk {i j a b:Nat} {o o':Obj} (h:Own B w0 W rs) (e1:rs[i]?=some (blk a o)) (e2:rs[j]?=some (blk b o')) (hij:i<j):a≠b:=fun e=>by
 obtain ⟨h1,h1'⟩:=List.getElem?_eq_some_iff.1 e1;obtain ⟨h2,h2'⟩:=List.getElem?_eq_some_iff.1 e2;have:=List.pairwise_iff_getElem.1 h.apart i j h1 h2 hij;rw [h1',h2'] at this;exact this a (by simp [blk]) (by simp [blk,e])
theorem own_15 {b:Nat} {T:TypeId} {c0 c1 c2 c3 c4 c5 c6 c7 c8 c9 c10 c11 c12 c13 c14 v0 v1 v2 v3 v4 v5 v6 v7 v8 v9 v10 v11 v12 v13 v14:Value} (h:Own B w0 W (blk b (.cells #[c0,c1,c2,c3,c4,c5,c6,c7,c8,c9,c10,c11,c12,c13,c14] T (0,0))::rs)):Own B w0 (((((((((((((((W.setCell ⟨b,0,none⟩ v0).setCell ⟨b,1,none⟩ v1).setCell ⟨b,2,none⟩ v2).setCell ⟨b,3,none⟩ v3).setCell ⟨b,4,none⟩ v4).setCell ⟨b,5,none⟩ v5).setCell ⟨b,6,none⟩ v6).setCell ⟨b,7,none⟩ v7).setCell ⟨b,8,none⟩ v8).setCell ⟨b,9,none⟩ v9).setCell ⟨b,10,none⟩ v10).setCell ⟨b,11,none⟩ v11).setCell ⟨b,12,none⟩ v12).setCell ⟨b,13,none⟩ v13).setCell ⟨b,14,none⟩ v14) (blk b (.cells #[v0,v1,v2,v3,v4,v5,v6,v7,v8,v9,v10,v11,v12,v13,v14] T (0,0))::rs):=by
 have h0:=Own.storeTo h 0 v0 (o':= .cells #[v0,c1,c2,c3,c4,c5,c6,c7,c8,c9,c10,c11,c12,c13,c14] T (0,0)) rfl;have h1:=Own.storeTo h0 1 v1 (o':= .cells #[v0,v1,c2,c3,c4,c5,c6,c7,c8,c9,c10,c11,c12,c13,c14] T (0,0)) rfl;have h2:=Own.storeTo h1 2 v2 (o':= .cells #[v0,v1,v2,c3,c4,c5,c6,c7,c8,c9,c10,c11,c12,c13,c14] T (0,0)) rfl;have h3:=Own.storeTo h2 3 v3 (o':= .cells #[v0,v1,v2,v3,c4,c5,c6,c7,c8,c9,c10,c11,c12,c13,c14] T (0,0)) rfl;have h4:=Own.storeTo h3 4 v4 (o':= .cells #[v0,v1,v2,v3,v4,c5,c6,c7,c8,c9,c10,c11,c12,c13,c14] T (0,0)) rfl;have h5:=Own.storeTo h4 5 v5 (o':= .cells #[v0,v1,v2,v3,v4,v5,c6,c7,c8,c9,c10,c11,c12,c13,c14] T (0,0)) rfl;have h6:=Own.storeTo h5 6 v6 (o':= .cells #[v0,v1,v2,v3,v4,v5,v6,c7,c8,c9,c10,c11,c12,c13,c14] T (0,0)) rfl;have h7:=Own.storeTo h6 7 v7 (o':= .cells #[v0,v1,v2,v3,v4,v5,v6,v7,c8,c9,c10,c11,c12,c13,c14] T (0,0)) rfl;have h8:=Own.storeTo h7 8 v8 (o':= .cells #[v0,v1,v2,v3,v4,v5,v6,v7,v8,c9,c10,c11,c12,c13,c14] T (0,0)) rfl;have h9:=Own.storeTo h8 9 v9 (o':= .cells #[v0,v1,v2,v3,v4,v5,v6,v7,v8,v9,c10,c11,c12,c13,c14] T (0,0)) rfl;have h10:=Own.storeTo h9 10 v10 (o':= .cells #[v0,v1,v2,v3,v4,v5,v6,v7,v8,v9,v10,c11,c12,c13,c14] T (0,0)) rfl;have h11:=Own.storeTo h10 11 v11 (o':= .cells #[v0,v1,v2,v3,v4,v5,v6,v7,v8,v9,v10,v11,c12,c13,c14] T (0,0)) rfl;have h12:=Own.storeTo h11 12 v12 (o':= .cells #[v0,v1,v2,v3,v4,v5,v6,v7,v8,v9,v10,v11,v12,c13,c14] T (0,0)) rfl;have h13:=Own.storeTo h12 13 v13 (o':= .cells #[v0,v1,v2,v3,v4,v5,v6,v7,v8,v9,v10,v11,v12,v13,c14] T (0,0)) rfl;have h14:=Own.storeTo h13 14 v14 (o':= .cells #[v0,v1,v2,v3,v4,v5,v6,v7,v8,v9,v10,v11,v12,v13,v14] T (0,0)) rfl;exact h14
theorem own_2 {b:Nat} {T:TypeId} {c0 c1 v0 v1:Value} (h:Own B w0 W (blk b (.cells #[c0,c1] T (0,0))::rs)):Own B w0 ((W.setCell ⟨b,0,none⟩ v0).setCell ⟨b,1,none⟩ v1) (blk b (.cells #[v0,v1] T (0,0))::rs):=Own.storeTo (Own.storeTo h 0 v0 rfl) 1 v1 rfl
theorem zxt {nm nt:Nat} {c:Cf} (hc:CfOk c) {id:Int} (h0:0≤id) (h1:id≤3*c.f) {x:Np} {v:Nv} (hnt:x.nt=nt) (hv: ∀nm,NvOk {x with nm:=nm} (newS c id) v) (h:Own B w0 W (nsR x (newS c id) v::blk nt (noB nm)::ntR nm []::ss)):NdIs B w0 W {x with nm:=nm} (newS c id) [] ss:=by
 subst hnt;exact ⟨newS_ok hc h0 h1,⟨List.nodup_nil,by simp⟩,v,hv nm,h⟩
theorem zwl (fA idA:Int) (f:Nat) (hf1:1≤f) (hf2:f≤4) (hf:1+fA%4=f) (h:Own B w0 W ss):
  Calls Tryz.prog 15 #[.int .i64 fA,.int .i64 idA] W fun e w'=> ∃(x:Np) (rn:Nat),e= .returned (.tuple #[ptrV x.p,.agg (twA x.nt rn),.agg (cfA (stdC f)),.bool true])∧
   NdIs B w0 w' x (newS (stdC f) (idA%(3*(f:Int)+1))) [] (rnR rn (.slice none 0 0) ⟨.slice none 0 0,[]⟩ [] ss):=by
 have h1:=(h.box zTwo).boxAt zCfg (n:=W.heap.size+1) (by simp);have H1:=zq h1;have HW:=zq (fun w=>zdx fA 4 w (by omega) (by omega));have HS:=zq (fun w=>stdAny f w);have hfI:1≤(f:Int):=by omega
 have hf4:(f:Int)≤4:=by omega
 have hm:=zhs fA 4 (by omega);have HF:=zq hf;obtain ⟨k,hk⟩: ∃k,k=fA%4:=⟨_,rfl⟩;rw [←hk] at HW hm HF;clear h h1 hf hk;go_enter Tryz.func15,Tryz.ntmps15
 go_wp2_with fail
 refine (HW.out _).mono ?_;rintro e w' ⟨rfl,rfl⟩
 go_wp2_with fail
 rw [HF.out];refine (HS.out _).mono ?_;rintro e w2 ⟨rfl,hu⟩;have H2:=zq (H1.out.upd0 hu);clear hu H1 HW HS HF hm;generalize W.heap.size=q at*;have H3:=zq (H2.out.box (.cells (cfA (stdC f)) 30 (0,0)));have HN:=zq (zj6 H3.out);clear H2
 go_wp2_with fail
 refine HN.out.mono ?_;rintro e w4 ⟨nt,nm,rfl,h4⟩;have H5:=zq ((h4.box (rnO (.slice none 0 0) (.slice none 0 0))).boxAt (twO nt w4.heap.size) (n:=w4.heap.size+1) (by simp));clear h4 HN H3;have HNo:=zq (fun w=>zkl (f:Int) w hfI hf4);have HWi:=zq (fun w=>zdx idA (3*(f:Int)+1) w (by omega) (by omega));have hid:=zhs idA (3*(f:Int)+1) (by omega);obtain ⟨hi0,hi1⟩:=hid;obtain ⟨id,hide⟩: ∃id,id=idA%(3*(f:Int)+1):=⟨_,rfl⟩;have HID:=zq hide;rw [←hide] at HWi hi0 hi1;have HI0:=zq hi0;have HI1:=zq hi1;clear hide;have HNN:=zq (znf (zn2 hf1 hf2) id nt HI0.out (by have:=HI1.out;exact this) H5.out.drew);have hb8:=H5.out.drew.blkAt 4 rfl;have hb9:=H5.out.drew.blkAt 0 rfl;have a0:=zaa hb8 0 rfl;have a1:=zaa hb8 1 rfl;have a2:=zaa hb8 2 rfl;have a3:=zaa hb8 3 rfl;have a4:=zaa hb8 4 rfl;have a5:=zaa hb8 5 rfl;have a6:=zaa hb8 6 rfl;have a7:=zaa hb8 7 rfl;have a8:=zaa hb8 8 rfl;have a9:=zaa hb8 9 rfl;have a10:=zaa hb8 10 rfl;have a11:=zaa hb8 11 rfl;have a12:=zaa hb8 12 rfl;have a13:=zaa hb8 13 rfl;have a14:=zaa hb8 14 rfl;have n0:=zaa hb9 0 rfl;clear hb8 hb9 hi0 hi1;generalize w2.heap.size=bc at*
 go_upto_region 5 with fail
 refine Held.wp_held [(bc,0,[.int .i64 f,.int .i64 2,.int .i64 2,.int .i64 4,.int .i64 64,.int .i64 8,.int .i64 8,.int .i64 8,.int .i64 1,.int .i64 2,.int .i64 12,.int .i64 8,.int .i64 6,.int .i64 2,.int .i64 6]),(bc,0,[.int .i64 f]),(w4.heap.size+1,0,[ptrV nt])] [(0,0),(3,1),(7,2)] [8] [(5,true),(1,true),(3,false)] (by kernel_rfl) (by kernel_rfl) ⟨⟨a0,a1,a2,a3,a4,a5,a6,a7,a8,a9,a10,a11,a12,a13,a14,trivial⟩,⟨a0,trivial⟩,⟨n0,trivial⟩,trivial⟩ ?_;simp only [Held.cutAt,Held.walk,List.take_succ_cons,List.take_zero,List.drop_succ_cons,List.drop_zero]
 go_wp2_with fail
 refine (HNo.out _).mono ?_;rintro e w' ⟨rfl,rfl⟩
 go_wp2_with fail
 refine ⟨⟨⟨a0,a1,a2,a3,a4,a5,a6,a7,a8,a9,a10,a11,a12,a13,a14,trivial⟩,⟨a0,trivial⟩,⟨n0,trivial⟩,trivial⟩,?_⟩
 go_wp2_with fail
 refine (HWi.out _).mono ?_;rintro e w' ⟨rfl,rfl⟩
 go_wp2_with fail
 refine ⟨⟨⟨a0,a1,a2,a3,a4,a5,a6,a7,a8,a9,a10,a11,a12,a13,a14,trivial⟩,⟨a0,trivial⟩,⟨n0,trivial⟩,trivial⟩,?_⟩
 go_wp2_with fail
 refine HNN.out.mono ?_;rintro e w6 ⟨x,v,rfl,hxn,hv,h6⟩
 go_wp2_with fail
 refine ⟨trivial,?_⟩
 go_wp2_with fail
 refine ⟨trivial,by rfl,⟨⟨rfl,.inr ⟨by kernel_rfl,by kernel_rfl⟩⟩,⟨rfl,.inl ⟨by kernel_rfl,rfl⟩⟩,⟨rfl,.inl ⟨by kernel_rfl,rfl⟩⟩,trivial⟩,?_⟩;have H6:=zq h6;have hb1:=h6.blkAt 1 rfl;have hb5:=h6.blkAt 5 rfl;have hb6:=h6.blkAt 6 rfl;have hb7:=h6.blkAt 7 rfl;clear a0 a1 a2 a3 a4 a5 a6 a7 a8 a9 a10 a11 a12 a13 a14 n0 h6 HNN H5 HNo HWi;have a0:w6.cell? ⟨bc,0,none⟩=_:=zaa hb5 0 rfl;have a1:w6.cell? ⟨bc,1,none⟩=_:=zaa hb5 1 rfl;have a2:w6.cell? ⟨bc,2,none⟩=_:=zaa hb5 2 rfl;have a3:w6.cell? ⟨bc,3,none⟩=_:=zaa hb5 3 rfl;have a4:w6.cell? ⟨bc,4,none⟩=_:=zaa hb5 4 rfl;have a5:w6.cell? ⟨bc,5,none⟩=_:=zaa hb5 5 rfl;have a6:w6.cell? ⟨bc,6,none⟩=_:=zaa hb5 6 rfl;have a7:w6.cell? ⟨bc,7,none⟩=_:=zaa hb5 7 rfl;have a8:w6.cell? ⟨bc,8,none⟩=_:=zaa hb5 8 rfl;have a9:w6.cell? ⟨bc,9,none⟩=_:=zaa hb5 9 rfl;have a10:w6.cell? ⟨bc,10,none⟩=_:=zaa hb5 10 rfl;have a11:w6.cell? ⟨bc,11,none⟩=_:=zaa hb5 11 rfl;have a12:w6.cell? ⟨bc,12,none⟩=_:=zaa hb5 12 rfl;have a13:w6.cell? ⟨bc,13,none⟩=_:=zaa hb5 13 rfl;have a14:w6.cell? ⟨bc,14,none⟩=_:=zaa hb5 14 rfl;have t0:w6.cell? ⟨w4.heap.size+1,0,none⟩=_:=zaa hb1 0 rfl;have t1:w6.cell? ⟨w4.heap.size+1,1,none⟩=_:=zaa hb1 1 rfl;have q0:=zaa hb7 0 rfl;have q1:=zaa hb7 1 rfl;have qz:=zab hb7;have p0:=zaa hb6 0 rfl;have p1:=zaa hb6 1 rfl;have p2:=zaa hb6 2 rfl;have p3:=zaa hb6 3 rfl;have p4:=zaa hb6 4 rfl;have p5:=zaa hb6 5 rfl;have p6:=zaa hb6 6 rfl;have p7:=zaa hb6 7 rfl;have p8:=zaa hb6 8 rfl;have p9:=zaa hb6 9 rfl;have p10:=zaa hb6 10 rfl;have p11:=zaa hb6 11 rfl;have p12:=zaa hb6 12 rfl;have p13:=zaa hb6 13 rfl;have p14:=zaa hb6 14 rfl;have pz:=zab hb6;have n1:=znk H6.out (i:=5) (j:=7) rfl rfl (by omega);have n2:=znk H6.out (i:=5) (j:=6) rfl rfl (by omega);have n3:=znk H6.out (i:=1) (j:=7) rfl rfl (by omega);have n4:=znk H6.out (i:=1) (j:=6) rfl rfl (by omega);have m1:=n1.symm;have m2:=n2.symm;have m3:=n3.symm;have m4:=n4.symm;have h7:=own_2 (H6.out.front 7 rfl rfl) (v0:=ptrV nt) (v1:=ptrV w4.heap.size)
 dsimp only [List.eraseIdx] at h7
 have h8:=own_15 (h7.front 7 rfl rfl) (v0:= .int .i64 (stdC f).f) (v1:= .int .i64 (stdC f).cl) (v2:= .int .i64 (stdC f).bt) (v3:= .int .i64 (stdC f).ah) (v4:= .int .i64 (stdC f).qu) (v5:= .int .i64 (stdC f).fl) (v6:= .int .i64 (stdC f).sh) (v7:= .int .i64 (stdC f).pe) (v8:= .int .i64 (stdC f).nu) (v9:= .int .i64 (stdC f).de) (v10:= .int .i64 (stdC f).la) (v11:= .int .i64 (stdC f).om) (v12:= .int .i64 (stdC f).wa) (v13:= .int .i64 (stdC f).ag) (v14:= .int .i64 (stdC f).re)
 dsimp only [List.eraseIdx] at h8
 have H8:=zq h8.drew;clear h7 h8
 go_upto_region 6 with fail
 go_region
 all_goals
  (clear a0 a1 a2 a3 a4 a5 a6 a7 a8 a9 a10 a11 a12 a13 a14 t0 t1 q0 q1 qz p0 p1 p2 p3 p4 p5 p6 p7 p8 p9 p10 p11 p12 p13 p14 pz
   generalize World.drew (World.setCell (World.setCell _ _ _) _ _)=w9 at*;have hd0:=H8.out.blkAt 0 rfl;have hd1:=H8.out.blkAt 1 rfl;have g0:=zaa hd1 0 rfl;have g1:=zaa hd1 1 rfl;have u0:=zaa hd0 0 rfl;have u1:=zaa hd0 1 rfl;have u2:=zaa hd0 2 rfl;have u3:=zaa hd0 3 rfl;have u4:=zaa hd0 4 rfl;have u5:=zaa hd0 5 rfl;have u6:=zaa hd0 6 rfl;have u7:=zaa hd0 7 rfl;have u8:=zaa hd0 8 rfl;have u9:=zaa hd0 9 rfl;have u10:=zaa hd0 10 rfl;have u11:=zaa hd0 11 rfl;have u12:=zaa hd0 12 rfl;have u13:=zaa hd0 13 rfl;have u14:=zaa hd0 14 rfl;clear hd0 hd1
   go_wp2_with fail
   refine bodyPost_ret (v:= .tuple #[ptrV x.p,.agg #[ptrV nt,ptrV w4.heap.size],.agg #[.int .i64 (stdC f).f,.int .i64 (stdC f).cl,.int .i64 (stdC f).bt,.int .i64 (stdC f).ah,.int .i64 (stdC f).qu,.int .i64 (stdC f).fl,.int .i64 (stdC f).sh,.int .i64 (stdC f).pe,.int .i64 (stdC f).nu,.int .i64 (stdC f).de,.int .i64 (stdC f).la,.int .i64 (stdC f).om,.int .i64 (stdC f).wa,.int .i64 (stdC f).ag,.int .i64 (stdC f).re],.bool true]) (by simp [results,Tryz.results15,go_sem,g0,g1,u0,u1,u2,u3,u4,u5,u6,u7,u8,u9,u10,u11,u12,u13,u14]) rfl ?_;have k1:=((((H8.out.drop.drop).dropAt 1 (by simp)).dropAt 4 (by simp)).front 3 rfl rfl)
   dsimp only [List.eraseIdx] at k1
   have k2:=((zr3 k1).row0 (E:=3) (sz:=1)).row0 (E:=9) (sz:=1);have k3:=k2.front 1 rfl rfl
   dsimp only [List.eraseIdx] at k3
   have k4:=k3.front 4 rfl rfl
   dsimp only [List.eraseIdx] at k4
   have k5:=k4.front 3 rfl rfl
   dsimp only [List.eraseIdx] at k5
   have k6:=k5.front 5 rfl rfl
   dsimp only [List.eraseIdx] at k6
   have k7:=k6.front 5 rfl rfl
   dsimp only [List.eraseIdx] at k7
   have k8:=(Own.mkP (P:=RnOk [] []) (k7.front 5 rfl rfl) ⟨⟨List.nodup_nil,by simp⟩,by simp⟩).back 5 (by simp) rfl
   dsimp only [List.eraseIdx,List.insertIdx] at k8
   refine ⟨{x with nm:=nm},w4.heap.size,by rw [←hxn],by rw [←HID.out];exact zxt (zn2 hf1 hf2) HI0.out (by have:=HI1.out;simp only [stdC];omega) hxn hv k8⟩)
end
def zcx:List Int→List Int→List Int
 | [],c=>c
 | k::ks,c=>zcx ks (c.set k.toNat (c.getD k.toNat 0+1))
def zu3 (ks:List Int):List Int:=zcx ks (List.replicate 11 0)
abbrev elO (c:List Int):Obj:= .cells (intC c).toArray 84 (0,0)
section
variable {B:Nat} {w0 w W W':World} {ss rs:List Res} {x:Np} {s s':Ns} {l l':Nt}
theorem rd_sd {os:List Sd} {o:Sd} (ho:o∈os) (hm:sdsR os∈ss) (h:Own B w0 W rs) (hr: ∀r∈ss,r∈rs):RdOk w0 B o.v o.b ss:=by
 have hb: ∀ {W:World} {rs:List Res},Own B w0 W rs→(∀r∈ss,r∈rs)→Byt W o.v o.b:=fun hO hs=>by
  obtain ⟨D,⟨h1,-⟩,-⟩:=hO.fr (hs _ hm);exact ⟨(h1 o ho).r.1,(h1 o ho).lt⟩
 obtain ⟨D,⟨h1,-⟩,-⟩:=h.fr (hr _ hm);exact ⟨hb,zcp (hb h hr),(h1 o ho).n⟩
theorem kd_ad {b o q:Nat} {v u t:Value} {ob:Obj} (h:w.drew.cell? ⟨b,o,none⟩=some v∧w.drew.cell? ⟨q,0,none⟩=some u∧w.drew.cell? ⟨q,1,none⟩=some t):(w.alloc ob).drew.cell? ⟨b,o,none⟩=some v∧(w.alloc ob).drew.cell? ⟨q,0,none⟩=some u∧(w.alloc ob).drew.cell? ⟨q,1,none⟩=some t:=⟨zaq (w:=w) h.1,zaq (w:=w) h.2.1,zaq (w:=w) h.2.2⟩
theorem len11 {c:List Int} (h:c.length=11): ∃c0 c1 c2 c3 c4 c5 c6 c7 c8 c9 c10,c=[c0,c1,c2,c3,c4,c5,c6,c7,c8,c9,c10]:=by
 match c,h with
 | [c0,c1,c2,c3,c4,c5,c6,c7,c8,c9,c10],_=>exact ⟨c0,c1,c2,c3,c4,c5,c6,c7,c8,c9,c10,rfl⟩
theorem el_set (c:List Int) (k:Nat) (v:Int):setIn k (.int .i64 v) (elO c)=elO (c.set k v):=by
 unfold elO intC setIn;simp [List.map_set]
theorem zxj {b k:Nat} {c:List Int} (h:W.heap[b]?=some (elO c)) (hk:k<c.length):W.cell? ⟨b,k,none⟩=some (.int .i64 c[k]):=by
 rw [zac h];simp [intC,hk]
theorem zj4 {ks c:List Int} {j kd:Nat} {v:Int} {R:List Int} (hj:j<ks.length) (hk:ks[j]=kd) {hkl:kd<c.length} (hv:c[kd]=v) (h:zcx (ks.drop j) c=R):zcx (ks.drop (j+1)) (c.set kd (v+1))=R:=by
 rw [List.drop_eq_getElem_cons hj] at h;simp only [zcx] at h;rw [hk] at h;rw [←h,Int.toNat_natCast,List.getD_eq_getElem?_getD,List.getElem?_eq_getElem hkl,Option.getD_some,hv]
theorem own_11 {b:Nat} {T:TypeId} {c0 c1 c2 c3 c4 c5 c6 c7 c8 c9 c10 v0 v1 v2 v3 v4 v5 v6 v7 v8 v9 v10:Value} (h:Own B w0 W (blk b (.cells #[c0,c1,c2,c3,c4,c5,c6,c7,c8,c9,c10] T (0,0))::rs)):Own B w0 (((((((((((W.setCell ⟨b,0,none⟩ v0).setCell ⟨b,1,none⟩ v1).setCell ⟨b,2,none⟩ v2).setCell ⟨b,3,none⟩ v3).setCell ⟨b,4,none⟩ v4).setCell ⟨b,5,none⟩ v5).setCell ⟨b,6,none⟩ v6).setCell ⟨b,7,none⟩ v7).setCell ⟨b,8,none⟩ v8).setCell ⟨b,9,none⟩ v9).setCell ⟨b,10,none⟩ v10) (blk b (.cells #[v0,v1,v2,v3,v4,v5,v6,v7,v8,v9,v10] T (0,0))::rs):=by
 have h0:=Own.storeTo h 0 v0 (o':= .cells #[v0,c1,c2,c3,c4,c5,c6,c7,c8,c9,c10] T (0,0)) rfl;have h1:=Own.storeTo h0 1 v1 (o':= .cells #[v0,v1,c2,c3,c4,c5,c6,c7,c8,c9,c10] T (0,0)) rfl;have h2:=Own.storeTo h1 2 v2 (o':= .cells #[v0,v1,v2,c3,c4,c5,c6,c7,c8,c9,c10] T (0,0)) rfl;have h3:=Own.storeTo h2 3 v3 (o':= .cells #[v0,v1,v2,v3,c4,c5,c6,c7,c8,c9,c10] T (0,0)) rfl;have h4:=Own.storeTo h3 4 v4 (o':= .cells #[v0,v1,v2,v3,v4,c5,c6,c7,c8,c9,c10] T (0,0)) rfl;have h5:=Own.storeTo h4 5 v5 (o':= .cells #[v0,v1,v2,v3,v4,v5,c6,c7,c8,c9,c10] T (0,0)) rfl;have h6:=Own.storeTo h5 6 v6 (o':= .cells #[v0,v1,v2,v3,v4,v5,v6,c7,c8,c9,c10] T (0,0)) rfl;have h7:=Own.storeTo h6 7 v7 (o':= .cells #[v0,v1,v2,v3,v4,v5,v6,v7,c8,c9,c10] T (0,0)) rfl;have h8:=Own.storeTo h7 8 v8 (o':= .cells #[v0,v1,v2,v3,v4,v5,v6,v7,v8,c9,c10] T (0,0)) rfl;have h9:=Own.storeTo h8 9 v9 (o':= .cells #[v0,v1,v2,v3,v4,v5,v6,v7,v8,v9,c10] T (0,0)) rfl;have h10:=Own.storeTo h9 10 v10 (o':= .cells #[v0,v1,v2,v3,v4,v5,v6,v7,v8,v9,v10] T (0,0)) rfl;exact h10
theorem zu4 {a:Option Addr} {k:Nat} {os:List Sd} {ks:List Int} (hl:ks.length=os.length) (hks: ∀(j:Nat) (hj:j<os.length) (hj2:j<ks.length),∃(m:Ms) (sl:Int),openP l s.c.f s.c.cl os[j].b=some (m,sl)∧m.kind=ks[j]∧0≤ks[j]∧ks[j]≤10) (hn:os.length≤1000000000)
  (h:NdIs B w0 W x s l (redR (.slice a os.length k) 2 os.length (os.flatMap sdC)::sdsR os::ss)):
  Calls Tryz.prog 39 #[.slice a os.length k,.agg (cfA s.c),ptrV x.nt] W fun e w'=>e= .returned (.agg (intC (zu3 ks)).toArray)∧NdIs B w0 w' x s l (redR (.slice a os.length k) 2 os.length (os.flatMap sdC)::sdsR os::ss):=by
 have h1:=((h.box (.cells (cfA s.c) 30 (0,0))).box (elO (List.replicate 11 0))).box (elO (List.replicate 11 0));simp only [zbf] at h1;have H1:=zq h1;obtain ⟨r0,hs0,-⟩:=h.side;obtain ⟨ao',cap',hv',hcap,-⟩:=zae (k:=0) hs0 rfl;have hcI:(os.length:Int)≤(k:Int):=by
  simp only [Value.slice.injEq] at hv';omega
 have HKS:=zq hks;clear h h1 hs0 hv' hcap hks;go_enter Tryz.func39,Tryz.ntmps39
 go_wp2_with fail
 go_loopw [14] (fun i wr=> ∃(j:Nat) (c:List Int),j≤os.length∧i= .int .i64 j∧c.length=11∧Hid (zcx (ks.drop j) c=zu3 ks)∧Hid (∀v∈c,0≤v∧v≤j)∧Hid (NdIs B w0 wr x s l (blk (W.heap.size+1+1) (elO c)::blk (W.heap.size+1) (elO (List.replicate 11 0))::blk W.heap.size (.cells (cfA s.c) 30 (0,0))::redR (.slice a os.length k) 2 os.length (os.flatMap sdC)::sdsR os::ss))) (fun i _=>os.length-(intOf i).toNat)
 case atStart=>exact ⟨0,List.replicate 11 0,by omega,rfl,by simp,zq rfl,zq (fun v hv=>by rw [List.eq_of_mem_replicate hv];simp),H1⟩
 case round=>
  clear H1;obtain ⟨j,c,hj,rfl,hc,HG,HV,H1⟩:=hrel;by_cases hlt:j<os.length
  ·have hjI:(j:Int)<(os.length:Int):=by omega
   have hj0:(0:Int)≤(j:Int):=by omega
   obtain ⟨m,sl,ho,hmk,hk0,hk1⟩:=HKS.out j hlt (by omega);obtain ⟨kd,hkd⟩: ∃kd:Nat,ks[j]=kd:=⟨ks[j].toNat,by omega⟩;have HKD:=zq hkd;rw [hkd] at hmk hk0 hk1;obtain ⟨r1,hs1,-⟩:=H1.out.side;obtain ⟨ao,cap,hv,-,-,-,-,hcl⟩:=zae (k:=3) hs1 rfl;simp only [Value.slice.injEq] at hv;obtain ⟨b,o,hao,hbl,hcell⟩:=hcl (by omega);rw [←hv.1] at hao;subst hao;have hrd:=rd_sd (o:=os[j]) (List.getElem_mem hlt) (ss:=(blk (W.heap.size+1+1) (elO c)::blk (W.heap.size+1) (elO (List.replicate 11 0))::blk W.heap.size (.cells (cfA s.c) 30 (0,0))::redR (.slice (some ⟨b,o,none⟩) os.length k) 2 os.length (os.flatMap sdC)::sdsR os::ss)) (by simp) hs1 (fun r hr=>by simp only [List.mem_append];exact .inl hr);obtain ⟨bo,bk,hbv,-,-⟩:=hrd.f;have hcv:wr.cell? ⟨b,o+j*2+1,none⟩=some (.slice bo os[j].b.length bk):=by
    have h1:=hcell (j*2+1) (by omega);rw [zd1 sdC 2 (fun _=>rfl) os j 1 hlt (by omega)] at h1;rw [←hbv,Nat.add_assoc];exact h1.trans rfl
   have HRD:=zq hrd;have HO:=zq ho;rw [hbv] at hrd;have f0:wr.cell? ⟨W.heap.size,0,none⟩=some (.int .i64 s.c.f):=zaa (hs1.blkAt 2 rfl) 0 rfl;have f1:wr.cell? ⟨W.heap.size,1,none⟩=some (.int .i64 s.c.cl):=zaa (hs1.blkAt 2 rfl) 1 rfl;have HP1:=zq (zd5 H1.out.drew hrd HO.out);have HP2:=zq (zd5 (H1.out.box (.cells #[.int .i64 0,.int .i64 0,.int .i64 0,.int .i64 0,.int .i64 0,.int .i64 0,.slice none 0 0,.slice none 0 0,.slice none 0 0,.slice none 0 0] 47 (0,0))).drew (hrd.sub (fun q hq=>List.mem_cons_of_mem _ hq)) HO.out);have HMK:=zq hmk;generalize os[j].b.length=bl at*;have HC:=zq hcv;have HQ:Hid (∀(w':World) (hd:List Res),NdIs B w0 w' x s l (hd++(blk (W.heap.size+1+1) (elO c)::blk (W.heap.size+1) (elO (List.replicate 11 0))::blk W.heap.size (.cells (cfA s.c) 30 (0,0))::redR (.slice (some ⟨b,o,none⟩) os.length k) 2 os.length (os.flatMap sdC)::sdsR os::ss))→w'.cell? ⟨b,o+j*2+1,none⟩=some (.slice bo bl bk)∧w'.cell? ⟨W.heap.size,0,none⟩=some (.int .i64 s.c.f)∧w'.cell? ⟨W.heap.size,1,none⟩=some (.int .i64 s.c.cl)):=zq (fun w' hd h=>by
    obtain ⟨r',hs',-⟩:=h.side;have e: ∀(i:Nat) (r:Res),(blk (W.heap.size+1+1) (elO c)::blk (W.heap.size+1) (elO (List.replicate 11 0))::blk W.heap.size (.cells (cfA s.c) 30 (0,0))::redR (.slice (some ⟨b,o,none⟩) os.length k) 2 os.length (os.flatMap sdC)::sdsR os::ss)[i]?=some r→((hd++(blk (W.heap.size+1+1) (elO c)::blk (W.heap.size+1) (elO (List.replicate 11 0))::blk W.heap.size (.cells (cfA s.c) 30 (0,0))::redR (.slice (some ⟨b,o,none⟩) os.length k) 2 os.length (os.flatMap sdC)::sdsR os::ss))++[r'])[hd.length+i]?=some r:=fun i r he=>by
     rw [List.append_assoc,List.getElem?_append_right (by omega),Nat.add_sub_cancel_left,List.getElem?_append_left (List.getElem?_eq_some_iff.1 he).1];exact he
    have hb:=hs'.blkAt (hd.length+2) (e 2 _ rfl);obtain ⟨ao1,cap1,hv1,-,-,-,-,hcl1⟩:=zae hs' (e 3 _ rfl);simp only [Value.slice.injEq] at hv1;obtain ⟨b1,o1,hao1,-,hcell1⟩:=hcl1 (by omega);rw [←hv1.1] at hao1;simp only [Option.some.injEq,Addr.mk.injEq] at hao1;obtain ⟨rfl,rfl,-⟩:=hao1;refine ⟨?_,zaa hb 0 rfl,zaa hb 1 rfl⟩;have h1:=hcell1 (j*2+1) (by omega);rw [zd1 sdC 2 (fun _=>rfl) os j 1 hlt (by omega)] at h1;rw [←hbv,Nat.add_assoc];exact h1.trans rfl)
   have HE0:Hid (∀(w':World) (mm:Mm),NdIs B w0 w' x s l (mmR mm (blk (W.heap.size+1+1) (elO c)::blk (W.heap.size+1) (elO (List.replicate 11 0))::blk W.heap.size (.cells (cfA s.c) 30 (0,0))::redR (.slice (some ⟨b,o,none⟩) os.length k) 2 os.length (os.flatMap sdC)::sdsR os::ss))→_):=zq (fun w' mm h=>HQ.out w' [_,_,_,_,_,_] h);have HE1:Hid (∀(w':World) (mm:Mm),NdIs B w0 w' x s l (mmR mm (blk wr.heap.size (.cells #[.int .i64 0,.int .i64 0,.int .i64 0,.int .i64 0,.int .i64 0,.int .i64 0,.slice none 0 0,.slice none 0 0,.slice none 0 0,.slice none 0 0] 47 (0,0))::(blk (W.heap.size+1+1) (elO c)::blk (W.heap.size+1) (elO (List.replicate 11 0))::blk W.heap.size (.cells (cfA s.c) 30 (0,0))::redR (.slice (some ⟨b,o,none⟩) os.length k) 2 os.length (os.flatMap sdC)::sdsR os::ss)))→_):=zq (fun w' mm h=>HQ.out w' [_,_,_,_,_,_,_] h);have HE2:Hid (∀(w':World) (mm:Mm) (q:Nat) (ob:Obj),NdIs B w0 w' x s l (mmR mm (blk q ob::(blk (W.heap.size+1+1) (elO c)::blk (W.heap.size+1) (elO (List.replicate 11 0))::blk W.heap.size (.cells (cfA s.c) 30 (0,0))::redR (.slice (some ⟨b,o,none⟩) os.length k) 2 os.length (os.flatMap sdC)::sdsR os::ss)))→_):=zq (fun w' mm q ob h=>HQ.out w' [_,_,_,_,_,_,_] h);clear hcell hv hcl hrd ho hkd hs1 hbv hmk HRD;have d0:wr.drew.cell? ⟨b,o+j*2+1,none⟩=some (.slice bo bl bk)∧wr.drew.cell? ⟨W.heap.size,0,none⟩=some (.int .i64 s.c.f)∧wr.drew.cell? ⟨W.heap.size,1,none⟩=some (.int .i64 s.c.cl):=⟨hcv,f0,f1⟩
   go_wp2_with fail
   go_region_held3 (fun w'=>w'.cell? ⟨b,o+j*2+1,none⟩=some (.slice bo bl bk)∧w'.cell? ⟨W.heap.size,0,none⟩=some (.int .i64 s.c.f)∧w'.cell? ⟨W.heap.size,1,none⟩=some (.int .i64 s.c.cl))
    (first | (with_reducible exact d0) | (with_reducible exact e0) | (with_reducible exact ⟨zaq d0.1,zaq d0.2.1,zaq d0.2.2⟩) | (with_reducible exact ⟨zaq e0.1,zaq e0.2.1,zaq e0.2.2⟩) | (with_reducible exact e1) | (with_reducible exact kd_ad d0) | (with_reducible exact kd_ad e0))
    (first | (go_at_call 27;refine HP1.out.mono ?_;rintro e w3 ⟨mm,rfl,hmm,-,h3⟩;have e0:=HE0.out w3 mm h3;obtain ⟨kind,fm,view,inst,seq,res,a1,rs,c1,a2,vs,c2,a3,cts,c3,a4,pts,c4,rfl⟩:=ziq h3;have H3:=zq h3;clear h3) | (go_at_call 27;refine HP2.out.mono ?_;rintro e w3 ⟨mm,rfl,hmm,-,h3⟩;have e0:=HE1.out w3 mm h3;obtain ⟨kind,fm,view,inst,seq,res,a1,rs,c1,a2,vs,c2,a3,cts,c3,a4,pts,c4,rfl⟩:=ziq h3;have H3:=zq h3;clear h3;obtain ⟨r3,hs3,-⟩:=H3.out.side;have b0:=hs3.blkAt 6 rfl;have x0:=zaa b0 0 rfl;have z0:=zab b0 0;have x1:=zaa b0 1 rfl;have z1:=zab b0 1;have x2:=zaa b0 2 rfl;have z2:=zab b0 2;have x3:=zaa b0 3 rfl;have z3:=zab b0 3;have x4:=zaa b0 4 rfl;have z4:=zab b0 4;have x5:=zaa b0 5 rfl;have z5:=zab b0 5;have x6:=zaa b0 6 rfl;have z6:=zab b0 6;have x7:=zaa b0 7 rfl;have z7:=zab b0 7;have x8:=zaa b0 8 rfl;have z8:=zab b0 8;have x9:=zaa b0 9 rfl;have z9:=zab b0 9;have H4:=zq (nd_ten (v0:= .int .i64 kind) (v1:= .int .i64 fm) (v2:= .int .i64 view) (v3:= .int .i64 inst) (v4:= .int .i64 seq) (v5:= .int .i64 res) (v6:= .slice a1 rs.length c1) (v7:= .slice a2 vs.length c2) (v8:= .slice a3 cts.length c3) (v9:= .slice a4 pts.length c4) H3.out);have e1:=HE2.out _ _ _ _ H4.out;clear b0 hs3))
   ·have HZ:Hid (NdIs B w0 (w3.alloc (mmO ⟨kind,fm,view,inst,seq,res,.slice a1 rs.length c1,rs,.slice a2 vs.length c2,vs,.slice a3 cts.length c3,cts,.slice a4 pts.length c4,pts⟩)) x s l (mmR ⟨kind,fm,view,inst,seq,res,.slice a1 rs.length c1,rs,.slice a2 vs.length c2,vs,.slice a3 cts.length c3,cts,.slice a4 pts.length c4,pts⟩ (blk w3.heap.size (mmO ⟨kind,fm,view,inst,seq,res,.slice a1 rs.length c1,rs,.slice a2 vs.length c2,vs,.slice a3 cts.length c3,cts,.slice a4 pts.length c4,pts⟩)::(blk (W.heap.size+1+1) (elO c)::blk (W.heap.size+1) (elO (List.replicate 11 0))::blk W.heap.size (.cells (cfA s.c) 30 (0,0))::redR (.slice (some ⟨b,o,none⟩) os.length k) 2 os.length (os.flatMap sdC)::sdsR os::ss)))):=zq ((H3.out.box (mmO ⟨kind,fm,view,inst,seq,res,.slice a1 rs.length c1,rs,.slice a2 vs.length c2,vs,.slice a3 cts.length c3,cts,.slice a4 pts.length c4,pts⟩)).perm ((List.perm_append_comm (l₁:=[_]) (l₂:=[_,_,_,_,_,_])).append_right _))
    clear H3 H1 d0 e0 HP1 HP2 HE0 HE1 HE2 HQ HC HO;generalize World.alloc w3 _=y at*;generalize w3.heap.size=q at*;obtain ⟨rq,hsq,hkq⟩:=HZ.out.side;have hbq:=hsq.blkAt 6 rfl;have hbc:=hsq.blkAt 7 rfl;have y0:y.cell? ⟨q,0,none⟩=some (.int .i64 kd):=by
     have:=zaa hbq 0 rfl;have hkk:kind=(kd:Int):=by have h:=HMK.out;rw [←hmm] at h;exact h
     rw [←hkk];exact this
    have hkl:kd<c.length:=by omega
    have cc:=zxj hbc hkl;have zc:=zab hbc kd;obtain ⟨hc0,hc1⟩:=HV.out c[kd] (List.getElem_mem hkl);obtain ⟨v,hv⟩: ∃v,c[kd]=v:=⟨_,rfl⟩;rw [hv] at hc0 hc1 cc;have h7:=(hsq.front 7 rfl rfl).store kd (.int .i64 (v+1))
    dsimp only [List.eraseIdx,List.cons_append] at h7
    rw [el_set] at h7;have h8:=h7.dropAt 1 (by simp)
    dsimp only [List.eraseIdx] at h8
    have h9:=h8.dropAt 1 (by simp)
    dsimp only [List.eraseIdx] at h9
    have h10:=h9.dropAt 1 (by simp)
    dsimp only [List.eraseIdx] at h10
    have h11:=h10.dropAt 1 (by simp)
    dsimp only [List.eraseIdx] at h11
    have h12:=h11.dropAt 1 (by simp)
    dsimp only [List.eraseIdx] at h12
    have h13:=h12.dropAt 1 (by simp)
    dsimp only [List.eraseIdx] at h13
    have h14:=h13.dropAt 1 (by simp)
    dsimp only [List.eraseIdx] at h14
    have HX:=zq (hkq _ (blk (W.heap.size+1+1) (elO (c.set kd (v+1)))::blk (W.heap.size+1) (elO (List.replicate 11 0))::blk W.heap.size (.cells (cfA s.c) 30 (0,0))::redR (.slice (some ⟨b,o,none⟩) os.length k) 2 os.length (os.flatMap sdC)::sdsR os::ss) h14);have HVV:=zq hv;clear hsq hkq hbq hbc h7 h8 h9 h10 h11 h12 h13 h14 HZ hv HMK hmm;generalize rs.length=n1 at*
    go_wp2_with fail
    refine ⟨⟨j+1,c.set kd (v+1),by omega,by simp,by simp [hc],zq (zj4 (by omega) HKD.out HVV.out HG.out),zq (fun u hu=> ?_),HX⟩,by simp [intOf];omega⟩;rcases List.mem_or_eq_of_mem_set hu with hu | rfl
    ·have:=HV.out u hu
     omega
    ·omega
   ·have HZ:=H4
    clear H3 H4 H1 d0 e0 e1 HP1 HP2 HE0 HE1 HE2 HQ HC HO x0 x1 x2 x3 x4 x5 x6 x7 x8 x9 z0 z1 z2 z3 z4 z5 z6 z7 z8 z9;generalize World.setCell _ _ _=y at*;generalize wr.heap.size=q at*;obtain ⟨rq,hsq,hkq⟩:=HZ.out.side;have hbq:=hsq.blkAt 6 rfl;have hbc:=hsq.blkAt 7 rfl;have y0:y.cell? ⟨q,0,none⟩=some (.int .i64 kd):=by
     have:=zaa hbq 0 rfl;have hkk:kind=(kd:Int):=by have h:=HMK.out;rw [←hmm] at h;exact h
     rw [←hkk];exact this
    have hkl:kd<c.length:=by omega
    have cc:=zxj hbc hkl;have zc:=zab hbc kd;obtain ⟨hc0,hc1⟩:=HV.out c[kd] (List.getElem_mem hkl);obtain ⟨v,hv⟩: ∃v,c[kd]=v:=⟨_,rfl⟩;rw [hv] at hc0 hc1 cc;have h7:=(hsq.front 7 rfl rfl).store kd (.int .i64 (v+1))
    dsimp only [List.eraseIdx,List.cons_append] at h7
    rw [el_set] at h7;have h8:=h7.dropAt 1 (by simp)
    dsimp only [List.eraseIdx] at h8
    have h9:=h8.dropAt 1 (by simp)
    dsimp only [List.eraseIdx] at h9
    have h10:=h9.dropAt 1 (by simp)
    dsimp only [List.eraseIdx] at h10
    have h11:=h10.dropAt 1 (by simp)
    dsimp only [List.eraseIdx] at h11
    have h12:=h11.dropAt 1 (by simp)
    dsimp only [List.eraseIdx] at h12
    have h13:=h12.dropAt 1 (by simp)
    dsimp only [List.eraseIdx] at h13
    have h14:=h13.dropAt 1 (by simp)
    dsimp only [List.eraseIdx] at h14
    have HX:=zq (hkq _ (blk (W.heap.size+1+1) (elO (c.set kd (v+1)))::blk (W.heap.size+1) (elO (List.replicate 11 0))::blk W.heap.size (.cells (cfA s.c) 30 (0,0))::redR (.slice (some ⟨b,o,none⟩) os.length k) 2 os.length (os.flatMap sdC)::sdsR os::ss) h14);have HVV:=zq hv;clear hsq hkq hbq hbc h7 h8 h9 h10 h11 h12 h13 h14 HZ hv HMK hmm;generalize rs.length=n1 at*
    go_wp2_with fail
    refine ⟨⟨j+1,c.set kd (v+1),by omega,by simp,by simp [hc],zq (zj4 (by omega) HKD.out HVV.out HG.out),zq (fun u hu=> ?_),HX⟩,by simp [intOf];omega⟩;rcases List.mem_or_eq_of_mem_set hu with hu | rfl
    ·have:=HV.out u hu
     omega
    ·omega
  ·have hje:j=os.length:=by omega
   subst hje;have hg:=HG.out;rw [List.drop_of_length_le (by omega)] at hg;simp only [zcx] at hg;subst hg;obtain ⟨c0,c1,c2,c3,c4,c5,c6,c7,c8,c9,c10,hce⟩:=len11 hc;rw [hce] at H1⊢;clear HV HKS HG;obtain ⟨r1,hs1,hk1⟩:=H1.out.side;have hbq:=hs1.blkAt 0 rfl;have hbr:=hs1.blkAt 1 rfl;have y0:wr.cell? ⟨W.heap.size+1+1,0,none⟩=some (.int .i64 c0):=zaa hbq 0 rfl;have y1:wr.cell? ⟨W.heap.size+1+1,1,none⟩=some (.int .i64 c1):=zaa hbq 1 rfl;have y2:wr.cell? ⟨W.heap.size+1+1,2,none⟩=some (.int .i64 c2):=zaa hbq 2 rfl;have y3:wr.cell? ⟨W.heap.size+1+1,3,none⟩=some (.int .i64 c3):=zaa hbq 3 rfl;have y4:wr.cell? ⟨W.heap.size+1+1,4,none⟩=some (.int .i64 c4):=zaa hbq 4 rfl;have y5:wr.cell? ⟨W.heap.size+1+1,5,none⟩=some (.int .i64 c5):=zaa hbq 5 rfl;have y6:wr.cell? ⟨W.heap.size+1+1,6,none⟩=some (.int .i64 c6):=zaa hbq 6 rfl;have y7:wr.cell? ⟨W.heap.size+1+1,7,none⟩=some (.int .i64 c7):=zaa hbq 7 rfl;have y8:wr.cell? ⟨W.heap.size+1+1,8,none⟩=some (.int .i64 c8):=zaa hbq 8 rfl;have y9:wr.cell? ⟨W.heap.size+1+1,9,none⟩=some (.int .i64 c9):=zaa hbq 9 rfl;have y10:wr.cell? ⟨W.heap.size+1+1,10,none⟩=some (.int .i64 c10):=zaa hbq 10 rfl;have t0:wr.cell? ⟨W.heap.size+1,0,none⟩=some (.int .i64 0):=zaa hbr 0 rfl;have t1:wr.cell? ⟨W.heap.size+1,1,none⟩=some (.int .i64 0):=zaa hbr 1 rfl;have t2:wr.cell? ⟨W.heap.size+1,2,none⟩=some (.int .i64 0):=zaa hbr 2 rfl;have t3:wr.cell? ⟨W.heap.size+1,3,none⟩=some (.int .i64 0):=zaa hbr 3 rfl;have t4:wr.cell? ⟨W.heap.size+1,4,none⟩=some (.int .i64 0):=zaa hbr 4 rfl;have t5:wr.cell? ⟨W.heap.size+1,5,none⟩=some (.int .i64 0):=zaa hbr 5 rfl;have t6:wr.cell? ⟨W.heap.size+1,6,none⟩=some (.int .i64 0):=zaa hbr 6 rfl;have t7:wr.cell? ⟨W.heap.size+1,7,none⟩=some (.int .i64 0):=zaa hbr 7 rfl;have t8:wr.cell? ⟨W.heap.size+1,8,none⟩=some (.int .i64 0):=zaa hbr 8 rfl;have t9:wr.cell? ⟨W.heap.size+1,9,none⟩=some (.int .i64 0):=zaa hbr 9 rfl;have t10:wr.cell? ⟨W.heap.size+1,10,none⟩=some (.int .i64 0):=zaa hbr 10 rfl;have z0:=zab hbr 0;have z1:=zab hbr 1;have z2:=zab hbr 2;have z3:=zab hbr 3;have z4:=zab hbr 4;have z5:=zab hbr 5;have z6:=zab hbr 6;have z7:=zab hbr 7;have z8:=zab hbr 8;have z9:=zab hbr 9;have z10:=zab hbr 10;have h7:=own_11 (T:=84) (c0:= .int .i64 0) (c1:= .int .i64 0) (c2:= .int .i64 0) (c3:= .int .i64 0) (c4:= .int .i64 0) (c5:= .int .i64 0) (c6:= .int .i64 0) (c7:= .int .i64 0) (c8:= .int .i64 0) (c9:= .int .i64 0) (c10:= .int .i64 0) (hs1.front 1 rfl rfl) (v0:= .int .i64 c0) (v1:= .int .i64 c1) (v2:= .int .i64 c2) (v3:= .int .i64 c3) (v4:= .int .i64 c4) (v5:= .int .i64 c5) (v6:= .int .i64 c6) (v7:= .int .i64 c7) (v8:= .int .i64 c8) (v9:= .int .i64 c9) (v10:= .int .i64 c10)
   dsimp only [List.eraseIdx,List.cons_append] at h7
   have HU:=zq h7;have HF:=zq (hk1 _ (redR (.slice a os.length k) 2 os.length (os.flatMap sdC)::sdsR os::ss) h7.drop.drop.drop);have HCE:=zq hce;clear hs1 hk1 hbq hbr h7 H1 hce hc hl
   go_wp2_with fail
   clear t0 t1 t2 t3 t4 t5 t6 t7 t8 t9 t10 y0 y1 y2 y3 y4 y5 y6 y7 y8 y9 y10 z0 z1 z2 z3 z4 z5 z6 z7 z8 z9 z10;generalize World.setCell _ _ _=w9 at*;have hbu:=HU.out.blkAt 0 rfl;have u0:=zaa hbu 0 rfl;have u1:=zaa hbu 1 rfl;have u2:=zaa hbu 2 rfl;have u3:=zaa hbu 3 rfl;have u4:=zaa hbu 4 rfl;have u5:=zaa hbu 5 rfl;have u6:=zaa hbu 6 rfl;have u7:=zaa hbu 7 rfl;have u8:=zaa hbu 8 rfl;have u9:=zaa hbu 9 rfl;have u10:=zaa hbu 10 rfl;refine bodyPost_ret (v:= .agg #[.int .i64 c0,.int .i64 c1,.int .i64 c2,.int .i64 c3,.int .i64 c4,.int .i64 c5,.int .i64 c6,.int .i64 c7,.int .i64 c8,.int .i64 c9,.int .i64 c10]) (by simp [results,Tryz.results39,go_sem,u0,u1,u2,u3,u4,u5,u6,u7,u8,u9,u10]) rfl ?_;exact ⟨by rw [HCE.out];rfl,HF.out⟩
end
def isV (view:Int) (x:Vo):Bool:=x.has&&(x.view==view)
def filV (view:Int):List Vo→Nat→Vs
 | [],_=>[]
 | x::l,i=>if isV view x then ((i:Int),x.sl)::filV view l (i+1) else filV view l (i+1)
theorem zm4 (view:Int) (q:Nat): ∀(l:List Vo) (i:Nat) (acc:Vs),acc.length≤q→eGo view q l i acc=acc++(filV view l i).take (q-acc.length)
 | [],i,acc,h=>by simp [eGo,filV]
 | x::l,i,acc,h=>by
  unfold eGo filV;have e:(x.has&&(x.view==view)&&decide (acc.length<q))=(isV view x&&decide (acc.length<q)):=rfl;rw [e];cases hb:isV view x with
  | false=>simp only [Bool.false_and,Bool.false_eq_true,if_false];exact zm4 view q l (i+1) acc h
  | true=>
   simp only [Bool.true_and,if_true];by_cases hq:acc.length<q
   ·rw [if_pos (by simpa using hq),zm4 view q l (i+1) _ (by simp;omega)]
    rw [show q-acc.length=(q-(acc.length+1))+1 by omega,List.take_succ_cons];simp
   ·rw [if_neg (by simpa using hq),zm4 view q l (i+1) acc h,show q-acc.length=0 by omega]
    simp
theorem zns (l:List Vo) (view:Int) (q:Nat):zkh l view q=(filV view l 0).take q:=by
 unfold zkh;rw [zm4 view q l 0 [] (by simp)];simp
theorem zlp (view:Int): ∀(l:List Vo) (i:Nat),(filV view l i).length=l.countP (isV view)
 | [],i=>rfl
 | x::l,i=>by
  unfold filV;rw [List.countP_cons];cases isV view x<;>simp [zlp view l (i+1)]
theorem zih (view:Int): ∀(l:List Vo) (i:Nat) (p:Int×Int),p∈filV view l i→ ∃(k:Nat) (h:k<l.length),p=(((i+k:Nat):Int),l[k].sl)∧isV view l[k]=true
 | [],i,p,h=>by simp [filV] at h
 | x::l,i,p,h=>by
  unfold filV at h;have rec':p∈filV view l (i+1)→ ∃(k:Nat) (h:k<(x::l).length),p=(((i+k:Nat):Int),(x::l)[k].sl)∧isV view (x::l)[k]=true:=fun h=>by
   obtain ⟨k,hk,e,hv⟩:=zih view l (i+1) p h;exact ⟨k+1,by simpa using hk,by rw [e];simp;omega,by simpa using hv⟩
  cases hb:isV view x with
  | false=>rw [hb] at h;exact rec' (by simpa using h)
  | true=>
   rw [hb] at h;simp only [if_true,List.mem_cons] at h;rcases h with rfl | h
   ·exact ⟨0,by simp,by simp,by simpa using hb⟩
   ·exact rec' h
theorem zii (view:Int): ∀(l:List Vo) (i:Nat),(filV view l i).Pairwise (fun a b=>a.1<b.1)
 | [],i=>List.Pairwise.nil
 | x::l,i=>by
  unfold filV;cases isV view x with
  | false=>simpa using zii view l (i+1)
  | true=>
   simp only [if_true];refine List.pairwise_cons.2 ⟨fun p hp=> ?_,zii view l (i+1)⟩;obtain ⟨k,hk,e,-⟩:=zih view l (i+1) p hp;rw [e];simp only;omega
structure MvS (f:Nat) (id v:Int) (i k:Nat) (vo:List Vo) (l:Nt):Prop where
 vn:vo.length=3*f+1
 vc:vo.countP (isV v)=k
 vh: ∀(j:Nat) (h:j<vo.length),vo[j].has=true→j<i∧(j:Int)≠id∧chkN l j (chgB j v) vo[j].sl=true∧0≤vo[j].sl∧vo[j].sl≤1000000000
 ln:l.length=k
 lb: ∀x∈l,x.1<i
theorem MvS.skip {f:Nat} {id v:Int} {i k:Nat} {vo:List Vo} {l:Nt} (h:MvS f id v i k vo l):MvS f id v (i+1) k vo l:=
 {h with vh:=fun j hj hh=>let ⟨a,b⟩:=h.vh j hj hh;⟨by omega,b⟩,lb:=fun x hx=>by have:=h.lb x hx;omega}
theorem MvS.new {f:Nat} {id v:Int} {i k:Nat} {vo:List Vo} {l:Nt} (h:MvS f id v i k vo l) (b:Bys):((i:Int),b)∉l:=fun hn=>by have:=h.lb _ hn;simp at this
theorem MvS.put {f:Nat} {id v:Int} {i k:Nat} {vo:List Vo} {l:Nt} (h:MvS f id v i k vo l) (hi:i≤3*f) (h0:0≤v) (h1:v≤11):putB vo i v=true:=by
 have hiv:i<vo.length:=by have:=h.vn;omega
 have hv:(voAt vo (i:Int).toNat).has=false:=by
  unfold voAt;rw [List.getD_eq_getElem?_getD,Int.toNat_natCast,List.getElem?_eq_getElem hiv,Option.getD_some];cases hb:vo[i].has with
  | false=>rfl
  | true=>have:=(h.vh i hiv hb).1;omega
 unfold putB;rw [hv];have:=h.vn;simp;omega
theorem MvS.step {f:Nat} {id v:Int} {i k:Nat} {vo:List Vo} {l:Nt} (h:MvS f id v i k vo l) (hi:i≤3*f) (hne:(i:Int)≠id) (h0:0≤v) (h1:v≤11) (hk:k≤1000):
  MvS f id v (i+1) (k+1) (putL vo i v (sealN l i (chgB i v))) (sealL l i (chgB i v)):=by
 have hp:=h.put hi h0 h1;have hn:=h.new (chgB i v);have hiv:i<vo.length:=by have:=h.vn;omega
 have hf:isV v vo[i]=false:=by
  unfold isV;cases hb:vo[i].has with
  | false=>rfl
  | true=>have:=(h.vh i hiv hb).1;omega
 have hsl:sealN l i (chgB i v)=(k:Int)+1:=by unfold sealN;rw [List.idxOf_eq_length hn,h.ln]
 unfold putL;rw [hp,if_pos rfl,Int.toNat_natCast];constructor
 ·rw [List.length_set];exact h.vn
 ·rw [List.countP_set (h:=hiv),h.vc,hf]
  simp [isV]
 ·intro j hj hh
  rw [List.getElem_set] at hh⊢;by_cases hji:i=j
  ·subst hji
   rw [if_pos rfl];refine ⟨by omega,hne,?_,?_,?_⟩
   ·unfold chkN
    rw [zgp];simp [ze4]
   ·simp only;omega
   ·simp only;omega
  ·rw [if_neg hji] at hh⊢
   rw [List.length_set] at hj;obtain ⟨a,b,c,d⟩:=h.vh j hj hh;refine ⟨by omega,b,?_,d⟩;unfold chkN at c⊢;simp only [Bool.and_eq_true,decide_eq_true_eq,beq_iff_eq] at c⊢;exact ⟨zsx _ _ c.1,by rw [zuh _ _ c.1];exact c.2⟩
 ·unfold sealL;rw [if_neg hn];simp [h.ln]
 ·intro x hx
  unfold sealL at hx;rw [if_neg hn] at hx;simp only [List.mem_append,List.mem_singleton] at hx;rcases hx with hx | rfl
  ·have:=h.lb x hx;omega
  ·simp only;omega
theorem MvS.few {f:Nat} {id v:Int} {i k:Nat} {vo:List Vo} {l:Nt} (h:MvS f id v i k vo l) (hk:k<2*f+1):(zkh vo v (2*f+1)).length≠2*f+1:=by
 rw [zns,List.length_take,zlp,h.vc];omega
theorem MvS.enough {f:Nat} {id v:Int} {i:Nat} {vo:List Vo} {l:Nt} (h:MvS f id v i (2*f+1) vo l):
  (zkh vo v (2*f+1)).length=2*f+1∧Rises (zkh vo v (2*f+1)) (3*(f:Int)+1)∧ ∀q∈zkh vo v (2*f+1),chkN l q.1 (chgB q.1 v) q.2=true∧0≤q.2∧q.2≤1000000000:=by
 rw [zns];refine ⟨by rw [List.length_take,zlp,h.vc];omega,⟨(zii v vo 0).take,fun p hp=> ?_⟩,fun q hq=> ?_⟩
 ·obtain ⟨k,hk,e,-⟩:=zih v vo 0 p (List.mem_of_mem_take hp)
  have:=h.vn;rw [e];simp only;omega
 ·obtain ⟨k,hk,e,hv⟩:=zih v vo 0 q (List.mem_of_mem_take hq)
  unfold isV at hv;simp only [Bool.and_eq_true] at hv;obtain ⟨-,-,c,d⟩:=h.vh k hk hv.1;rw [e]
  simpa using ⟨c,d⟩
theorem rd_bys {B:Nat} {w0 W:World} {bv:Value} {bs:Bys} {ss rs:List Res} (h:Own B w0 W rs) (hm:bysR bv bs∈ss) (hs: ∀r∈ss,r∈rs) (hb: ∀c∈bs,c<256) (hl:bs.length≤65536):RdOk w0 B bv bs ss:=by
 have hB: ∀ {W:World} {rs:List Res},Own B w0 W rs→(∀r∈ss,r∈rs)→Byt W bv bs:=fun ho hh=>⟨owns_reads (zaj (ho.all _ (hh _ hm)).1),hb⟩;exact ⟨hB,zcp (hB h hs),hl⟩
theorem zus {l:Nt} {m:Ms} {b:Bys} (hb:bodyP m=some b) (hl:b.length≤65530) (hn:l.length≤1000000000):(∀c∈givE l m.fm b,c<256)∧(givE l m.fm b).length≤65536:=by
 have h1:=zjf hn m.fm b;have h2:=zdn (sealN l m.fm b);rw [zqw hn m.fm hl];refine ⟨fun c hc=> ?_,by rw [List.length_append];omega⟩;rcases List.mem_append.1 hc with h | h
 ·refine zf7 5 _ ?_ c h
  unfold numOk at h1;simp only [Bool.and_eq_true,decide_eq_true_eq] at h1;have:(128:Nat)^(5+1)=4398046511104:=by decide
  omega
 ·exact (zex hb).1 c h
section
variable {B:Nat} {w0 w W W':World} {ss rs:List Res} {x:Np} {s s':Ns} {l l':Nt} {rn:Nat} {vp:Value} {vt:Rn}
theorem give_nd {m:Mm} {b:Bys} {P:NSt} (h:NdIs B w0 W x s l (mmR m (rnR rn vp vt l ss))) (hm:MmOk m) (hn:l.length≤1000000000) (h1: -9223372036854775808≤m.fm) (h2:m.fm≤9223372036854775807) (hb:bodyP m.ms=some b)
  (HT: ∀w1 ev vp' vt',NdIs B w0 w1 x s (sealL l m.fm b) (bysR ev (givE l m.fm b)::rnR rn vp' vt' (sealL l m.fm b) (mmR m ss))→Calls Tryz.prog 34 #[ptrV x.p,.int .i64 m.fm,ev] w1 fun e w'=>e= .returned (.tuple #[])∧NdIs B w0 w' x P.1 P.2 (bysR ev (givE l m.fm b)::rnR rn vp' vt' (sealL l m.fm b) (mmR m ss))):
  Calls Tryz.prog 23 #[ptrV x.p,.agg (twA x.nt rn),.agg (mmA m)] W fun e w'=>e= .returned (.tuple #[])∧ ∃vp' vt',NdIs B w0 w' x P.1 P.2 (rnR rn vp' vt' (sealL l m.fm b) (mmR m ss)):=by
 obtain ⟨r,hs,hk⟩:=h.sideN;have h3:Own B w0 W (mmR m (twR x.nt x.nm rn vp vt l (ss++[r]))):=hs.perm ((List.perm_append_comm (l₁:=[_,_]) (l₂:=[_,_,_,_,_,_])).append_right _);refine zza (K:=fun w'=> ∃vp' vt',NdIs B w0 w' x P.1 P.2 (rnR rn vp' vt' (sealL l m.fm b) (mmR m ss))) h3 hm h.nok hn h1 h2 hb (fun w1 ev vp' vt' h4=> ?_);have h5:=hk w1 (sealL l m.fm b) (bysR ev (givE l m.fm b)::rnR rn vp' vt' (sealL l m.fm b) (mmR m ss)) (zhd h.nok (zgl hb h1 h2)) (h4.perm ((List.perm_append_comm (l₁:=[_]) (l₂:=[_,_])).append_right _));refine (HT w1 ev vp' vt' h5).mono ?_;rintro e w' ⟨he,h6⟩;exact ⟨he,vp',vt',h6.drop⟩
end
section
variable {B:Nat} {w0 w W W':World} {ss rs:List Res} {x:Np} {s s':Ns} {l l':Nt} {rn:Nat} {vp:Value} {vt:Rn}
end
theorem flat_in {α β:Type} (g:α→List β) (n:Nat): ∀(l:List α) (_: ∀a∈l,(g a).length=n) (k j:Nat) (hk:k<l.length),j<n→(l.flatMap g)[k*n+j]?=(g l[k])[j]?
 | [],_,k,j,hk,_=>by simp at hk
 | a::l,hg,0,j,hk,hj=>by
  rw [List.flatMap_cons,List.getElem?_append_left (by rw [hg a (by simp)];omega)];simp
 | a::l,hg,k+1,j,hk,hj=>by
  have ha:=hg a (by simp);rw [List.flatMap_cons,List.getElem?_append_right (by rw [ha,Nat.succ_mul];omega),ha];rw [show (k+1)*n+j-n=k*n+j by rw [Nat.succ_mul];omega];rw [flat_in g n l (fun b hb=>hg b (by simp [hb])) k j (by simpa using hk) hj];simp
theorem zyd {l:List Td} {r:Rq} {k:Nat} (hk:k≤l.length) (h1: ∀(j:Nat) (hj:j<l.length),j<k→cmpRq l[j].r r<0) (h2: ∀(h:k<l.length),¬cmpRq l[k].r r<0):tabK l r=k:=by
 unfold tabK
 induction l generalizing k with
 | nil=>simp at hk;simp [hk]
 | cons t l ih=>
  rw [List.takeWhile_cons];cases k with
  | zero=>
   have:=h2 (by simp);simp only [List.getElem_cons_zero] at this;rw [if_neg (by simpa using this)];rfl
  | succ k=>
   have h0:=h1 0 (by simp) (by omega);simp only [List.getElem_cons_zero] at h0;rw [if_pos (by simpa using h0),List.length_cons];have:=ih (k:=k) (by simpa using hk) (fun j hj hjk=>by have:=h1 (j+1) (by simpa using hj) (by omega);simpa using this) (fun h=>by have:=h2 (by simpa using h);simpa using this);rw [this]
structure TbAt (w:World) (tb f:Nat) (cl:Int) (v:Value) (l:List Td):Prop where
 o:w.heap[tb]?=some (tabOb f cl v)
 r:Reads w v 21 l.length (l.flatMap tdC)
 b: ∀t∈l,(tdC t).length=21
theorem TbAt.upd {w w':World} {tb f:Nat} {cl:Int} {v:Value} {l:List Td} (h:TbAt w tb f cl v l) (hu:Upd [] w w'):TbAt w' tb f cl v l:=⟨(hu.block tb (block_lt h.o) (by simp)).trans h.o,h.r.upd hu (by simp),h.b⟩
abbrev RqAt (w:World) (b o:Nat) (r:Rq):Prop:=w.cell? ⟨b,o,none⟩=some (.int .i64 r.client)∧w.cell? ⟨b,o+1,none⟩=some (.int .i64 r.time)∧w.cell? ⟨b,o+2,none⟩=some (.int .i64 r.kind)∧w.cell? ⟨b,o+3,none⟩=some (.int .i64 r.key)∧w.cell? ⟨b,o+4,none⟩=some (.int .i64 r.val)∧w.cell? ⟨b,o+5,none⟩=some (.int .i64 r.sl)
theorem tb_rq {w:World} {tb f:Nat} {cl:Int} {v:Value} {l:List Td} (h:TbAt w tb f cl v l) {k:Nat} (hk:k<l.length): ∃b o cap,v= .slice (some ⟨b,o,none⟩) l.length cap∧RqAt w b (o+k*21) l[k].r:=by
 obtain ⟨ao,cap,hv,-,-,-,-,hc⟩:=h.r;obtain ⟨b,o,rfl,-,hcell⟩:=hc (by omega);refine ⟨b,o,cap,hv,?_⟩;have g: ∀j,j<21→w.cell? ⟨b,o+k*21+j,none⟩=(tdC l[k])[j]?:=fun j hj=>by
  have:=hcell (k*21+j) (by omega);rw [flat_in tdC 21 l h.b k j hk hj,←Nat.add_assoc] at this;exact this
 exact ⟨g 0 (by omega),g 1 (by omega),g 2 (by omega),g 3 (by omega),g 4 (by omega),g 5 (by omega)⟩
abbrev AtP (w':World) (tb b o q:Nat) (v:Value) (a r:Rq):Prop:=w'.cell? ⟨tb,2,none⟩=some v∧RqAt w' b o a∧RqAt w' q 0 r
section
variable {W:World} {tb f:Nat} {cl:Int} {v:Value} {l:List Td}
theorem zmr (h:TbAt W tb f cl v l) (hn:l.length≤1000000) (r:Rq):
  Calls Tryz.prog 223 #[ptrV tb,rqAgg r] W fun e w'=>e= .returned (.tuple #[.int .i64 (tabK l r),.bool (tabIs l r)])∧Upd [] W w':=by
 have hua:Upd [] W (W.alloc (rqO r)):=(Upd.refl [] W).alloc _;have hb:(W.alloc (rqO r)).heap[W.heap.size]?=some (rqO r):=heap_alloc_new W _;have HT:=zq (h.upd hua);have HUA:=zq hua;have HB:=zq hb;have hqt:Hid (tb<W.heap.size):=zq (block_lt h.o);obtain ⟨ao,cap,rfl,hcap,-⟩:=h.r;clear h hua hb;unfold rqAgg;go_enter Tryz.func223,Tryz.ntmps223
 go_wp2_with fail
 go_loopw [6] (fun i wr=> ∃k:Nat,k≤l.length∧i= .int .i64 k∧Hid (∀(j:Nat) (hj:j<l.length),j<k→cmpRq l[j].r r<0)∧Hid (Upd [] (W.alloc (rqO r)) wr)) (fun i _=>l.length-(intOf i).toNat)
 case atStart=>exact ⟨0,by omega,rfl,zq (fun j hj h=>by omega),zq (Upd.refl _ _)⟩
 case round=>
  obtain ⟨k,hk,rfl,HC,HU⟩:=hrel;have hT:=HT.out.upd HU.out;have hB:wr.heap[W.heap.size]?=some (rqO r):=(HU.out.block _ (block_lt HB.out) (by simp)).trans HB.out;have x2:wr.cell? ⟨tb,2,none⟩=some (.slice ao l.length cap):=zaa hT.o 2 rfl;have hk0:(0:Int)≤k:=by omega
  have hkB:(k:Int)≤1000000:=by omega
  by_cases hlt:k<l.length
  ·have hkI:(k:Int)<(l.length:Int):=by omega
   obtain ⟨b,o,cap',hv,hq⟩:=tb_rq hT hlt;simp only [Value.slice.injEq,true_and] at hv;obtain ⟨rfl,rfl⟩:=hv;have hr:RqAt wr W.heap.size 0 r:=⟨zaa hB 0 rfl,zaa hB 1 rfl,zaa hB 2 rfl,zaa hB 3 rfl,zaa hB 4 rfl,zaa hB 5 rfl⟩;have d0:AtP wr.drew tb b (o+k*21) W.heap.size (.slice (some ⟨b,o,none⟩) l.length cap) l[k].r r:=⟨x2,hq,hr⟩;have HCC:=zq (zoj l[k].r r);clear hq hr hT hB;obtain ⟨cv,hcv⟩: ∃cv,cv=cmpRq l[k].r r:=⟨_,rfl⟩;rw [←hcv] at HCC;have HCV:=zq hcv;clear hcv;unfold rqAgg at HCC;have HE:Hid (∀w',Upd [] wr.drew w'→AtP w' tb b (o+k*21) W.heap.size (.slice (some ⟨b,o,none⟩) l.length cap) l[k].r r):=zq (fun w' hu=>⟨zat hu d0.1,⟨zat hu d0.2.1.1,zat hu d0.2.1.2.1,zat hu d0.2.1.2.2.1,zat hu d0.2.1.2.2.2.1,zat hu d0.2.1.2.2.2.2.1,zat hu d0.2.1.2.2.2.2.2⟩,⟨zat hu d0.2.2.1,zat hu d0.2.2.2.1,zat hu d0.2.2.2.2.1,zat hu d0.2.2.2.2.2.1,zat hu d0.2.2.2.2.2.2.1,zat hu d0.2.2.2.2.2.2.2⟩⟩);generalize hga:l[k].r=a at*;have HGA:=zq hga;clear hga
   go_wp2_with fail
   go_region_held3 (fun w'=>AtP w' tb b (o+k*21) W.heap.size (.slice (some ⟨b,o,none⟩) l.length cap) a r)
    (first | (with_reducible exact d0) | (with_reducible exact e0))
    (first | (go_at_call 257;refine (HCC.out _).mono ?_;rintro e w3 ⟨rfl,hu3⟩;have e0:=HE.out w3 hu3;have HU3:=zq (HU.out.drew.trans hu3);clear hu3))
   by_cases hneg:cv<0
   ·have hd:decide (cv<0)=true:=by simpa using hneg
    rw [hd];clear hd d0 e0 x2
    go_wp2_with fail
    go_roundw
    case rel=>exact ⟨k+1,by omega,by go_num,zq (fun j hj hjk=>by
     by_cases h:j=k
     ·subst h;have h1:=HCV.out;rw [←HGA.out] at h1;omega
     ·exact HC.out j hj (by omega)),HU3⟩
    case measure=>simp [intOf];omega
   ·have hd:decide (cv<0)=false:=by simpa using hneg
    rw [hd];have HK:=zq (zyd hk HC.out (fun h=>by have h1:=HCV.out;rw [←HGA.out] at h1;omega));have HTI:Hid (tabIs l r=decide (a=r)):=zq (by unfold tabIs;rw [HK.out,List.getElem?_eq_getElem hlt];simp only;rw [HGA.out]);have heq: ∀wx,(Op.equalIn 10000 38 (rqAgg a) (rqAgg r)).run Tryz.prog wx= .ok (decide (a=r)) wx:=fun wx=>zbd a r wx;unfold rqAgg at heq;generalize decide (a=r)=eb at*;obtain ⟨p2,⟨p3,p4,p5,p6,p7,p8⟩,p9,p10,p11,p12,p13,p14⟩:=e0;clear hd d0 x2
    go_wp2_with fail
    go_quiet (fail)
    go_wp2_with fail
    refine bodyPost_ret (v:= .tuple #[.int .i64 k,.bool eb]) (by simp [results,Tryz.results223,go_sem]) rfl ?_;rw [HK.out,HTI.out];exact ⟨rfl,(HUA.out.trans HU3.out).drewN _⟩
  ·have hkI:decide ((k:Int)<(l.length:Int))=false:=by simp;omega
   have hke:k=l.length:=by omega
   have HK:=zq (zyd hk HC.out (fun h=>by omega));have HKE:=zq hke;clear hT hB hke
   go_wp2_with fail
   go_quiet (fail)
   go_wp2_with fail
   go_quiet (fail)
   go_wp2_with fail
   refine bodyPost_ret (v:= .tuple #[.int .i64 k,.bool false]) (by simp [results,Tryz.results223,go_sem]) rfl ?_;have HTI:tabIs l r=false:=by unfold tabIs;rw [HK.out,List.getElem?_eq_none (by have:=HKE.out;omega)]
   rw [HK.out,HTI];exact ⟨rfl,((HUA.out.trans HU.out).drewN _).drewN _⟩
end
end Go.Proofs.YtannckelmojkoaaGreat
