/- Parts of the proof, one behind the other. -/
import Derived.Test.YtannckelmojkoaaGreatVwsB26
import Derived.Deep.LoopGhost
set_option maxHeartbeats 32000000
set_option maxRecDepth 100000
set_option linter.unusedVariables false
set_option linter.unusedSimpArgs false
namespace Go.Proofs.YtannckelmojkoaaGreat
open Go.RowKit Go.Heap
abbrev zTwo:Obj:= .cells #[.pointer none,.pointer none] 28 (0,0)
abbrev zCfg:Obj:= .cells #[.int .i64 0,.int .i64 0,.int .i64 0,.int .i64 0,.int .i64 0,.int .i64 0,.int .i64 0,.int .i64 0,.int .i64 0,.int .i64 0,.int .i64 0,.int .i64 0,.int .i64 0,.int .i64 0,.int .i64 0] 30 (0,0)
section
variable {B:Nat} {w0 w W W':World} {ss rs:List Res} {x:Np} {s s':Ns} {l l':Nt}
theorem zn2 {i j a b:Nat} {o o':Obj} (h:Own B w0 W rs) (e1:rs[i]?=some (blk a o)) (e2:rs[j]?=some (blk b o')) (hij:i<j):a≠b:=fun e=>by
 obtain ⟨h1,h1'⟩:=List.getElem?_eq_some_iff.1 e1;obtain ⟨h2,h2'⟩:=List.getElem?_eq_some_iff.1 e2;have:=List.pairwise_iff_getElem.1 h.apart i j h1 h2 hij;rw [h1',h2'] at this;exact this a (by simp [blk]) (by simp [blk,e])
theorem own_15 {b:Nat} {T:TypeId} {c0 c1 c2 c3 c4 c5 c6 c7 c8 c9 c10 c11 c12 c13 c14 v0 v1 v2 v3 v4 v5 v6 v7 v8 v9 v10 v11 v12 v13 v14:Value} (h:Own B w0 W (blk b (.cells #[c0,c1,c2,c3,c4,c5,c6,c7,c8,c9,c10,c11,c12,c13,c14] T (0,0))::rs)):Own B w0 (((((((((((((((W.setCell ⟨b,0,none⟩ v0).setCell ⟨b,1,none⟩ v1).setCell ⟨b,2,none⟩ v2).setCell ⟨b,3,none⟩ v3).setCell ⟨b,4,none⟩ v4).setCell ⟨b,5,none⟩ v5).setCell ⟨b,6,none⟩ v6).setCell ⟨b,7,none⟩ v7).setCell ⟨b,8,none⟩ v8).setCell ⟨b,9,none⟩ v9).setCell ⟨b,10,none⟩ v10).setCell ⟨b,11,none⟩ v11).setCell ⟨b,12,none⟩ v12).setCell ⟨b,13,none⟩ v13).setCell ⟨b,14,none⟩ v14) (blk b (.cells #[v0,v1,v2,v3,v4,v5,v6,v7,v8,v9,v10,v11,v12,v13,v14] T (0,0))::rs):=by
 have h0:=Own.storeTo h 0 v0 (o':= .cells #[v0,c1,c2,c3,c4,c5,c6,c7,c8,c9,c10,c11,c12,c13,c14] T (0,0)) rfl;have h1:=Own.storeTo h0 1 v1 (o':= .cells #[v0,v1,c2,c3,c4,c5,c6,c7,c8,c9,c10,c11,c12,c13,c14] T (0,0)) rfl;have h2:=Own.storeTo h1 2 v2 (o':= .cells #[v0,v1,v2,c3,c4,c5,c6,c7,c8,c9,c10,c11,c12,c13,c14] T (0,0)) rfl;have h3:=Own.storeTo h2 3 v3 (o':= .cells #[v0,v1,v2,v3,c4,c5,c6,c7,c8,c9,c10,c11,c12,c13,c14] T (0,0)) rfl;have h4:=Own.storeTo h3 4 v4 (o':= .cells #[v0,v1,v2,v3,v4,c5,c6,c7,c8,c9,c10,c11,c12,c13,c14] T (0,0)) rfl;have h5:=Own.storeTo h4 5 v5 (o':= .cells #[v0,v1,v2,v3,v4,v5,c6,c7,c8,c9,c10,c11,c12,c13,c14] T (0,0)) rfl;have h6:=Own.storeTo h5 6 v6 (o':= .cells #[v0,v1,v2,v3,v4,v5,v6,c7,c8,c9,c10,c11,c12,c13,c14] T (0,0)) rfl;have h7:=Own.storeTo h6 7 v7 (o':= .cells #[v0,v1,v2,v3,v4,v5,v6,v7,c8,c9,c10,c11,c12,c13,c14] T (0,0)) rfl;have h8:=Own.storeTo h7 8 v8 (o':= .cells #[v0,v1,v2,v3,v4,v5,v6,v7,v8,c9,c10,c11,c12,c13,c14] T (0,0)) rfl;have h9:=Own.storeTo h8 9 v9 (o':= .cells #[v0,v1,v2,v3,v4,v5,v6,v7,v8,v9,c10,c11,c12,c13,c14] T (0,0)) rfl;have h10:=Own.storeTo h9 10 v10 (o':= .cells #[v0,v1,v2,v3,v4,v5,v6,v7,v8,v9,v10,c11,c12,c13,c14] T (0,0)) rfl;have h11:=Own.storeTo h10 11 v11 (o':= .cells #[v0,v1,v2,v3,v4,v5,v6,v7,v8,v9,v10,v11,c12,c13,c14] T (0,0)) rfl;have h12:=Own.storeTo h11 12 v12 (o':= .cells #[v0,v1,v2,v3,v4,v5,v6,v7,v8,v9,v10,v11,v12,c13,c14] T (0,0)) rfl;have h13:=Own.storeTo h12 13 v13 (o':= .cells #[v0,v1,v2,v3,v4,v5,v6,v7,v8,v9,v10,v11,v12,v13,c14] T (0,0)) rfl;have h14:=Own.storeTo h13 14 v14 (o':= .cells #[v0,v1,v2,v3,v4,v5,v6,v7,v8,v9,v10,v11,v12,v13,v14] T (0,0)) rfl;exact h14
theorem own_2 {b:Nat} {T:TypeId} {c0 c1 v0 v1:Value} (h:Own B w0 W (blk b (.cells #[c0,c1] T (0,0))::rs)):Own B w0 ((W.setCell ⟨b,0,none⟩ v0).setCell ⟨b,1,none⟩ v1) (blk b (.cells #[v0,v1] T (0,0))::rs):=Own.storeTo (Own.storeTo h 0 v0 rfl) 1 v1 rfl
theorem zxg {nm nt:Nat} {c:Cf} (hc:CfOk c) {id:Int} (h0:0≤id) (h1:id≤3*c.f) {x:Np} {v:Nv} (hnt:x.nt=nt) (hv: ∀nm,NvOk {x with nm:=nm} (newS c id) v) (h:Own B w0 W (nsR x (newS c id) v::blk nt (noB nm)::ntR nm []::ss)):NdIs B w0 W {x with nm:=nm} (newS c id) [] ss:=by
 subst hnt;exact ⟨newS_ok hc h0 h1,⟨List.nodup_nil,by simp⟩,v,hv nm,h⟩
theorem zwb (fA idA:Int) (f:Nat) (hf1:1≤f) (hf2:f≤4) (hf:1+fA%4=f) (h:Own B w0 W ss):
  Calls Tryz.prog 15 #[.int .i64 fA,.int .i64 idA] W fun e w'=> ∃(x:Np) (rn:Nat),e= .returned (.tuple #[ptrV x.p,.agg (twA x.nt rn),.agg (cfA (stdC f)),.bool true])∧
   NdIs B w0 w' x (newS (stdC f) (idA%(3*(f:Int)+1))) [] (rnR rn (.slice none 0 0) ⟨.slice none 0 0,[]⟩ [] ss):=by
 have h1:=(h.box zTwo).boxAt zCfg (n:=W.heap.size+1) (by simp);have H1:=zq h1;have HW:=zq (fun w=>zb9 fA 4 w (by omega) (by omega));have HS:=zq (fun w=>stdAny f w);have hfI:1≤(f:Int):=by omega
 have hf4:(f:Int)≤4:=by omega
 have hm:=zf7 fA 4 (by omega);have HF:=zq hf;obtain ⟨k,hk⟩: ∃k,k=fA%4:=⟨_,rfl⟩;rw [←hk] at HW hm HF;clear h h1 hf hk;go_enter Tryz.func15,Tryz.ntmps15
 go_wp2_with fail
 refine (HW.out _).mono ?_;rintro e w' ⟨rfl,rfl⟩
 go_wp2_with fail
 rw [HF.out];refine (HS.out _).mono ?_;rintro e w2 ⟨rfl,hu⟩;have H2:=zq (H1.out.upd0 hu);clear hu H1 HW HS HF hm;generalize W.heap.size=q at*;have H3:=zq (H2.out.box (.cells (cfA (stdC f)) 30 (0,0)));have HN:=zq (zkl H3.out);clear H2
 go_wp2_with fail
 refine HN.out.mono ?_;rintro e w4 ⟨nt,nm,rfl,h4⟩;have H5:=zq ((h4.box (rnO (.slice none 0 0) (.slice none 0 0))).boxAt (twO nt w4.heap.size) (n:=w4.heap.size+1) (by simp));clear h4 HN H3;have HNo:=zq (fun w=>zel (f:Int) w hfI hf4);have HWi:=zq (fun w=>zb9 idA (3*(f:Int)+1) w (by omega) (by omega));have hid:=zf7 idA (3*(f:Int)+1) (by omega);obtain ⟨hi0,hi1⟩:=hid;obtain ⟨id,hide⟩: ∃id,id=idA%(3*(f:Int)+1):=⟨_,rfl⟩;have HID:=zq hide;rw [←hide] at HWi hi0 hi1;have HI0:=zq hi0;have HI1:=zq hi1;clear hide;have HNN:=zq (znt (zoj hf1 hf2) id nt HI0.out (by have:=HI1.out;exact this) H5.out.drew);have hb8:=H5.out.drew.blkAt 4 rfl;have hb9:=H5.out.drew.blkAt 0 rfl;have a0:=zaa hb8 0 rfl;have a1:=zaa hb8 1 rfl;have a2:=zaa hb8 2 rfl;have a3:=zaa hb8 3 rfl;have a4:=zaa hb8 4 rfl;have a5:=zaa hb8 5 rfl;have a6:=zaa hb8 6 rfl;have a7:=zaa hb8 7 rfl;have a8:=zaa hb8 8 rfl;have a9:=zaa hb8 9 rfl;have a10:=zaa hb8 10 rfl;have a11:=zaa hb8 11 rfl;have a12:=zaa hb8 12 rfl;have a13:=zaa hb8 13 rfl;have a14:=zaa hb8 14 rfl;have n0:=zaa hb9 0 rfl;clear hb8 hb9 hi0 hi1;generalize w2.heap.size=bc at*
 go_upto_region 5 with fail
 refine Held.wp_held [(bc,0,[.int .i64 f,.int .i64 2,.int .i64 2,.int .i64 4,.int .i64 64,.int .i64 8,.int .i64 8,.int .i64 8,.int .i64 1,.int .i64 2,.int .i64 12,.int .i64 8,.int .i64 6,.int .i64 2,.int .i64 6]),(bc,0,[.int .i64 f]),(w4.heap.size+1,0,[ptrV nt])] [(0,0),(3,1),(7,2)] [8] [(5,true),(1,true),(3,false)] (by kernel_rfl) (by kernel_rfl) ⟨⟨a0,a1,a2,a3,a4,a5,a6,a7,a8,a9,a10,a11,a12,a13,a14,trivial⟩,⟨a0,trivial⟩,⟨n0,trivial⟩,trivial⟩ ?_;simp only [Held.cutAt,Held.walk,List.take_succ_cons,List.take_zero,List.drop_succ_cons,List.drop_zero]
 go_wp2_with fail
 refine (HNo.out _).mono ?_;rintro e w' ⟨rfl,rfl⟩
 go_wp2_with fail
 refine ⟨⟨⟨a0,a1,a2,a3,a4,a5,a6,a7,a8,a9,a10,a11,a12,a13,a14,trivial⟩,⟨a0,trivial⟩,⟨n0,trivial⟩,trivial⟩,?_⟩
 go_wp2_with fail
 refine (HWi.out _).mono ?_;rintro e w' ⟨rfl,rfl⟩
 go_wp2_with fail
 refine ⟨⟨⟨a0,a1,a2,a3,a4,a5,a6,a7,a8,a9,a10,a11,a12,a13,a14,trivial⟩,⟨a0,trivial⟩,⟨n0,trivial⟩,trivial⟩,?_⟩
 go_wp2_with fail
 refine HNN.out.mono ?_;rintro e w6 ⟨x,v,rfl,hxn,hv,h6⟩
 go_wp2_with fail
 refine ⟨trivial,?_⟩
 go_wp2_with fail
 refine ⟨trivial,by rfl,⟨⟨rfl,.inr ⟨by kernel_rfl,by kernel_rfl⟩⟩,⟨rfl,.inl ⟨by kernel_rfl,rfl⟩⟩,⟨rfl,.inl ⟨by kernel_rfl,rfl⟩⟩,trivial⟩,?_⟩;have H6:=zq h6;have hb1:=h6.blkAt 1 rfl;have hb5:=h6.blkAt 5 rfl;have hb6:=h6.blkAt 6 rfl;have hb7:=h6.blkAt 7 rfl;clear a0 a1 a2 a3 a4 a5 a6 a7 a8 a9 a10 a11 a12 a13 a14 n0 h6 HNN H5 HNo HWi;have a0:w6.cell? ⟨bc,0,none⟩=_:=zaa hb5 0 rfl;have a1:w6.cell? ⟨bc,1,none⟩=_:=zaa hb5 1 rfl;have a2:w6.cell? ⟨bc,2,none⟩=_:=zaa hb5 2 rfl;have a3:w6.cell? ⟨bc,3,none⟩=_:=zaa hb5 3 rfl;have a4:w6.cell? ⟨bc,4,none⟩=_:=zaa hb5 4 rfl;have a5:w6.cell? ⟨bc,5,none⟩=_:=zaa hb5 5 rfl;have a6:w6.cell? ⟨bc,6,none⟩=_:=zaa hb5 6 rfl;have a7:w6.cell? ⟨bc,7,none⟩=_:=zaa hb5 7 rfl;have a8:w6.cell? ⟨bc,8,none⟩=_:=zaa hb5 8 rfl;have a9:w6.cell? ⟨bc,9,none⟩=_:=zaa hb5 9 rfl;have a10:w6.cell? ⟨bc,10,none⟩=_:=zaa hb5 10 rfl;have a11:w6.cell? ⟨bc,11,none⟩=_:=zaa hb5 11 rfl;have a12:w6.cell? ⟨bc,12,none⟩=_:=zaa hb5 12 rfl;have a13:w6.cell? ⟨bc,13,none⟩=_:=zaa hb5 13 rfl;have a14:w6.cell? ⟨bc,14,none⟩=_:=zaa hb5 14 rfl;have t0:w6.cell? ⟨w4.heap.size+1,0,none⟩=_:=zaa hb1 0 rfl;have t1:w6.cell? ⟨w4.heap.size+1,1,none⟩=_:=zaa hb1 1 rfl;have q0:=zaa hb7 0 rfl;have q1:=zaa hb7 1 rfl;have qz:=zab hb7;have p0:=zaa hb6 0 rfl;have p1:=zaa hb6 1 rfl;have p2:=zaa hb6 2 rfl;have p3:=zaa hb6 3 rfl;have p4:=zaa hb6 4 rfl;have p5:=zaa hb6 5 rfl;have p6:=zaa hb6 6 rfl;have p7:=zaa hb6 7 rfl;have p8:=zaa hb6 8 rfl;have p9:=zaa hb6 9 rfl;have p10:=zaa hb6 10 rfl;have p11:=zaa hb6 11 rfl;have p12:=zaa hb6 12 rfl;have p13:=zaa hb6 13 rfl;have p14:=zaa hb6 14 rfl;have pz:=zab hb6;have n1:=zn2 H6.out (i:=5) (j:=7) rfl rfl (by omega);have n2:=zn2 H6.out (i:=5) (j:=6) rfl rfl (by omega);have n3:=zn2 H6.out (i:=1) (j:=7) rfl rfl (by omega);have n4:=zn2 H6.out (i:=1) (j:=6) rfl rfl (by omega);have m1:=n1.symm;have m2:=n2.symm;have m3:=n3.symm;have m4:=n4.symm;have h7:=own_2 (H6.out.front 7 rfl rfl) (v0:=ptrV nt) (v1:=ptrV w4.heap.size)
 dsimp only [List.eraseIdx] at h7
 have h8:=own_15 (h7.front 7 rfl rfl) (v0:= .int .i64 (stdC f).f) (v1:= .int .i64 (stdC f).cl) (v2:= .int .i64 (stdC f).bt) (v3:= .int .i64 (stdC f).ah) (v4:= .int .i64 (stdC f).qu) (v5:= .int .i64 (stdC f).fl) (v6:= .int .i64 (stdC f).sh) (v7:= .int .i64 (stdC f).pe) (v8:= .int .i64 (stdC f).nu) (v9:= .int .i64 (stdC f).de) (v10:= .int .i64 (stdC f).la) (v11:= .int .i64 (stdC f).om) (v12:= .int .i64 (stdC f).wa) (v13:= .int .i64 (stdC f).ag) (v14:= .int .i64 (stdC f).re)
 dsimp only [List.eraseIdx] at h8
 have H8:=zq h8.drew;clear h7 h8
 go_upto_region 6 with fail
 go_region
 all_goals
  (clear a0 a1 a2 a3 a4 a5 a6 a7 a8 a9 a10 a11 a12 a13 a14 t0 t1 q0 q1 qz p0 p1 p2 p3 p4 p5 p6 p7 p8 p9 p10 p11 p12 p13 p14 pz
   generalize World.drew (World.setCell (World.setCell _ _ _) _ _)=w9 at*;have hd0:=H8.out.blkAt 0 rfl;have hd1:=H8.out.blkAt 1 rfl;have g0:=zaa hd1 0 rfl;have g1:=zaa hd1 1 rfl;have u0:=zaa hd0 0 rfl;have u1:=zaa hd0 1 rfl;have u2:=zaa hd0 2 rfl;have u3:=zaa hd0 3 rfl;have u4:=zaa hd0 4 rfl;have u5:=zaa hd0 5 rfl;have u6:=zaa hd0 6 rfl;have u7:=zaa hd0 7 rfl;have u8:=zaa hd0 8 rfl;have u9:=zaa hd0 9 rfl;have u10:=zaa hd0 10 rfl;have u11:=zaa hd0 11 rfl;have u12:=zaa hd0 12 rfl;have u13:=zaa hd0 13 rfl;have u14:=zaa hd0 14 rfl;clear hd0 hd1
   go_wp2_with fail
   refine bodyPost_ret (v:= .tuple #[ptrV x.p,.agg #[ptrV nt,ptrV w4.heap.size],.agg #[.int .i64 (stdC f).f,.int .i64 (stdC f).cl,.int .i64 (stdC f).bt,.int .i64 (stdC f).ah,.int .i64 (stdC f).qu,.int .i64 (stdC f).fl,.int .i64 (stdC f).sh,.int .i64 (stdC f).pe,.int .i64 (stdC f).nu,.int .i64 (stdC f).de,.int .i64 (stdC f).la,.int .i64 (stdC f).om,.int .i64 (stdC f).wa,.int .i64 (stdC f).ag,.int .i64 (stdC f).re],.bool true]) (by simp [results,Tryz.results15,go_sem,g0,g1,u0,u1,u2,u3,u4,u5,u6,u7,u8,u9,u10,u11,u12,u13,u14]) rfl ?_;have k1:=((((H8.out.drop.drop).dropAt 1 (by simp)).dropAt 4 (by simp)).front 3 rfl rfl)
   dsimp only [List.eraseIdx] at k1
   have k2:=((zr9 k1).row0 (E:=3) (sz:=1)).row0 (E:=9) (sz:=1);have k3:=k2.front 1 rfl rfl
   dsimp only [List.eraseIdx] at k3
   have k4:=k3.front 4 rfl rfl
   dsimp only [List.eraseIdx] at k4
   have k5:=k4.front 3 rfl rfl
   dsimp only [List.eraseIdx] at k5
   have k6:=k5.front 5 rfl rfl
   dsimp only [List.eraseIdx] at k6
   have k7:=k6.front 5 rfl rfl
   dsimp only [List.eraseIdx] at k7
   have k8:=(Own.mkP (P:=RnOk [] []) (k7.front 5 rfl rfl) ⟨⟨List.nodup_nil,by simp⟩,by simp⟩).back 5 (by simp) rfl
   dsimp only [List.eraseIdx,List.insertIdx] at k8
   refine ⟨{x with nm:=nm},w4.heap.size,by rw [←hxn],by rw [←HID.out];exact zxg (zoj hf1 hf2) HI0.out (by have:=HI1.out;simp only [stdC];omega) hxn hv k8⟩)
end
section
variable {B:Nat} {w0 w W W':World} {ss rs:List Res} {x:Np} {s s':Ns} {l l':Nt}
theorem rd_sd {os:List Sd} {o:Sd} (ho:o∈os) (hm:sdsR os∈ss) (h:Own B w0 W rs) (hr: ∀r∈ss,r∈rs):RdOk w0 B o.v o.b ss:=by
 have hb: ∀ {W:World} {rs:List Res},Own B w0 W rs→(∀r∈ss,r∈rs)→Byt W o.v o.b:=fun hO hs=>by
  obtain ⟨D,⟨h1,-⟩,-⟩:=hO.fr (hs _ hm);exact ⟨(h1 o ho).r.1,(h1 o ho).lt⟩
 obtain ⟨D,⟨h1,-⟩,-⟩:=h.fr (hr _ hm);exact ⟨hb,zcl (hb h hr),(h1 o ho).n⟩
end
def isV (view:Int) (x:Vo):Bool:=x.has&&(x.view==view)
def filV (view:Int):List Vo→Nat→Vs
 | [],_=>[]
 | x::l,i=>if isV view x then ((i:Int),x.sl)::filV view l (i+1) else filV view l (i+1)
theorem zng (view:Int) (q:Nat): ∀(l:List Vo) (i:Nat) (acc:Vs),acc.length≤q→eGo view q l i acc=acc++(filV view l i).take (q-acc.length)
 | [],i,acc,h=>by simp [eGo,filV]
 | x::l,i,acc,h=>by
  unfold eGo filV;have e:(x.has&&(x.view==view)&&decide (acc.length<q))=(isV view x&&decide (acc.length<q)):=rfl;rw [e];cases hb:isV view x with
  | false=>simp only [Bool.false_and,Bool.false_eq_true,if_false];exact zng view q l (i+1) acc h
  | true=>
   simp only [Bool.true_and,if_true];by_cases hq:acc.length<q
   ·rw [if_pos (by simpa using hq),zng view q l (i+1) _ (by simp;omega)]
    rw [show q-acc.length=(q-(acc.length+1))+1 by omega,List.take_succ_cons];simp
   ·rw [if_neg (by simpa using hq),zng view q l (i+1) acc h,show q-acc.length=0 by omega]
    simp
theorem zn9 (l:List Vo) (view:Int) (q:Nat):zpm l view q=(filV view l 0).take q:=by
 unfold zpm;rw [zng view q l 0 [] (by simp)];simp
theorem zlx (view:Int): ∀(l:List Vo) (i:Nat),(filV view l i).length=l.countP (isV view)
 | [],i=>rfl
 | x::l,i=>by
  unfold filV;rw [List.countP_cons];cases isV view x<;>simp [zlx view l (i+1)]
theorem zi1 (view:Int): ∀(l:List Vo) (i:Nat) (p:Int×Int),p∈filV view l i→ ∃(k:Nat) (h:k<l.length),p=(((i+k:Nat):Int),l[k].sl)∧isV view l[k]=true
 | [],i,p,h=>by simp [filV] at h
 | x::l,i,p,h=>by
  unfold filV at h;have rec':p∈filV view l (i+1)→ ∃(k:Nat) (h:k<(x::l).length),p=(((i+k:Nat):Int),(x::l)[k].sl)∧isV view (x::l)[k]=true:=fun h=>by
   obtain ⟨k,hk,e,hv⟩:=zi1 view l (i+1) p h;exact ⟨k+1,by simpa using hk,by rw [e];simp;omega,by simpa using hv⟩
  cases hb:isV view x with
  | false=>rw [hb] at h;exact rec' (by simpa using h)
  | true=>
   rw [hb] at h;simp only [if_true,List.mem_cons] at h;rcases h with rfl | h
   ·exact ⟨0,by simp,by simp,by simpa using hb⟩
   ·exact rec' h
theorem zi2 (view:Int): ∀(l:List Vo) (i:Nat),(filV view l i).Pairwise (fun a b=>a.1<b.1)
 | [],i=>List.Pairwise.nil
 | x::l,i=>by
  unfold filV;cases isV view x with
  | false=>simpa using zi2 view l (i+1)
  | true=>
   simp only [if_true];refine List.pairwise_cons.2 ⟨fun p hp=> ?_,zi2 view l (i+1)⟩;obtain ⟨k,hk,e,-⟩:=zi1 view l (i+1) p hp;rw [e];simp only;omega
structure MvS (f:Nat) (id v:Int) (i k:Nat) (vo:List Vo) (l:Nt):Prop where
 vn:vo.length=3*f+1
 vc:vo.countP (isV v)=k
 vh: ∀(j:Nat) (h:j<vo.length),vo[j].has=true→j<i∧(j:Int)≠id∧chkN l j (chgB j v) vo[j].sl=true∧0≤vo[j].sl∧vo[j].sl≤1000000000
 ln:l.length=k
 lb: ∀x∈l,x.1<i
theorem MvS.skip {f:Nat} {id v:Int} {i k:Nat} {vo:List Vo} {l:Nt} (h:MvS f id v i k vo l):MvS f id v (i+1) k vo l:=
 {h with vh:=fun j hj hh=>let ⟨a,b⟩:=h.vh j hj hh;⟨by omega,b⟩,lb:=fun x hx=>by have:=h.lb x hx;omega}
theorem MvS.new {f:Nat} {id v:Int} {i k:Nat} {vo:List Vo} {l:Nt} (h:MvS f id v i k vo l) (b:Bys):((i:Int),b)∉l:=fun hn=>by have:=h.lb _ hn;simp at this
theorem MvS.put {f:Nat} {id v:Int} {i k:Nat} {vo:List Vo} {l:Nt} (h:MvS f id v i k vo l) (hi:i≤3*f) (h0:0≤v) (h1:v≤11):putB vo i v=true:=by
 have hiv:i<vo.length:=by have:=h.vn;omega
 have hv:(voAt vo (i:Int).toNat).has=false:=by
  unfold voAt;rw [List.getD_eq_getElem?_getD,Int.toNat_natCast,List.getElem?_eq_getElem hiv,Option.getD_some];cases hb:vo[i].has with
  | false=>rfl
  | true=>have:=(h.vh i hiv hb).1;omega
 unfold putB;rw [hv];have:=h.vn;simp;omega
theorem MvS.step {f:Nat} {id v:Int} {i k:Nat} {vo:List Vo} {l:Nt} (h:MvS f id v i k vo l) (hi:i≤3*f) (hne:(i:Int)≠id) (h0:0≤v) (h1:v≤11) (hk:k≤1000):
  MvS f id v (i+1) (k+1) (putL vo i v (sealN l i (chgB i v))) (sealL l i (chgB i v)):=by
 have hp:=h.put hi h0 h1;have hn:=h.new (chgB i v);have hiv:i<vo.length:=by have:=h.vn;omega
 have hf:isV v vo[i]=false:=by
  unfold isV;cases hb:vo[i].has with
  | false=>rfl
  | true=>have:=(h.vh i hiv hb).1;omega
 have hsl:sealN l i (chgB i v)=(k:Int)+1:=by unfold sealN;rw [List.idxOf_eq_length hn,h.ln]
 unfold putL;rw [hp,if_pos rfl,Int.toNat_natCast];constructor
 ·rw [List.length_set];exact h.vn
 ·rw [List.countP_set (h:=hiv),h.vc,hf]
  simp [isV]
 ·intro j hj hh
  rw [List.getElem_set] at hh⊢;by_cases hji:i=j
  ·subst hji
   rw [if_pos rfl];refine ⟨by omega,hne,?_,?_,?_⟩
   ·unfold chkN
    rw [zfc];simp [zer]
   ·simp only;omega
   ·simp only;omega
  ·rw [if_neg hji] at hh⊢
   rw [List.length_set] at hj;obtain ⟨a,b,c,d⟩:=h.vh j hj hh;refine ⟨by omega,b,?_,d⟩;unfold chkN at c⊢;simp only [Bool.and_eq_true,decide_eq_true_eq,beq_iff_eq] at c⊢;exact ⟨zsx _ _ c.1,by rw [zuf _ _ c.1];exact c.2⟩
 ·unfold sealL;rw [if_neg hn];simp [h.ln]
 ·intro x hx
  unfold sealL at hx;rw [if_neg hn] at hx;simp only [List.mem_append,List.mem_singleton] at hx;rcases hx with hx | rfl
  ·have:=h.lb x hx;omega
  ·simp only;omega
theorem MvS.few {f:Nat} {id v:Int} {i k:Nat} {vo:List Vo} {l:Nt} (h:MvS f id v i k vo l) (hk:k<2*f+1):(zpm vo v (2*f+1)).length≠2*f+1:=by
 rw [zn9,List.length_take,zlx,h.vc];omega
theorem MvS.enough {f:Nat} {id v:Int} {i:Nat} {vo:List Vo} {l:Nt} (h:MvS f id v i (2*f+1) vo l):
  (zpm vo v (2*f+1)).length=2*f+1∧Rises (zpm vo v (2*f+1)) (3*(f:Int)+1)∧ ∀q∈zpm vo v (2*f+1),chkN l q.1 (chgB q.1 v) q.2=true∧0≤q.2∧q.2≤1000000000:=by
 rw [zn9];refine ⟨by rw [List.length_take,zlx,h.vc];omega,⟨(zi2 v vo 0).take,fun p hp=> ?_⟩,fun q hq=> ?_⟩
 ·obtain ⟨k,hk,e,-⟩:=zi1 v vo 0 p (List.mem_of_mem_take hp)
  have:=h.vn;rw [e];simp only;omega
 ·obtain ⟨k,hk,e,hv⟩:=zi1 v vo 0 q (List.mem_of_mem_take hq)
  unfold isV at hv;simp only [Bool.and_eq_true] at hv;obtain ⟨-,-,c,d⟩:=h.vh k hk hv.1;rw [e]
  simpa using ⟨c,d⟩
theorem rd_bys {B:Nat} {w0 W:World} {bv:Value} {bs:Bys} {ss rs:List Res} (h:Own B w0 W rs) (hm:bysR bv bs∈ss) (hs: ∀r∈ss,r∈rs) (hb: ∀c∈bs,c<256) (hl:bs.length≤65536):RdOk w0 B bv bs ss:=by
 have hB: ∀ {W:World} {rs:List Res},Own B w0 W rs→(∀r∈ss,r∈rs)→Byt W bv bs:=fun ho hh=>⟨owns_reads (zam (ho.all _ (hh _ hm)).1),hb⟩;exact ⟨hB,zcl (hB h hs),hl⟩
theorem zuo {l:Nt} {m:Ms} {b:Bys} (hb:bodyP m=some b) (hl:b.length≤65530) (hn:l.length≤1000000000):(∀c∈givE l m.fm b,c<256)∧(givE l m.fm b).length≤65536:=by
 have h1:=zjv hn m.fm b;have h2:=zaz (sealN l m.fm b);rw [zq4 hn m.fm hl];refine ⟨fun c hc=> ?_,by rw [List.length_append];omega⟩;rcases List.mem_append.1 hc with h | h
 ·refine zgk 5 _ ?_ c h
  unfold numOk at h1;simp only [Bool.and_eq_true,decide_eq_true_eq] at h1;have:(128:Nat)^(5+1)=4398046511104:=by decide
  omega
 ·exact (ze9 hb).1 c h
section
variable {B:Nat} {w0 w W W':World} {ss rs:List Res} {x:Np} {s s':Ns} {l l':Nt} {rn:Nat} {vp:Value} {vt:Rn}
theorem give_nd {m:Mm} {b:Bys} {P:NSt} (h:NdIs B w0 W x s l (mmR m (rnR rn vp vt l ss))) (hm:MmOk m) (hn:l.length≤1000000000) (h1: -9223372036854775808≤m.fm) (h2:m.fm≤9223372036854775807) (hb:bodyP m.ms=some b)
  (HT: ∀w1 ev vp' vt',NdIs B w0 w1 x s (sealL l m.fm b) (bysR ev (givE l m.fm b)::rnR rn vp' vt' (sealL l m.fm b) (mmR m ss))→Calls Tryz.prog 34 #[ptrV x.p,.int .i64 m.fm,ev] w1 fun e w'=>e= .returned (.tuple #[])∧NdIs B w0 w' x P.1 P.2 (bysR ev (givE l m.fm b)::rnR rn vp' vt' (sealL l m.fm b) (mmR m ss))):
  Calls Tryz.prog 23 #[ptrV x.p,.agg (twA x.nt rn),.agg (mmA m)] W fun e w'=>e= .returned (.tuple #[])∧ ∃vp' vt',NdIs B w0 w' x P.1 P.2 (rnR rn vp' vt' (sealL l m.fm b) (mmR m ss)):=by
 obtain ⟨r,hs,hk⟩:=h.sideN;have h3:Own B w0 W (mmR m (twR x.nt x.nm rn vp vt l (ss++[r]))):=hs.perm ((List.perm_append_comm (l₁:=[_,_]) (l₂:=[_,_,_,_,_,_])).append_right _);refine zy3 (K:=fun w'=> ∃vp' vt',NdIs B w0 w' x P.1 P.2 (rnR rn vp' vt' (sealL l m.fm b) (mmR m ss))) h3 hm h.nok hn h1 h2 hb (fun w1 ev vp' vt' h4=> ?_);have h5:=hk w1 (sealL l m.fm b) (bysR ev (givE l m.fm b)::rnR rn vp' vt' (sealL l m.fm b) (mmR m ss)) (ze5 h.nok (zd9 hb h1 h2)) (h4.perm ((List.perm_append_comm (l₁:=[_]) (l₂:=[_,_])).append_right _));refine (HT w1 ev vp' vt' h5).mono ?_;rintro e w' ⟨he,h6⟩;exact ⟨he,vp',vt',h6.drop⟩
end
section
variable {B:Nat} {w0 w W W':World} {ss rs:List Res} {x:Np} {s s':Ns} {l l':Nt} {rn:Nat} {vp:Value} {vt:Rn}
end
structure TbAt (w:World) (tb f:Nat) (cl:Int) (v:Value) (l:List Td):Prop where
 o:w.heap[tb]?=some (tabOb f cl v)
 r:Reads w v 21 l.length (l.flatMap tdC)
 b: ∀t∈l,(tdC t).length=21
theorem TbAt.upd {w w':World} {tb f:Nat} {cl:Int} {v:Value} {l:List Td} (h:TbAt w tb f cl v l) (hu:Upd [] w w'):TbAt w' tb f cl v l:=⟨(hu.block tb (block_lt h.o) (by simp)).trans h.o,h.r.upd hu (by simp),h.b⟩
section
variable {B:Nat} {w0 w W W':World} {ss rs:List Res} {A:List Nat}
theorem zzr (st:List (Bool×Int)) (k:Nat) (hk:k<st.length):(st.map Prod.snd).getD k 0=st[k].2:=by simp [List.getD,hk]
end
section
variable {client time kind key val sl:Int} {vs:List Int} {k:Nat}
theorem ap_bad (h:key<0∨64≤key∨val≤ -2147483648∨2147483648≤val):zc7 vs ⟨client,time,kind,key,val,sl⟩=(0,vs):=by unfold zc7;rw [if_pos h]
theorem ap_1 (hk:k<64) (h1: -2147483648<val) (h2:val<2147483648):zc7 vs ⟨client,time,1,k,val,sl⟩=(vs.getD k 0,vs.set k val):=by unfold zc7;rw [if_neg (by simp only;omega),if_pos rfl];simp
theorem ap_2 (hk:k<64) (h1: -2147483648<val) (h2:val<2147483648):zc7 vs ⟨client,time,2,k,val,sl⟩=(vs.getD k 0,vs):=by unfold zc7;rw [if_neg (by simp only;omega),if_neg (by simp),if_pos rfl];simp
theorem ap_3a (hk:k<64) (h1: -2147483648<val) (h2:val<2147483648) (h3: ¬(-2147483648<vs.getD k 0+val∧vs.getD k 0+val<2147483648)):zc7 vs ⟨client,time,3,k,val,sl⟩=(vs.getD k 0,vs):=by
 unfold zc7;rw [if_neg (by simp only;omega),if_neg (by simp),if_neg (by simp),if_pos rfl,if_pos (by simp only [Int.toNat_natCast];omega)];simp
theorem ap_3b (hk:k<64) (h1: -2147483648<val) (h2:val<2147483648) (h3: -2147483648<vs.getD k 0+val∧vs.getD k 0+val<2147483648):zc7 vs ⟨client,time,3,k,val,sl⟩=(vs.getD k 0+val,vs.set k (vs.getD k 0+val)):=by
 unfold zc7;rw [if_neg (by simp only;omega),if_neg (by simp),if_neg (by simp),if_pos rfl,if_neg (by simp only [Int.toNat_natCast];omega)];simp
theorem ap_4 (hk:k<64) (h1: -2147483648<val) (h2:val<2147483648):zc7 vs ⟨client,time,4,k,val,sl⟩=(vs.getD k 0,vs.set k 0):=by
 unfold zc7;rw [if_neg (by simp only;omega),if_neg (by simp),if_neg (by simp),if_neg (by simp),if_pos rfl];simp
theorem ap_5 (hk:k<64) (h1: -2147483648<val) (h2:val<2147483648):zc7 vs ⟨client,time,5,k,val,sl⟩=(sumV vs,vs):=by
 unfold zc7;rw [if_neg (by simp only;omega),if_neg (by simp),if_neg (by simp),if_neg (by simp),if_neg (by simp),if_pos rfl]
theorem ap_6 (hk:k<64) (h1: -2147483648<val) (h2:val<2147483648) (n1:kind≠1) (n2:kind≠2) (n3:kind≠3) (n4:kind≠4) (n5:kind≠5):zc7 vs ⟨client,time,kind,k,val,sl⟩=(0,vs):=by
 unfold zc7;rw [if_neg (by simp only;omega),if_neg n1,if_neg n2,if_neg n3,if_neg n4,if_neg n5]
end
section
variable {B:Nat} {w0 w W W':World} {ss rs:List Res} {p s c g cap n:Nat}
end
theorem znl: ∀(l:List Int) (a:Int),l.foldl (· + ·) a=a+l.sum
 | [],a=>by simp
 | x::l,a=>by rw [List.foldl_cons,znl l,List.sum_cons];omega
theorem sumV_sum (l:List Int):sumV l=l.sum:=by
 unfold sumV;rw [znl];omega
section
variable {client time kind key val sl:Int} {st:List (Bool×Int)} {k:Nat}
theorem ax_bad (h:key<0∨64≤key∨val≤ -2147483648∨2147483648≤val):zbr st ⟨client,time,kind,key,val,sl⟩=(0,st):=by unfold zbr;rw [if_pos h]
theorem zk7 (hs:k<st.length):(st.getD k (false,0)).2=st[k].2:=by simp [List.getD,hs]
theorem ax_1 (hk:k<64) (hs:k<st.length) (h1: -2147483648<val) (h2:val<2147483648):zbr st ⟨client,time,1,k,val,sl⟩=(st[k].2,st.set k (true,val)):=by unfold zbr;rw [if_neg (by simp only;omega)];simp only [Int.toNat_natCast,zk7 hs];rw [if_pos trivial]
theorem ax_2 (hk:k<64) (hs:k<st.length) (h1: -2147483648<val) (h2:val<2147483648):zbr st ⟨client,time,2,k,val,sl⟩=(st[k].2,st):=by unfold zbr;rw [if_neg (by simp only;omega)];simp only [Int.toNat_natCast,zk7 hs];rw [if_neg (by decide),if_pos trivial]
theorem ax_3a (hk:k<64) (hs:k<st.length) (h1: -2147483648<val) (h2:val<2147483648) (h3: ¬(-2147483648<st[k].2+val∧st[k].2+val<2147483648)):zbr st ⟨client,time,3,k,val,sl⟩=(st[k].2,st):=by unfold zbr;rw [if_neg (by simp only;omega)];simp only [Int.toNat_natCast,zk7 hs];rw [if_neg (by decide),if_neg (by decide),if_pos trivial,if_pos h3]
theorem ax_3b (hk:k<64) (hs:k<st.length) (h1: -2147483648<val) (h2:val<2147483648) (h3: -2147483648<st[k].2+val∧st[k].2+val<2147483648):zbr st ⟨client,time,3,k,val,sl⟩=(st[k].2+val,st.set k (true,st[k].2+val)):=by unfold zbr;rw [if_neg (by simp only;omega)];simp only [Int.toNat_natCast,zk7 hs];rw [if_neg (by decide),if_neg (by decide),if_pos trivial,if_neg (fun h=>h h3)]
theorem ax_4 (hk:k<64) (hs:k<st.length) (h1: -2147483648<val) (h2:val<2147483648):zbr st ⟨client,time,4,k,val,sl⟩=(st[k].2,st.set k (false,0)):=by unfold zbr;rw [if_neg (by simp only;omega)];simp only [Int.toNat_natCast,zk7 hs];rw [if_neg (by decide),if_neg (by decide),if_neg (by decide),if_pos trivial]
theorem ax_5 (hk:k<64) (h1: -2147483648<val) (h2:val<2147483648):zbr st ⟨client,time,5,k,val,sl⟩=(sumV (st.map Prod.snd),st):=by unfold zbr;rw [if_neg (by simp only;omega)];simp only;rw [if_neg (by decide),if_neg (by decide),if_neg (by decide),if_neg (by decide),if_pos trivial,sumV_sum]
theorem ax_6 (hk:k<64) (h1: -2147483648<val) (h2:val<2147483648) (n1:kind≠1) (n2:kind≠2) (n3:kind≠3) (n4:kind≠4) (n5:kind≠5):zbr st ⟨client,time,kind,k,val,sl⟩=(0,st):=by unfold zbr;rw [if_neg (by simp only;omega)];simp only;rw [if_neg n1,if_neg n2,if_neg n3,if_neg n4,if_neg n5]
end
theorem zln {st:List (Bool×Int)} (hl:st.length=64) (r:Rq):(zbr st r).1=(zc7 (st.map Prod.snd) r).1∧(zbr st r).2.map Prod.snd=(zc7 (st.map Prod.snd) r).2∧(zbr st r).2.length=64:=by
 obtain ⟨client,time,kind,key,val,sl⟩:=r;by_cases hb:key<0∨64≤key∨val≤ -2147483648∨2147483648≤val
 ·rw [ax_bad hb,ap_bad hb];exact ⟨rfl,rfl,hl⟩
 obtain ⟨k,rfl⟩: ∃k:Nat,key=k:=⟨key.toNat,by omega⟩;have hk:k<64:=by omega
 have hs:k<st.length:=by omega
 have v1: -2147483648<val:=by omega
 have v2:val<2147483648:=by omega
 have hx:=zzr st k hs;by_cases e1:kind=1
 ·subst e1;rw [ax_1 hk hs v1 v2,ap_1 hk v1 v2,hx];exact ⟨rfl,by rw [List.map_set],by simpa using hl⟩
 by_cases e2:kind=2
 ·subst e2;rw [ax_2 hk hs v1 v2,ap_2 hk v1 v2,hx];exact ⟨rfl,rfl,hl⟩
 by_cases e3:kind=3
 ·subst e3
  by_cases h3: -2147483648<st[k].2+val∧st[k].2+val<2147483648
  ·rw [ax_3b hk hs v1 v2 h3,ap_3b hk v1 v2 (by rw [hx];exact h3),hx];exact ⟨rfl,by rw [List.map_set],by simpa using hl⟩
  ·rw [ax_3a hk hs v1 v2 h3,ap_3a hk v1 v2 (by rw [hx];exact h3),hx];exact ⟨rfl,rfl,hl⟩
 by_cases e4:kind=4
 ·subst e4;rw [ax_4 hk hs v1 v2,ap_4 hk v1 v2,hx];exact ⟨rfl,by rw [List.map_set],by simpa using hl⟩
 by_cases e5:kind=5
 ·subst e5;rw [ax_5 hk v1 v2,ap_5 hk v1 v2];exact ⟨rfl,rfl,hl⟩
 rw [ax_6 hk v1 v2 e1 e2 e3 e4 e5,ap_6 hk v1 v2 e1 e2 e3 e4 e5];exact ⟨rfl,rfl,hl⟩
theorem zm8 {st:List (Bool×Int)} (hl:st.length=64) (hv:VsOk (st.map Prod.snd)) (r:Rq):VsOk ((zbr st r).2.map Prod.snd):=by
 rw [(zln hl r).2.1];exact (ztu hv r).1
section
variable {B:Nat} {w0 w W W':World} {ss rs:List Res} {A:List Nat}
end
structure LxS (n:Nat) (st:List (Bool×Int)) (rp:List (Int×Int)):Prop where
 rl:rp.length=n
 sl:st.length=64
 ok:VsOk (st.map Prod.snd)
theorem LxS.step {n:Nat} {st:List (Bool×Int)} {rp:List (Int×Int)} (h:LxS n st rp) (r:Rq) (q:Nat) (v:Int×Int):LxS n (zbr st r).2 (rp.set q v):=
 ⟨by simpa using h.rl,(zln h.sl r).2.2,zm8 h.sl h.ok r⟩
theorem zwf (rs:List Rq) (b:Lp) (l:List En):rs.foldl (fun q r=>((stepL q.1 r).1,q.2++(stepL q.1 r).2)) (b,l)=((zgi b rs).1,l++(zgi b rs).2):=by
 induction rs generalizing b l with
 | nil=>simp [zgi]
 | cons r rs ih=>
  unfold zgi;rw [List.foldl_cons,List.foldl_cons,ih,ih];simp
theorem zis (b:Lp) (r:Rq) (rs:List Rq):zgi b (r::rs)=((zgi (stepL b r).1 rs).1,(stepL b r).2++(zgi (stepL b r).1 rs).2):=by
 conv=>lhs;unfold zgi
 rw [List.foldl_cons,zwf];simp
theorem stepL_no {n:Nat} {es:List En} {st:List (Bool×Int)} {rp:List (Int×Int)} {r:Rq} (hl:rp.length=n) (h:r.client<0∨(n:Int)≤r.client∨(∃q:Nat,∃hq:q<rp.length,r.client=q∧r.time≤rp[q].1)):stepL ⟨n,es,st,rp⟩ r=(⟨n,es,st,rp⟩,[]):=by
 unfold stepL;rw [if_pos];rcases h with h | h | ⟨q,hq,h,h2⟩
 ·exact .inl h
 ·exact .inr (.inl h)
 ·refine .inr (.inr ?_)
  unfold lastL;simp only;rw [if_pos (by omega),h,Int.toNat_natCast]
  simpa [List.getD,hq] using h2
theorem zwd {n:Nat} {es:List En} {st:List (Bool×Int)} {rp:List (Int×Int)} {r:Rq} {q:Nat} (hl:rp.length=n) (hq:q<rp.length) (h:r.client=q) (h2:rp[q].1<r.time):stepL ⟨n,es,st,rp⟩ r=(⟨n,es,(zbr st r).2,rp.set q (r.time,(zbr st r).1)⟩,[⟨r,(zbr st r).1⟩]):=by
 unfold stepL;rw [if_neg]
 ·simp only [h,Int.toNat_natCast]
 ·simp only
  unfold lastL;simp only;rw [if_pos (by omega),h,Int.toNat_natCast];simp [List.getD,hq];omega
theorem zwc (b:Lp) (r:Rq):(stepL b r).2.length≤1:=by unfold stepL;split<;>simp
theorem zk8 (b:Lp) (rs:List Rq):(zgi b rs).2.length≤rs.length:=by
 induction rs generalizing b with
 | nil=>simp [zgi]
 | cons r rs ih=>
  rw [zis,List.length_append,List.length_cons];have:=zwc b r;have:=ih (stepL b r).1;omega
section
variable {B:Nat} {w0 w W W':World} {ss rs:List Res} {p s c g cap n:Nat}
end
abbrev nilMm (kind fm view inst seq res:Int):Mm:=⟨kind,fm,view,inst,seq,res,.slice none 0 0,[],.slice none 0 0,[],.slice none 0 0,[],.slice none 0 0,[]⟩
theorem zof (s:Ns) (l:Nt) (c t r:Int):replyS (s,l) c t r=match sealP l (repM s.id c t r) with
 | (none,l')=>(s,l')
 | (some b,l')=>({s with out:=s.out++[(100+c,b)]},l'):=by unfold replyS;simp only;rfl
section
variable {B:Nat} {w0 w W W':World} {ss rs:List Res} {x:Np} {s s':Ns} {l l':Nt}
end
section
variable {B:Nat} {w0 w W W':World} {ss rs:List Res} {x:Np} {s s':Ns} {l l':Nt}
theorem nd_done (h:NdIs B w0 W x s l ss) (k:Nat) (hk:k<s.c.f+1) {i:Nat} (hi:x.is[k]?=some i):Calls Tryz.prog 156 #[ptrV i] W fun e w'=>e= .returned (.int .i64 (doneI (insAt s k)))∧W=w':=by
 have hk':k<s.ins.length:=by rw [h.ok.ins];exact hk
 obtain ⟨j,rr,hj,ha,-⟩:=h.ask k hk';rw [hi] at hj;cases hj
 rw [zbu s k hk'];exact ai_done ha
end
theorem zys {p:NSt} (ht:p.1.tab=[]) (e:En): ∃o l',zh1 p e=({p.1 with out:=p.1.out++o},l')∧o.length≤1∧l'.length≤p.2.length+1:=by
 obtain ⟨s,l⟩:=p;simp only at ht;have hl:=zgq (l:=l) (m:=repM s.id e.rq.client e.rq.time e.res);unfold zh1;simp only;rw [zof];generalize sealP l (repM s.id e.rq.client e.rq.time e.res)=sp at*;obtain ⟨o,l2⟩:=sp;have hd: ∀c t,zs6 ([]:List Td) c t=[]:=fun _ _=>rfl;cases o with
 | none=>exact ⟨[],l2,by simp only [List.append_nil];rw [ht,hd,←ht],by simp,hl⟩
 | some b=>exact ⟨[_],l2,by simp only;rw [ht,hd,←ht],by simp,hl⟩
theorem zo2 {p:NSt} (ht:p.1.tab=[]): ∀es:List En,∃o l',es.foldl zh1 p=({p.1 with out:=p.1.out++o},l')∧o.length≤es.length∧l'.length≤p.2.length+es.length:=by
 intro es
 induction es generalizing p with
 | nil=>exact ⟨[],p.2,by simp,by simp,by simp⟩
 | cons e es ih=>
  obtain ⟨o,l',h1,h2,h3⟩:=zys ht e;obtain ⟨o2,l2,k1,k2,k3⟩:=ih (p:=zh1 p e) (by rw [h1];exact ht);rw [h1] at k1 k3;simp only at k1 k3;refine ⟨o++o2,l2,?_,by rw [List.length_append,List.length_cons];omega,by rw [List.length_cons];omega⟩;rw [List.foldl_cons,h1,k1,List.append_assoc]
theorem zk2 {n:Nat} {p:NSt} (h:p.1.run<doneI (insAt p.1 0)):runGo (n+1) p=runGo n (zhr p):=by
 conv=>lhs;unfold runGo
 rw [if_pos h]
abbrev runC (s:Ns):Cp:=(zbl (insAt s 0) (s.run+1)).getD noCp
theorem zog (s:Ns) (l:Nt):zhr (s,l)=(runL s.bk (runC s).rs).2.foldl zh1 ({s with run:=s.run+1,bk:=(runL s.bk (runC s).rs).1},l):=by
 unfold zhr;rfl
section
variable {B:Nat} {w0 w W W':World} {ss rs:List Res} {x:Np} {s s':Ns} {l l':Nt}
end
structure RunSt (s0:Ns) (l0:Nt) (m:Nat) (p:NSt):Prop where
 go:runGo 16 (s0,l0)=runGo m p
 fuel:16≤(m:Int)+p.1.run
 tab:p.1.tab=[]
 ln:(p.2.length:Int)≤800000000+4*p.1.run
 on:(p.1.out.length:Int)≤800000000+4*p.1.run
 c:p.1.c=s0.c
theorem zpr (s:Ns) (l:Nt) (ht:s.tab=[]): ∃o l',zhr (s,l)=({s with run:=s.run+1,bk:=(runL s.bk (runC s).rs).1,out:=s.out++o},l')∧o.length≤(runC s).rs.length∧l'.length≤l.length+(runC s).rs.length:=by
 rw [zog];obtain ⟨o,l',h1,h2,h3⟩:=zo2 (p:=({s with run:=s.run+1,bk:=(runL s.bk (runC s).rs).1},l)) ht (runL s.bk (runC s).rs).2;have h4:(runL s.bk (runC s).rs).2.length≤(runC s).rs.length:=zk8 _ _;exact ⟨o,l',h1,by omega,by simp only at h3;omega⟩
theorem RunSt.step {s0 s:Ns} {l0 l:Nt} {m:Nat} (h:RunSt s0 l0 m (s,l)) (h0:s.run<doneI (insAt s 0)) (h1:s.run+1≤16) (hb:(runC s).rs.length≤4): ∃m',m=m'+1∧RunSt s0 l0 m' (zhr (s,l)):=by
 obtain ⟨g1,g2,g3,g4,g5,g6⟩:=h;simp only at g2 g3 g4 g5 g6;obtain ⟨n,rfl⟩: ∃n,m=n+1:=⟨m-1,by omega⟩;obtain ⟨o,l',e1,e2,e3⟩:=zpr s l g3;refine ⟨n,rfl,by rw [g1,zk2 h0],?_,?_,?_,?_,?_⟩
 ·rw [e1];simp only;omega
 ·rw [e1];exact g3
 ·rw [e1];simp only;omega
 ·rw [e1];simp only [List.length_append];omega
 ·rw [e1];exact g6
theorem Own.five {B:Nat} {w0 W:World} {rs:List Res} {b:Nat} {T:TypeId} {c0 c1 c2 c3 c4 v0 v1 v2 v3 v4:Value} (h:Own B w0 W (blk b (.cells #[c0,c1,c2,c3,c4] T (0,0))::rs)):Own B w0 (((((W.setCell ⟨b,0,none⟩ v0).setCell ⟨b,1,none⟩ v1).setCell ⟨b,2,none⟩ v2).setCell ⟨b,3,none⟩ v3).setCell ⟨b,4,none⟩ v4) (blk b (.cells #[v0,v1,v2,v3,v4] T (0,0))::rs):=(Own.storeTo (Own.storeTo (Own.storeTo (Own.storeTo (Own.storeTo h 0 v0 rfl) 1 v1 rfl) 2 v2 rfl) 3 v3 rfl) 4 v4 rfl)
section
variable {B:Nat} {w0 w W W':World} {ss rs:List Res} {x:Np} {s s':Ns} {l l':Nt}
end
theorem zhv {α:Type} {P:List α→Prop} (h0:P []) (h1: ∀l a,P l→P (l++[a])) (l:List α):P l:=by
 rw [←List.reverse_reverse l]
 induction l.reverse with
 | nil=>exact h0
 | cons a t ih=>rw [List.reverse_cons];exact h1 _ _ ih
def vtsGo (mk:Int→Ms) (l:Nt) (ks:List Int):Vs×Nt:=ks.foldl (fun q k=>(q.1++[(k,msS q.2 (mk k))],msSL q.2 (mk k))) ([],l)
theorem zdi (mk:Int→Ms) (l:Nt) (ks:List Int) (k:Int):vtsGo mk l (ks++[k])=((vtsGo mk l ks).1++[(k,msS (vtsGo mk l ks).2 (mk k))],msSL (vtsGo mk l ks).2 (mk k)):=by
 unfold vtsGo;rw [List.foldl_append];rfl
theorem zdp (mk:Int→Ms) (l:Nt) (ks:List Int):(vtsGo mk l ks).1.length=ks.length:=by
 refine zhv (P:=fun ks=>(vtsGo mk l ks).1.length=ks.length) rfl (fun ks k ih=> ?_) ks;rw [zdi];simp [ih]
def quoK (f:Nat) (s:Int) (i:Nat):Int:=if (i:Int)<s then i else i+f
def quoKs (f:Nat) (s:Int) (n:Nat):List Int:=(List.range n).map (quoK f s)
theorem zkx (f:Nat) (s:Int) (n:Nat):quoKs f s (n+1)=quoKs f s n++[quoK f s n]:=by unfold quoKs;rw [List.range_succ,List.map_append];rfl
theorem zbb (f:Nat) (s:Int) (n:Nat):(quoKs f s n).length=n:=by unfold quoKs;simp
theorem zmc (l:Nt) (m:Ms):(msSL l m).length≤l.length+1:=by
 unfold msSL;split
 ·omega
 ·exact (zet _ _ _).2
theorem zxe {l:Nt} {m:Ms} (h:NtOk l) (h1: -9223372036854775808≤m.fm) (h2:m.fm≤9223372036854775807):NtOk (msSL l m):=by
 unfold msSL;split
 ·exact h
 ·rename_i b hb
  exact ze5 h (zd9 hb h1 h2)
theorem zhz (mk:Int→Ms) (l:Nt) (ks:List Int):(vtsGo mk l ks).2.length≤l.length+ks.length:=by
 refine zhv (P:=fun ks=>(vtsGo mk l ks).2.length≤l.length+ks.length) (by simp [vtsGo]) (fun ks k ih=> ?_) ks;rw [zdi];have:=zmc (vtsGo mk l ks).2 (mk k);simp;omega
theorem zh0 {mk:Int→Ms} {l:Nt} (h:NtOk l) {ks:List Int}:(∀k∈ks,-9223372036854775808≤(mk k).fm∧(mk k).fm≤9223372036854775807)→NtOk (vtsGo mk l ks).2:=by
 refine zhv (P:=fun ks=>(∀k∈ks,-9223372036854775808≤(mk k).fm∧(mk k).fm≤9223372036854775807)→NtOk (vtsGo mk l ks).2) (fun _=>h) (fun ks k ih hk=> ?_) ks;rw [zdi];have:=hk k (by simp);exact zxe (ih (fun q hq=>hk q (by simp [hq]))) this.1 this.2
theorem Tryz.infoVt2:(Tryz.prog.info? 177).map (fun i=>(i.zero,i.size,i.bytes))=some (some (.agg #[.int .i64 0,.int .i64 0]),2,16):=by kernel_rfl
section
variable {B:Nat} {w0 w W W':World} {ss rs:List Res} {nt nm rn:Nat} {vp:Value} {vt:Rn} {l:Nt}
def MkC (B:Nat) (w0:World) (ss:List Res) (fn:FuncId) (cap:Array Value) (mk:Int→Mm):Prop:=
 ∀W rs (k:Int),0≤k→k≤100→Own B w0 W rs→(∀r∈ss,r∈rs)→Calls Tryz.prog fn (#[.int .i64 k]++cap) W fun e w'=>e= .returned (.agg (mmA (mk k)))∧Own B w0 w' (mmR (mk k) rs)
theorem zm1 {f:Nat} {skip:Int} {p1 p2:Nat} {mk:Int→Mm} (h:Own B w0 W (twR nt nm rn vp vt l ss)) (hm: ∀k,MmOk (mk k)) (hfm: ∀k,(mk k).fm=k) (hl:NtOk l) (hn:l.length≤900000000) (hf1:1≤f) (hf2:f≤4) (HM:MkC B w0 ss 66 #[ptrV p1,ptrV p2] mk):
  Calls Tryz.prog 65 #[.agg (twA nt rn),.int .i64 f,.int .i64 skip,.func (.func 66) #[] #[ptrV p1,ptrV p2]] W fun e w'=> ∃v' vp' vt',e= .returned v'∧Own B w0 w' (redR v' 2 (2*f+1) (zaf (vtsGo (fun k=>(mk k).ms) l (quoKs f (skip%(f+1)) (2*f+1))).1)::twR nt nm rn vp' vt' (vtsGo (fun k=>(mk k).ms) l (quoKs f (skip%(f+1)) (2*f+1))).2 ss):=by
 obtain ⟨i0,hi,hz0,hz1,hz2⟩:=info_parts Tryz.infoVt2;have hs0:0≤skip%((f:Int)+1):=Int.emod_nonneg _ (by omega);have hs1:skip%((f:Int)+1)<(f:Int)+1:=Int.emod_lt_of_pos _ (by omega);have HW:=zq (fun w=>zb9 skip ((f:Int)+1) w (by omega) (by omega));generalize skip%((f:Int)+1)=sk at*;have HN:=zq (fun w=>zel (f:Int) w (by omega) (by omega));have HQ:=zq (fun w=>zf1 (f:Int) w (by omega) (by omega));have H1:=zq ((h.box (twO nt rn)).row0 (E:=177) (sz:=2));have HFM:=zq hfm;have HOK:=zq hm;have HMK:=zq HM;have HL:=zq hl;clear h hfm hm HM hl;go_enter Tryz.func65,Tryz.ntmps65
 go_wp2_with fail
 refine (HN.out _).mono ?_;rintro e w' ⟨rfl,rfl⟩
 go_wp2_with fail
 go_loopw [9,11] (fun o i wr=> ∃(n:Nat) (ao:Option Addr) (cp:Nat) (vp':Value) (vt':Rn),n≤2*f+1∧i= .int .i64 n∧o= .slice ao n cp∧Hid (Own B w0 wr (ownR 177 2 (.slice ao n cp) n (zaf (vtsGo (fun k=>(mk k).ms) l (quoKs f sk n)).1)::blk W.heap.size (twO nt rn)::twR nt nm rn vp' vt' (vtsGo (fun k=>(mk k).ms) l (quoKs f sk n)).2 ss))) (fun _ i _=>2*f+1-(intOf i).toNat)
 case atStart=>exact ⟨0,none,0,vp,vt,by omega,rfl,rfl,H1⟩
 case round=>
  clear H1;obtain ⟨n,ao,cp,vp',vt',hn2,rfl,rfl,H2⟩:=hrel;by_cases hlt:n<2*f+1
  ·have hnI:(n:Int)<2*(f:Int)+1:=by omega
   go_wp2_with fail
   refine (HQ.out _).mono ?_;rintro e w' ⟨rfl,rfl⟩
   go_upto_if 28 with fail
   refine (HW.out _).mono ?_;rintro e w' ⟨rfl,rfl⟩
   go_upto_if 28 with fail
   generalize hbd:decide (sk≤(n:Int))=bd;have HBD:=zq hbd;clear hbd
   go_cut [12] (fun t wx=>t= .int .i64 (quoK f sk n)∧Hid (Own B w0 wx (ownR 177 2 (.slice ao n cp) n (zaf (vtsGo (fun k=>(mk k).ms) l (quoKs f sk n)).1)::blk W.heap.size (twO nt rn)::twR nt nm rn vp' vt' (vtsGo (fun k=>(mk k).ms) l (quoKs f sk n)).2 ss)))
   case first=>
    cases bd with
    | false=>
     have HQK:Hid (quoK f sk n=n):=zq (by have:=HBD.out;simp only [decide_eq_false_iff_not] at this;unfold quoK;rw [if_pos (by omega)])
     go_wp2_with fail
     go_meet
     exact ⟨by rw [HQK.out],H2⟩
    | true=>
     have HQK:Hid (quoK f sk n=n+f):=zq (by have:=HBD.out;simp only [decide_eq_true_eq] at this;unfold quoK;rw [if_neg (by omega)])
     go_wp2_with fail
     refine (HQ.out _).mono ?_;rintro e w' ⟨rfl,rfl⟩;have e9:(n:Int)+(3*(f:Int)+1)-(2*(f:Int)+1)=n+f:=by omega
     go_wp2_with fail
     go_meet
     exact ⟨by rw [HQK.out],H2⟩
   case rest=>
    obtain ⟨rfl,H3⟩:=hcut;clear H2
    go_upto_region 9 with fail
    have hq0:0≤quoK f sk n∧quoK f sk n≤100:=by unfold quoK;split<;>omega
    have HST:Hid (quoKs f sk (n+1)=quoKs f sk n++[quoK f sk n]):=zq (zkx f sk n);generalize quoK f sk n=q at*;have h4:Own B w0 wc.drew (twR nt nm rn vp' vt' (vtsGo (fun k=>(mk k).ms) l (quoKs f sk n)).2 (ownR 177 2 (.slice ao n cp) n (zaf (vtsGo (fun k=>(mk k).ms) l (quoKs f sk n)).1)::blk W.heap.size (twO nt rn)::ss)):=H3.out.drew.perm ((List.perm_append_comm (l₁:=[_,_]) (l₂:=[_,_,_,_,_])).append_right ss);have t0:=zaa (h4.blkAt 6 rfl) 0 rfl;have t1:=zaa (h4.blkAt 6 rfl) 1 rfl;have HC:=zq (HMK.out _ _ q hq0.1 hq0.2 h4 (by simp+contextual));have HPX:Hid ((vtsGo (fun k=>(mk k).ms) l (quoKs f sk n)).2.length≤900000100):=zq (by
     have h1:=zhz (fun k=>(mk k).ms) l (quoKs f sk n);rw [zbb] at h1;omega)
    have HNK:Hid (NtOk (vtsGo (fun k=>(mk k).ms) l (quoKs f sk n)).2):=zq (zh0 HL.out (fun k hk=>by
     have h1:(mk k).ms.fm=k:=HFM.out k;have h2:0≤k∧k≤100:=by
      unfold quoKs at hk;simp only [List.mem_map,List.mem_range] at hk;obtain ⟨i,hi,rfl⟩:=hk;unfold quoK;split<;>omega
     rw [h1];omega))
    have HSN:Hid (vtsGo (fun k=>(mk k).ms) l (quoKs f sk (n+1))=((vtsGo (fun k=>(mk k).ms) l (quoKs f sk n)).1++[(q,msS (vtsGo (fun k=>(mk k).ms) l (quoKs f sk n)).2 (mk q).ms)],msSL (vtsGo (fun k=>(mk k).ms) l (quoKs f sk n)).2 (mk q).ms)):=zq (by rw [HST.out,zdi]);have HVL:Hid ((vtsGo (fun k=>(mk k).ms) l (quoKs f sk n)).1.length=n):=zq (by rw [zdp,zbb]);generalize vtsGo (fun k=>(mk k).ms) l (quoKs f sk n)=vg at*;obtain ⟨A,l3⟩:=vg;simp only at HPX HNK HSN HVL h4 HC;clear h4 H3;refine Held.wp_held [(W.heap.size,0,[.pointer (some ⟨nt,0,none⟩),.pointer (some ⟨rn,0,none⟩)])] [(2,0)] [9] [(6,true),(1,true),(3,false)] (by kernel_rfl) (by kernel_rfl) ⟨⟨t0,t1,trivial⟩,trivial⟩ ?_;simp only [Held.cutAt,Held.walk,List.take_succ_cons,List.take_zero,List.drop_succ_cons,List.drop_zero]
    go_wp2_with fail
    refine HC.out.mono ?_;rintro e w3 ⟨rfl,h5⟩;have HMS:=zq (zjy h5 (HOK.out q) HNK.out (by have:=HPX.out;omega) (by rw [HFM.out];omega) (by rw [HFM.out];omega));have s0:=zaa (h5.blkAt 12 rfl) 0 rfl;have s1:=zaa (h5.blkAt 12 rfl) 1 rfl;clear h5 HC t0 t1
    go_wp2_with fail
    refine ⟨⟨⟨s0,s1,trivial⟩,trivial⟩,?_⟩
    go_wp2_with fail
    refine HMS.out.mono ?_;rintro e w4 ⟨rfl,vp5,vt5,h6⟩;have u0:=zaa (h6.blkAt 12 rfl) 0 rfl;have u1:=zaa (h6.blkAt 12 rfl) 1 rfl;generalize msS l3 (mk q).ms=sq at*;generalize msSL l3 (mk q).ms=l4 at*;have h7:Own B w0 w4 (ownR 177 2 (.slice ao n cp) n (zaf A)::blk W.heap.size (twO nt rn)::twR nt nm rn vp5 vt5 l4 ss):=(zzv (m:=mk q) h6).perm ((List.perm_append_comm (l₁:=[_,_,_,_,_]) (l₂:=[_,_])).append_right ss);have HX:=zq (h7.box (.cells #[.int .i64 q,.int .i64 sq] 177 (0,0)));have HN5:=zq (heap_alloc_new w4 (.cells #[.int .i64 q,.int .i64 sq] 177 (0,0)));clear h6 h7 HMS s0 s1
    go_wp2_with fail
    refine ⟨⟨⟨u0,u1,trivial⟩,trivial⟩,?_⟩;clear u0 u1
    go_wp2_with (at_builtin;refine za7 rfl (.tmp 35) (.tmp 43) 40 rfl 177 i0 (.agg #[.int .i64 0,.int .i64 0]) 2 16 Tryz.underlying40 hi hz0 hz1 hz2 rfl (by decide) HX.out 1 (.slice ao n cp) n (zaf A) rfl rfl w4.heap.size #[.int .i64 q,.int .i64 sq] 177 (0,0) rfl HN5.out rfl (by simp [Value.oneCell']) (by unfold maxLen;omega) (by omega) ?_)
    intro g6 cap6 w6 h8;have h9:Own B w0 w6 (ownR 177 2 (.slice (some ⟨g6,0,none⟩) (n+1) cap6) (n+1) (zaf (A++[(q,sq)]))::blk W.heap.size (twO nt rn)::twR nt nm rn vp5 vt5 l4 ss):=by
     have:=h8.drop
     simpa [zaf] using this
    have HF:=zq h9;clear h8 h9 HX HN5
    go_wp2_with fail
    refine ⟨trivial,?_⟩
    go_wp2_with fail
    refine ⟨trivial,by rfl,⟨⟨rfl,.inr ⟨by kernel_rfl,by kernel_rfl⟩⟩,trivial⟩,?_⟩
    go_wp2_with fail
    go_roundw
    case rel=>exact ⟨n+1,some ⟨g6,0,none⟩,cap6,vp5,vt5,by omega,by go_num,by go_num,zq (by rw [HSN.out];exact HF.out)⟩
    case measure=>simp [intOf];omega
  ·have hnI:decide ((n:Int)<2*(f:Int)+1)=false:=by simp;omega
   have hne:n=2*f+1:=by omega
   subst hne;have HF:=zq (H2.out.swap.drop.toRed)
   go_wp2_with fail
   refine (HQ.out _).mono ?_;rintro e w' ⟨rfl,rfl⟩
   go_wp2_with fail
   go_ret
   exact ⟨_,vp',vt',rfl,HF.out⟩
end
end Go.Proofs.YtannckelmojkoaaGreat
