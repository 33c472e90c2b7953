/- Parts of the proof, one behind the other. -/
import Derived.Test.YtannckelmojkoaaGreatAgnB26
set_option maxHeartbeats 32000000
set_option maxRecDepth 100000
set_option linter.unusedVariables false
set_option linter.unusedSimpArgs false
namespace Go.Proofs.YtannckelmojkoaaGreat
open Go.RowKit Go.Heap
abbrev zTwo:Obj:= .cells #[.pointer none,.pointer none] 28 (0,0)
abbrev zCfg:Obj:= .cells #[.int .i64 0,.int .i64 0,.int .i64 0,.int .i64 0,.int .i64 0,.int .i64 0,.int .i64 0,.int .i64 0,.int .i64 0,.int .i64 0,.int .i64 0,.int .i64 0,.int .i64 0,.int .i64 0,.int .i64 0] 30 (0,0)
section
variable {B:Nat} {w0 w W W':World} {ss rs:List Res} {x:Np} {s s':Ns} {l l':Nt}
theorem zod {i j a b:Nat} {o o':Obj} (h:Own B w0 W rs) (e1:rs[i]?=some (blk a o)) (e2:rs[j]?=some (blk b o')) (hij:i<j):a≠b:=fun e=>by
 obtain ⟨h1,h1'⟩:=List.getElem?_eq_some_iff.1 e1;obtain ⟨h2,h2'⟩:=List.getElem?_eq_some_iff.1 e2;have:=List.pairwise_iff_getElem.1 h.apart i j h1 h2 hij;rw [h1',h2'] at this;exact this a (by simp [blk]) (by simp [blk,e])
theorem own_15 {b:Nat} {T:TypeId} {c0 c1 c2 c3 c4 c5 c6 c7 c8 c9 c10 c11 c12 c13 c14 v0 v1 v2 v3 v4 v5 v6 v7 v8 v9 v10 v11 v12 v13 v14:Value} (h:Own B w0 W (blk b (.cells #[c0,c1,c2,c3,c4,c5,c6,c7,c8,c9,c10,c11,c12,c13,c14] T (0,0))::rs)):Own B w0 (((((((((((((((W.setCell ⟨b,0,none⟩ v0).setCell ⟨b,1,none⟩ v1).setCell ⟨b,2,none⟩ v2).setCell ⟨b,3,none⟩ v3).setCell ⟨b,4,none⟩ v4).setCell ⟨b,5,none⟩ v5).setCell ⟨b,6,none⟩ v6).setCell ⟨b,7,none⟩ v7).setCell ⟨b,8,none⟩ v8).setCell ⟨b,9,none⟩ v9).setCell ⟨b,10,none⟩ v10).setCell ⟨b,11,none⟩ v11).setCell ⟨b,12,none⟩ v12).setCell ⟨b,13,none⟩ v13).setCell ⟨b,14,none⟩ v14) (blk b (.cells #[v0,v1,v2,v3,v4,v5,v6,v7,v8,v9,v10,v11,v12,v13,v14] T (0,0))::rs):=by
 have h0:=Own.storeTo h 0 v0 (o':= .cells #[v0,c1,c2,c3,c4,c5,c6,c7,c8,c9,c10,c11,c12,c13,c14] T (0,0)) rfl;have h1:=Own.storeTo h0 1 v1 (o':= .cells #[v0,v1,c2,c3,c4,c5,c6,c7,c8,c9,c10,c11,c12,c13,c14] T (0,0)) rfl;have h2:=Own.storeTo h1 2 v2 (o':= .cells #[v0,v1,v2,c3,c4,c5,c6,c7,c8,c9,c10,c11,c12,c13,c14] T (0,0)) rfl;have h3:=Own.storeTo h2 3 v3 (o':= .cells #[v0,v1,v2,v3,c4,c5,c6,c7,c8,c9,c10,c11,c12,c13,c14] T (0,0)) rfl;have h4:=Own.storeTo h3 4 v4 (o':= .cells #[v0,v1,v2,v3,v4,c5,c6,c7,c8,c9,c10,c11,c12,c13,c14] T (0,0)) rfl;have h5:=Own.storeTo h4 5 v5 (o':= .cells #[v0,v1,v2,v3,v4,v5,c6,c7,c8,c9,c10,c11,c12,c13,c14] T (0,0)) rfl;have h6:=Own.storeTo h5 6 v6 (o':= .cells #[v0,v1,v2,v3,v4,v5,v6,c7,c8,c9,c10,c11,c12,c13,c14] T (0,0)) rfl;have h7:=Own.storeTo h6 7 v7 (o':= .cells #[v0,v1,v2,v3,v4,v5,v6,v7,c8,c9,c10,c11,c12,c13,c14] T (0,0)) rfl;have h8:=Own.storeTo h7 8 v8 (o':= .cells #[v0,v1,v2,v3,v4,v5,v6,v7,v8,c9,c10,c11,c12,c13,c14] T (0,0)) rfl;have h9:=Own.storeTo h8 9 v9 (o':= .cells #[v0,v1,v2,v3,v4,v5,v6,v7,v8,v9,c10,c11,c12,c13,c14] T (0,0)) rfl;have h10:=Own.storeTo h9 10 v10 (o':= .cells #[v0,v1,v2,v3,v4,v5,v6,v7,v8,v9,v10,c11,c12,c13,c14] T (0,0)) rfl;have h11:=Own.storeTo h10 11 v11 (o':= .cells #[v0,v1,v2,v3,v4,v5,v6,v7,v8,v9,v10,v11,c12,c13,c14] T (0,0)) rfl;have h12:=Own.storeTo h11 12 v12 (o':= .cells #[v0,v1,v2,v3,v4,v5,v6,v7,v8,v9,v10,v11,v12,c13,c14] T (0,0)) rfl;have h13:=Own.storeTo h12 13 v13 (o':= .cells #[v0,v1,v2,v3,v4,v5,v6,v7,v8,v9,v10,v11,v12,v13,c14] T (0,0)) rfl;have h14:=Own.storeTo h13 14 v14 (o':= .cells #[v0,v1,v2,v3,v4,v5,v6,v7,v8,v9,v10,v11,v12,v13,v14] T (0,0)) rfl;exact h14
theorem own_2 {b:Nat} {T:TypeId} {c0 c1 v0 v1:Value} (h:Own B w0 W (blk b (.cells #[c0,c1] T (0,0))::rs)):Own B w0 ((W.setCell ⟨b,0,none⟩ v0).setCell ⟨b,1,none⟩ v1) (blk b (.cells #[v0,v1] T (0,0))::rs):=Own.storeTo (Own.storeTo h 0 v0 rfl) 1 v1 rfl
theorem nd_made {nm nt:Nat} {c:Cf} (hc:CfOk c) {id:Int} (h0:0≤id) (h1:id≤3*c.f) {x:Np} {v:Nv} (hnt:x.nt=nt) (hv: ∀nm,NvOk {x with nm:=nm} (newS c id) v) (h:Own B w0 W (nsR x (newS c id) v::blk nt (noB nm)::ntR nm []::ss)):NdIs B w0 W {x with nm:=nm} (newS c id) [] ss:=by
 subst hnt;exact ⟨newS_ok hc h0 h1,⟨List.nodup_nil,by simp⟩,v,hv nm,h⟩
theorem zxh (fA idA:Int) (f:Nat) (hf1:1≤f) (hf2:f≤4) (hf:1+fA%4=f) (h:Own B w0 W ss):
  Calls Tryz.prog 15 #[.int .i64 fA,.int .i64 idA] W fun e w'=> ∃(x:Np) (rn:Nat),e= .returned (.tuple #[ptrV x.p,.agg (twA x.nt rn),.agg (cfA (stdC f)),.bool true])∧
   NdIs B w0 w' x (newS (stdC f) (idA%(3*(f:Int)+1))) [] (rnR rn (.slice none 0 0) ⟨.slice none 0 0,[]⟩ [] ss):=by
 have h1:=(h.box zTwo).boxAt zCfg (n:=W.heap.size+1) (by simp);have H1:=zq h1;have HW:=zq (fun w=>zdw fA 4 w (by omega) (by omega));have HS:=zq (fun w=>stdAny f w);have hfI:1≤(f:Int):=by omega
 have hf4:(f:Int)≤4:=by omega
 have hm:=zgz fA 4 (by omega);have HF:=zq hf;obtain ⟨k,hk⟩: ∃k,k=fA%4:=⟨_,rfl⟩;rw [←hk] at HW hm HF;clear h h1 hf hk;go_enter Tryz.func15,Tryz.ntmps15
 go_wp2_with fail
 refine (HW.out _).mono ?_;rintro e w' ⟨rfl,rfl⟩
 go_wp2_with fail
 rw [HF.out];refine (HS.out _).mono ?_;rintro e w2 ⟨rfl,hu⟩;have H2:=zq (H1.out.upd0 hu);clear hu H1 HW HS HF hm;generalize W.heap.size=q at*;have H3:=zq (H2.out.box (.cells (cfA (stdC f)) 30 (0,0)));have HN:=zq (zkt H3.out);clear H2
 go_wp2_with fail
 refine HN.out.mono ?_;rintro e w4 ⟨nt,nm,rfl,h4⟩;have H5:=zq ((h4.box (rnO (.slice none 0 0) (.slice none 0 0))).boxAt (twO nt w4.heap.size) (n:=w4.heap.size+1) (by simp));clear h4 HN H3;have HNo:=zq (fun w=>zlc (f:Int) w hfI hf4);have HWi:=zq (fun w=>zdw idA (3*(f:Int)+1) w (by omega) (by omega));have hid:=zgz idA (3*(f:Int)+1) (by omega);obtain ⟨hi0,hi1⟩:=hid;obtain ⟨id,hide⟩: ∃id,id=idA%(3*(f:Int)+1):=⟨_,rfl⟩;have HID:=zq hide;rw [←hide] at HWi hi0 hi1;have HI0:=zq hi0;have HI1:=zq hi1;clear hide;have HNN:=zq (zwd (zzc hf1 hf2) id nt HI0.out (by have:=HI1.out;exact this) H5.out.drew);have hb8:=H5.out.drew.blkAt 4 rfl;have hb9:=H5.out.drew.blkAt 0 rfl;have a0:=zaa hb8 0 rfl;have a1:=zaa hb8 1 rfl;have a2:=zaa hb8 2 rfl;have a3:=zaa hb8 3 rfl;have a4:=zaa hb8 4 rfl;have a5:=zaa hb8 5 rfl;have a6:=zaa hb8 6 rfl;have a7:=zaa hb8 7 rfl;have a8:=zaa hb8 8 rfl;have a9:=zaa hb8 9 rfl;have a10:=zaa hb8 10 rfl;have a11:=zaa hb8 11 rfl;have a12:=zaa hb8 12 rfl;have a13:=zaa hb8 13 rfl;have a14:=zaa hb8 14 rfl;have n0:=zaa hb9 0 rfl;clear hb8 hb9 hi0 hi1;generalize w2.heap.size=bc at*
 go_upto_region 5 with fail
 refine Held.wp_held [(bc,0,[.int .i64 f,.int .i64 2,.int .i64 2,.int .i64 4,.int .i64 64,.int .i64 8,.int .i64 8,.int .i64 8,.int .i64 1,.int .i64 2,.int .i64 12,.int .i64 8,.int .i64 6,.int .i64 2,.int .i64 6]),(bc,0,[.int .i64 f]),(w4.heap.size+1,0,[ptrV nt])] [(0,0),(3,1),(7,2)] [8] [(5,true),(1,true),(3,false)] (by kernel_rfl) (by kernel_rfl) ⟨⟨a0,a1,a2,a3,a4,a5,a6,a7,a8,a9,a10,a11,a12,a13,a14,trivial⟩,⟨a0,trivial⟩,⟨n0,trivial⟩,trivial⟩ ?_;simp only [Held.cutAt,Held.walk,List.take_succ_cons,List.take_zero,List.drop_succ_cons,List.drop_zero]
 go_wp2_with fail
 refine (HNo.out _).mono ?_;rintro e w' ⟨rfl,rfl⟩
 go_wp2_with fail
 refine ⟨⟨⟨a0,a1,a2,a3,a4,a5,a6,a7,a8,a9,a10,a11,a12,a13,a14,trivial⟩,⟨a0,trivial⟩,⟨n0,trivial⟩,trivial⟩,?_⟩
 go_wp2_with fail
 refine (HWi.out _).mono ?_;rintro e w' ⟨rfl,rfl⟩
 go_wp2_with fail
 refine ⟨⟨⟨a0,a1,a2,a3,a4,a5,a6,a7,a8,a9,a10,a11,a12,a13,a14,trivial⟩,⟨a0,trivial⟩,⟨n0,trivial⟩,trivial⟩,?_⟩
 go_wp2_with fail
 refine HNN.out.mono ?_;rintro e w6 ⟨x,v,rfl,hxn,hv,h6⟩
 go_wp2_with fail
 refine ⟨trivial,?_⟩
 go_wp2_with fail
 refine ⟨trivial,by rfl,⟨⟨rfl,.inr ⟨by kernel_rfl,by kernel_rfl⟩⟩,⟨rfl,.inl ⟨by kernel_rfl,rfl⟩⟩,⟨rfl,.inl ⟨by kernel_rfl,rfl⟩⟩,trivial⟩,?_⟩;have H6:=zq h6;have hb1:=h6.blkAt 1 rfl;have hb5:=h6.blkAt 5 rfl;have hb6:=h6.blkAt 6 rfl;have hb7:=h6.blkAt 7 rfl;clear a0 a1 a2 a3 a4 a5 a6 a7 a8 a9 a10 a11 a12 a13 a14 n0 h6 HNN H5 HNo HWi;have a0:w6.cell? ⟨bc,0,none⟩=_:=zaa hb5 0 rfl;have a1:w6.cell? ⟨bc,1,none⟩=_:=zaa hb5 1 rfl;have a2:w6.cell? ⟨bc,2,none⟩=_:=zaa hb5 2 rfl;have a3:w6.cell? ⟨bc,3,none⟩=_:=zaa hb5 3 rfl;have a4:w6.cell? ⟨bc,4,none⟩=_:=zaa hb5 4 rfl;have a5:w6.cell? ⟨bc,5,none⟩=_:=zaa hb5 5 rfl;have a6:w6.cell? ⟨bc,6,none⟩=_:=zaa hb5 6 rfl;have a7:w6.cell? ⟨bc,7,none⟩=_:=zaa hb5 7 rfl;have a8:w6.cell? ⟨bc,8,none⟩=_:=zaa hb5 8 rfl;have a9:w6.cell? ⟨bc,9,none⟩=_:=zaa hb5 9 rfl;have a10:w6.cell? ⟨bc,10,none⟩=_:=zaa hb5 10 rfl;have a11:w6.cell? ⟨bc,11,none⟩=_:=zaa hb5 11 rfl;have a12:w6.cell? ⟨bc,12,none⟩=_:=zaa hb5 12 rfl;have a13:w6.cell? ⟨bc,13,none⟩=_:=zaa hb5 13 rfl;have a14:w6.cell? ⟨bc,14,none⟩=_:=zaa hb5 14 rfl;have t0:w6.cell? ⟨w4.heap.size+1,0,none⟩=_:=zaa hb1 0 rfl;have t1:w6.cell? ⟨w4.heap.size+1,1,none⟩=_:=zaa hb1 1 rfl;have q0:=zaa hb7 0 rfl;have q1:=zaa hb7 1 rfl;have qz:=zac hb7;have p0:=zaa hb6 0 rfl;have p1:=zaa hb6 1 rfl;have p2:=zaa hb6 2 rfl;have p3:=zaa hb6 3 rfl;have p4:=zaa hb6 4 rfl;have p5:=zaa hb6 5 rfl;have p6:=zaa hb6 6 rfl;have p7:=zaa hb6 7 rfl;have p8:=zaa hb6 8 rfl;have p9:=zaa hb6 9 rfl;have p10:=zaa hb6 10 rfl;have p11:=zaa hb6 11 rfl;have p12:=zaa hb6 12 rfl;have p13:=zaa hb6 13 rfl;have p14:=zaa hb6 14 rfl;have pz:=zac hb6;have n1:=zod H6.out (i:=5) (j:=7) rfl rfl (by omega);have n2:=zod H6.out (i:=5) (j:=6) rfl rfl (by omega);have n3:=zod H6.out (i:=1) (j:=7) rfl rfl (by omega);have n4:=zod H6.out (i:=1) (j:=6) rfl rfl (by omega);have m1:=n1.symm;have m2:=n2.symm;have m3:=n3.symm;have m4:=n4.symm;have h7:=own_2 (H6.out.front 7 rfl rfl) (v0:=ptrV nt) (v1:=ptrV w4.heap.size)
 dsimp only [List.eraseIdx] at h7
 have h8:=own_15 (h7.front 7 rfl rfl) (v0:= .int .i64 (stdC f).f) (v1:= .int .i64 (stdC f).cl) (v2:= .int .i64 (stdC f).bt) (v3:= .int .i64 (stdC f).ah) (v4:= .int .i64 (stdC f).qu) (v5:= .int .i64 (stdC f).fl) (v6:= .int .i64 (stdC f).sh) (v7:= .int .i64 (stdC f).pe) (v8:= .int .i64 (stdC f).nu) (v9:= .int .i64 (stdC f).de) (v10:= .int .i64 (stdC f).la) (v11:= .int .i64 (stdC f).om) (v12:= .int .i64 (stdC f).wa) (v13:= .int .i64 (stdC f).ag) (v14:= .int .i64 (stdC f).re)
 dsimp only [List.eraseIdx] at h8
 have H8:=zq h8.drew;clear h7 h8
 go_upto_region 6 with fail
 go_region
 all_goals
  (clear a0 a1 a2 a3 a4 a5 a6 a7 a8 a9 a10 a11 a12 a13 a14 t0 t1 q0 q1 qz p0 p1 p2 p3 p4 p5 p6 p7 p8 p9 p10 p11 p12 p13 p14 pz
   generalize World.drew (World.setCell (World.setCell _ _ _) _ _)=w9 at*;have hd0:=H8.out.blkAt 0 rfl;have hd1:=H8.out.blkAt 1 rfl;have g0:=zaa hd1 0 rfl;have g1:=zaa hd1 1 rfl;have u0:=zaa hd0 0 rfl;have u1:=zaa hd0 1 rfl;have u2:=zaa hd0 2 rfl;have u3:=zaa hd0 3 rfl;have u4:=zaa hd0 4 rfl;have u5:=zaa hd0 5 rfl;have u6:=zaa hd0 6 rfl;have u7:=zaa hd0 7 rfl;have u8:=zaa hd0 8 rfl;have u9:=zaa hd0 9 rfl;have u10:=zaa hd0 10 rfl;have u11:=zaa hd0 11 rfl;have u12:=zaa hd0 12 rfl;have u13:=zaa hd0 13 rfl;have u14:=zaa hd0 14 rfl;clear hd0 hd1
   go_wp2_with fail
   refine bodyPost_ret (v:= .tuple #[ptrV x.p,.agg #[ptrV nt,ptrV w4.heap.size],.agg #[.int .i64 (stdC f).f,.int .i64 (stdC f).cl,.int .i64 (stdC f).bt,.int .i64 (stdC f).ah,.int .i64 (stdC f).qu,.int .i64 (stdC f).fl,.int .i64 (stdC f).sh,.int .i64 (stdC f).pe,.int .i64 (stdC f).nu,.int .i64 (stdC f).de,.int .i64 (stdC f).la,.int .i64 (stdC f).om,.int .i64 (stdC f).wa,.int .i64 (stdC f).ag,.int .i64 (stdC f).re],.bool true]) (by simp [results,Tryz.results15,go_sem,g0,g1,u0,u1,u2,u3,u4,u5,u6,u7,u8,u9,u10,u11,u12,u13,u14]) rfl ?_;have k1:=((((H8.out.drop.drop).dropAt 1 (by simp)).dropAt 4 (by simp)).front 3 rfl rfl)
   dsimp only [List.eraseIdx] at k1
   have k2:=((own_ntR0 k1).row0 (E:=3) (sz:=1)).row0 (E:=9) (sz:=1);have k3:=k2.front 1 rfl rfl
   dsimp only [List.eraseIdx] at k3
   have k4:=k3.front 4 rfl rfl
   dsimp only [List.eraseIdx] at k4
   have k5:=k4.front 3 rfl rfl
   dsimp only [List.eraseIdx] at k5
   have k6:=k5.front 5 rfl rfl
   dsimp only [List.eraseIdx] at k6
   have k7:=k6.front 5 rfl rfl
   dsimp only [List.eraseIdx] at k7
   have k8:=(Own.mkP (P:=RnOk [] []) (k7.front 5 rfl rfl) ⟨⟨List.nodup_nil,by simp⟩,by simp⟩).back 5 (by simp) rfl
   dsimp only [List.eraseIdx,List.insertIdx] at k8
   refine ⟨{x with nm:=nm},w4.heap.size,by rw [←hxn],by rw [←HID.out];exact nd_made (zzc hf1 hf2) HI0.out (by have:=HI1.out;simp only [stdC];omega) hxn hv k8⟩)
end
section
variable {B:Nat} {w0 w W W':World} {ss rs:List Res} {x:Np} {s s':Ns} {l l':Nt}
end
section
variable {B:Nat} {w0 w W W':World} {ss rs:List Res} {rn:Nat} {vp vt v bv:Value} {l:Nt}
end
def isV (view:Int) (x:Vo):Bool:=x.has&&(x.view==view)
def filV (view:Int):List Vo→Nat→Vs
 | [],_=>[]
 | x::l,i=>if isV view x then ((i:Int),x.sl)::filV view l (i+1) else filV view l (i+1)
theorem znu (view:Int) (q:Nat): ∀(l:List Vo) (i:Nat) (acc:Vs),acc.length≤q→eGo view q l i acc=acc++(filV view l i).take (q-acc.length)
 | [],i,acc,h=>by simp [eGo,filV]
 | x::l,i,acc,h=>by
  unfold eGo filV;have e:(x.has&&(x.view==view)&&decide (acc.length<q))=(isV view x&&decide (acc.length<q)):=rfl;rw [e];cases hb:isV view x with
  | false=>simp only [Bool.false_and,Bool.false_eq_true,if_false];exact znu view q l (i+1) acc h
  | true=>
   simp only [Bool.true_and,if_true];by_cases hq:acc.length<q
   ·rw [if_pos (by simpa using hq),znu view q l (i+1) _ (by simp;omega)]
    rw [show q-acc.length=(q-(acc.length+1))+1 by omega,List.take_succ_cons];simp
   ·rw [if_neg (by simpa using hq),znu view q l (i+1) acc h,show q-acc.length=0 by omega]
    simp
theorem zol (l:List Vo) (view:Int) (q:Nat):zk8 l view q=(filV view l 0).take q:=by
 unfold zk8;rw [znu view q l 0 [] (by simp)];simp
theorem zmg (view:Int): ∀(l:List Vo) (i:Nat),(filV view l i).length=l.countP (isV view)
 | [],i=>rfl
 | x::l,i=>by
  unfold filV;rw [List.countP_cons];cases isV view x<;>simp [zmg view l (i+1)]
theorem zi6 (view:Int): ∀(l:List Vo) (i:Nat) (p:Int×Int),p∈filV view l i→ ∃(k:Nat) (h:k<l.length),p=(((i+k:Nat):Int),l[k].sl)∧isV view l[k]=true
 | [],i,p,h=>by simp [filV] at h
 | x::l,i,p,h=>by
  unfold filV at h;have rec':p∈filV view l (i+1)→ ∃(k:Nat) (h:k<(x::l).length),p=(((i+k:Nat):Int),(x::l)[k].sl)∧isV view (x::l)[k]=true:=fun h=>by
   obtain ⟨k,hk,e,hv⟩:=zi6 view l (i+1) p h;exact ⟨k+1,by simpa using hk,by rw [e];simp;omega,by simpa using hv⟩
  cases hb:isV view x with
  | false=>rw [hb] at h;exact rec' (by simpa using h)
  | true=>
   rw [hb] at h;simp only [if_true,List.mem_cons] at h;rcases h with rfl | h
   ·exact ⟨0,by simp,by simp,by simpa using hb⟩
   ·exact rec' h
theorem zi7 (view:Int): ∀(l:List Vo) (i:Nat),(filV view l i).Pairwise (fun a b=>a.1<b.1)
 | [],i=>List.Pairwise.nil
 | x::l,i=>by
  unfold filV;cases isV view x with
  | false=>simpa using zi7 view l (i+1)
  | true=>
   simp only [if_true];refine List.pairwise_cons.2 ⟨fun p hp=> ?_,zi7 view l (i+1)⟩;obtain ⟨k,hk,e,-⟩:=zi6 view l (i+1) p hp;rw [e];simp only;omega
structure MvS (f:Nat) (id v:Int) (i k:Nat) (vo:List Vo) (l:Nt):Prop where
 vn:vo.length=3*f+1
 vc:vo.countP (isV v)=k
 vh: ∀(j:Nat) (h:j<vo.length),vo[j].has=true→j<i∧(j:Int)≠id∧chkN l j (chgB j v) vo[j].sl=true∧0≤vo[j].sl∧vo[j].sl≤1000000000
 ln:l.length=k
 lb: ∀x∈l,x.1<i
theorem MvS.skip {f:Nat} {id v:Int} {i k:Nat} {vo:List Vo} {l:Nt} (h:MvS f id v i k vo l):MvS f id v (i+1) k vo l:=
 {h with vh:=fun j hj hh=>let ⟨a,b⟩:=h.vh j hj hh;⟨by omega,b⟩,lb:=fun x hx=>by have:=h.lb x hx;omega}
theorem MvS.new {f:Nat} {id v:Int} {i k:Nat} {vo:List Vo} {l:Nt} (h:MvS f id v i k vo l) (b:Bys):((i:Int),b)∉l:=fun hn=>by have:=h.lb _ hn;simp at this
theorem MvS.put {f:Nat} {id v:Int} {i k:Nat} {vo:List Vo} {l:Nt} (h:MvS f id v i k vo l) (hi:i≤3*f) (h0:0≤v) (h1:v≤11):putB vo i v=true:=by
 have hiv:i<vo.length:=by have:=h.vn;omega
 have hv:(voAt vo (i:Int).toNat).has=false:=by
  unfold voAt;rw [List.getD_eq_getElem?_getD,Int.toNat_natCast,List.getElem?_eq_getElem hiv,Option.getD_some];cases hb:vo[i].has with
  | false=>rfl
  | true=>have:=(h.vh i hiv hb).1;omega
 unfold putB;rw [hv];have:=h.vn;simp;omega
theorem MvS.step {f:Nat} {id v:Int} {i k:Nat} {vo:List Vo} {l:Nt} (h:MvS f id v i k vo l) (hi:i≤3*f) (hne:(i:Int)≠id) (h0:0≤v) (h1:v≤11) (hk:k≤1000):
  MvS f id v (i+1) (k+1) (putL vo i v (sealN l i (chgB i v))) (sealL l i (chgB i v)):=by
 have hp:=h.put hi h0 h1;have hn:=h.new (chgB i v);have hiv:i<vo.length:=by have:=h.vn;omega
 have hf:isV v vo[i]=false:=by
  unfold isV;cases hb:vo[i].has with
  | false=>rfl
  | true=>have:=(h.vh i hiv hb).1;omega
 have hsl:sealN l i (chgB i v)=(k:Int)+1:=by unfold sealN;rw [List.idxOf_eq_length hn,h.ln]
 unfold putL;rw [hp,if_pos rfl,Int.toNat_natCast];constructor
 ·rw [List.length_set];exact h.vn
 ·rw [List.countP_set (h:=hiv),h.vc,hf]
  simp [isV]
 ·intro j hj hh
  rw [List.getElem_set] at hh⊢;by_cases hji:i=j
  ·subst hji
   rw [if_pos rfl];refine ⟨by omega,hne,?_,?_,?_⟩
   ·unfold chkN
    rw [zg1];simp [zfa]
   ·simp only;omega
   ·simp only;omega
  ·rw [if_neg hji] at hh⊢
   rw [List.length_set] at hj;obtain ⟨a,b,c,d⟩:=h.vh j hj hh;refine ⟨by omega,b,?_,d⟩;unfold chkN at c⊢;simp only [Bool.and_eq_true,decide_eq_true_eq,beq_iff_eq] at c⊢;exact ⟨ztw _ _ c.1,by rw [zvi _ _ c.1];exact c.2⟩
 ·unfold sealL;rw [if_neg hn];simp [h.ln]
 ·intro x hx
  unfold sealL at hx;rw [if_neg hn] at hx;simp only [List.mem_append,List.mem_singleton] at hx;rcases hx with hx | rfl
  ·have:=h.lb x hx;omega
  ·simp only;omega
theorem MvS.few {f:Nat} {id v:Int} {i k:Nat} {vo:List Vo} {l:Nt} (h:MvS f id v i k vo l) (hk:k<2*f+1):(zk8 vo v (2*f+1)).length≠2*f+1:=by
 rw [zol,List.length_take,zmg,h.vc];omega
theorem MvS.enough {f:Nat} {id v:Int} {i:Nat} {vo:List Vo} {l:Nt} (h:MvS f id v i (2*f+1) vo l):
  (zk8 vo v (2*f+1)).length=2*f+1∧Rises (zk8 vo v (2*f+1)) (3*(f:Int)+1)∧ ∀q∈zk8 vo v (2*f+1),chkN l q.1 (chgB q.1 v) q.2=true∧0≤q.2∧q.2≤1000000000:=by
 rw [zol];refine ⟨by rw [List.length_take,zmg,h.vc];omega,⟨(zi7 v vo 0).take,fun p hp=> ?_⟩,fun q hq=> ?_⟩
 ·obtain ⟨k,hk,e,-⟩:=zi6 v vo 0 p (List.mem_of_mem_take hp)
  have:=h.vn;rw [e];simp only;omega
 ·obtain ⟨k,hk,e,hv⟩:=zi6 v vo 0 q (List.mem_of_mem_take hq)
  unfold isV at hv;simp only [Bool.and_eq_true] at hv;obtain ⟨-,-,c,d⟩:=h.vh k hk hv.1;rw [e]
  simpa using ⟨c,d⟩
theorem rd_bys {B:Nat} {w0 W:World} {bv:Value} {bs:Bys} {ss rs:List Res} (h:Own B w0 W rs) (hm:bysR bv bs∈ss) (hs: ∀r∈ss,r∈rs) (hb: ∀c∈bs,c<256) (hl:bs.length≤65536):RdOk w0 B bv bs ss:=by
 have hB: ∀ {W:World} {rs:List Res},Own B w0 W rs→(∀r∈ss,r∈rs)→Byt W bv bs:=fun ho hh=>⟨owns_reads (zal (ho.all _ (hh _ hm)).1),hb⟩;exact ⟨hB,zb1 (hB h hs),hl⟩
theorem zvt {l:Nt} {m:Ms} {b:Bys} (hb:bodyP m=some b) (hl:b.length≤65530) (hn:l.length≤1000000000):(∀c∈givE l m.fm b,c<256)∧(givE l m.fm b).length≤65536:=by
 have h1:=zjz hn m.fm b;have h2:=zcv (sealN l m.fm b);rw [zyk hn m.fm hl];refine ⟨fun c hc=> ?_,by rw [List.length_append];omega⟩;rcases List.mem_append.1 hc with h | h
 ·refine zgi 5 _ ?_ c h
  unfold numOk at h1;simp only [Bool.and_eq_true,decide_eq_true_eq] at h1;have:(128:Nat)^(5+1)=4398046511104:=by decide
  omega
 ·exact (ze5 hb).1 c h
section
variable {B:Nat} {w0 w W W':World} {ss rs:List Res} {x:Np} {s s':Ns} {l l':Nt} {rn:Nat} {vp:Value} {vt:Rn}
theorem give_nd {m:Mm} {b:Bys} {P:NSt} (h:NdIs B w0 W x s l (mmR m (rnR rn vp vt l ss))) (hm:MmOk m) (hn:l.length≤1000000000) (h1: -9223372036854775808≤m.fm) (h2:m.fm≤9223372036854775807) (hb:bodyP m.ms=some b)
  (HT: ∀w1 ev vp' vt',NdIs B w0 w1 x s (sealL l m.fm b) (bysR ev (givE l m.fm b)::rnR rn vp' vt' (sealL l m.fm b) (mmR m ss))→Calls Tryz.prog 34 #[ptrV x.p,.int .i64 m.fm,ev] w1 fun e w'=>e= .returned (.tuple #[])∧NdIs B w0 w' x P.1 P.2 (bysR ev (givE l m.fm b)::rnR rn vp' vt' (sealL l m.fm b) (mmR m ss))):
  Calls Tryz.prog 23 #[ptrV x.p,.agg (twA x.nt rn),.agg (mmA m)] W fun e w'=>e= .returned (.tuple #[])∧ ∃vp' vt',NdIs B w0 w' x P.1 P.2 (rnR rn vp' vt' (sealL l m.fm b) (mmR m ss)):=by
 obtain ⟨r,hs,hk⟩:=h.sideN;have h3:Own B w0 W (mmR m (twR x.nt x.nm rn vp vt l (ss++[r]))):=hs.perm ((List.perm_append_comm (l₁:=[_,_]) (l₂:=[_,_,_,_,_,_])).append_right _);refine give_any (K:=fun w'=> ∃vp' vt',NdIs B w0 w' x P.1 P.2 (rnR rn vp' vt' (sealL l m.fm b) (mmR m ss))) h3 hm h.nok hn h1 h2 hb (fun w1 ev vp' vt' h4=> ?_);have h5:=hk w1 (sealL l m.fm b) (bysR ev (givE l m.fm b)::rnR rn vp' vt' (sealL l m.fm b) (mmR m ss)) (zhv h.nok (zgx hb h1 h2)) (h4.perm ((List.perm_append_comm (l₁:=[_]) (l₂:=[_,_])).append_right _));refine (HT w1 ev vp' vt' h5).mono ?_;rintro e w' ⟨he,h6⟩;exact ⟨he,vp',vt',h6.drop⟩
end
section
variable {B:Nat} {w0 w W W':World} {ss rs:List Res} {x:Np} {s s':Ns} {l l':Nt} {rn:Nat} {vp:Value} {vt:Rn}
end
theorem zny {α β:Type} (g:α→List β) (n:Nat): ∀(l:List α) (_: ∀a∈l,(g a).length=n) (k j:Nat) (hk:k<l.length),j<n→(l.flatMap g)[k*n+j]?=(g l[k])[j]?
 | [],_,k,j,hk,_=>by simp at hk
 | a::l,hg,0,j,hk,hj=>by
  rw [List.flatMap_cons,List.getElem?_append_left (by rw [hg a (by simp)];omega)];simp
 | a::l,hg,k+1,j,hk,hj=>by
  have ha:=hg a (by simp);rw [List.flatMap_cons,List.getElem?_append_right (by rw [ha,Nat.succ_mul];omega),ha];rw [show (k+1)*n+j-n=k*n+j by rw [Nat.succ_mul];omega];rw [zny g n l (fun b hb=>hg b (by simp [hb])) k j (by simpa using hk) hj];simp
theorem zzd {l:List Td} {r:Rq} {k:Nat} (hk:k≤l.length) (h1: ∀(j:Nat) (hj:j<l.length),j<k→cmpRq l[j].r r<0) (h2: ∀(h:k<l.length),¬cmpRq l[k].r r<0):tabK l r=k:=by
 unfold tabK
 induction l generalizing k with
 | nil=>simp at hk;simp [hk]
 | cons t l ih=>
  rw [List.takeWhile_cons];cases k with
  | zero=>
   have:=h2 (by simp);simp only [List.getElem_cons_zero] at this;rw [if_neg (by simpa using this)];rfl
  | succ k=>
   have h0:=h1 0 (by simp) (by omega);simp only [List.getElem_cons_zero] at h0;rw [if_pos (by simpa using h0),List.length_cons];have:=ih (k:=k) (by simpa using hk) (fun j hj hjk=>by have:=h1 (j+1) (by simpa using hj) (by omega);simpa using this) (fun h=>by have:=h2 (by simpa using h);simpa using this);rw [this]
structure TbAt (w:World) (tb f:Nat) (cl:Int) (v:Value) (l:List Td):Prop where
 o:w.heap[tb]?=some (tabOb f cl v)
 r:Reads w v 21 l.length (l.flatMap tdC)
 b: ∀t∈l,(tdC t).length=21
theorem TbAt.upd {w w':World} {tb f:Nat} {cl:Int} {v:Value} {l:List Td} (h:TbAt w tb f cl v l) (hu:Upd [] w w'):TbAt w' tb f cl v l:=⟨(hu.block tb (block_lt h.o) (by simp)).trans h.o,h.r.upd hu (by simp),h.b⟩
abbrev RqAt (w:World) (b o:Nat) (r:Rq):Prop:=w.cell? ⟨b,o,none⟩=some (.int .i64 r.client)∧w.cell? ⟨b,o+1,none⟩=some (.int .i64 r.time)∧w.cell? ⟨b,o+2,none⟩=some (.int .i64 r.kind)∧w.cell? ⟨b,o+3,none⟩=some (.int .i64 r.key)∧w.cell? ⟨b,o+4,none⟩=some (.int .i64 r.val)∧w.cell? ⟨b,o+5,none⟩=some (.int .i64 r.sl)
theorem tb_rq {w:World} {tb f:Nat} {cl:Int} {v:Value} {l:List Td} (h:TbAt w tb f cl v l) {k:Nat} (hk:k<l.length): ∃b o cap,v= .slice (some ⟨b,o,none⟩) l.length cap∧RqAt w b (o+k*21) l[k].r:=by
 obtain ⟨ao,cap,hv,-,-,-,-,hc⟩:=h.r;obtain ⟨b,o,rfl,-,hcell⟩:=hc (by omega);refine ⟨b,o,cap,hv,?_⟩;have g: ∀j,j<21→w.cell? ⟨b,o+k*21+j,none⟩=(tdC l[k])[j]?:=fun j hj=>by
  have:=hcell (k*21+j) (by omega);rw [zny tdC 21 l h.b k j hk hj,←Nat.add_assoc] at this;exact this
 exact ⟨g 0 (by omega),g 1 (by omega),g 2 (by omega),g 3 (by omega),g 4 (by omega),g 5 (by omega)⟩
abbrev AtP (w':World) (tb b o q:Nat) (v:Value) (a r:Rq):Prop:=w'.cell? ⟨tb,2,none⟩=some v∧RqAt w' b o a∧RqAt w' q 0 r
section
variable {W:World} {tb f:Nat} {cl:Int} {v:Value} {l:List Td}
theorem zue (h:TbAt W tb f cl v l) (hn:l.length≤1000000) (r:Rq):
  Calls Tryz.prog 223 #[ptrV tb,rqAgg r] W fun e w'=>e= .returned (.tuple #[.int .i64 (tabK l r),.bool (tabIs l r)])∧Upd [] W w':=by
 have hua:Upd [] W (W.alloc (rqO r)):=(Upd.refl [] W).alloc _;have hb:(W.alloc (rqO r)).heap[W.heap.size]?=some (rqO r):=heap_alloc_new W _;have HT:=zq (h.upd hua);have HUA:=zq hua;have HB:=zq hb;have hqt:Hid (tb<W.heap.size):=zq (block_lt h.o);obtain ⟨ao,cap,rfl,hcap,-⟩:=h.r;clear h hua hb;unfold rqAgg;go_enter Tryz.func223,Tryz.ntmps223
 go_wp2_with fail
 go_loopw [6] (fun i wr=> ∃k:Nat,k≤l.length∧i= .int .i64 k∧Hid (∀(j:Nat) (hj:j<l.length),j<k→cmpRq l[j].r r<0)∧Hid (Upd [] (W.alloc (rqO r)) wr)) (fun i _=>l.length-(intOf i).toNat)
 case atStart=>exact ⟨0,by omega,rfl,zq (fun j hj h=>by omega),zq (Upd.refl _ _)⟩
 case round=>
  obtain ⟨k,hk,rfl,HC,HU⟩:=hrel;have hT:=HT.out.upd HU.out;have hB:wr.heap[W.heap.size]?=some (rqO r):=(HU.out.block _ (block_lt HB.out) (by simp)).trans HB.out;have x2:wr.cell? ⟨tb,2,none⟩=some (.slice ao l.length cap):=zaa hT.o 2 rfl;have hk0:(0:Int)≤k:=by omega
  have hkB:(k:Int)≤1000000:=by omega
  by_cases hlt:k<l.length
  ·have hkI:(k:Int)<(l.length:Int):=by omega
   obtain ⟨b,o,cap',hv,hq⟩:=tb_rq hT hlt;simp only [Value.slice.injEq,true_and] at hv;obtain ⟨rfl,rfl⟩:=hv;have hr:RqAt wr W.heap.size 0 r:=⟨zaa hB 0 rfl,zaa hB 1 rfl,zaa hB 2 rfl,zaa hB 3 rfl,zaa hB 4 rfl,zaa hB 5 rfl⟩;have d0:AtP wr.drew tb b (o+k*21) W.heap.size (.slice (some ⟨b,o,none⟩) l.length cap) l[k].r r:=⟨x2,hq,hr⟩;have HCC:=zq (zib l[k].r r);clear hq hr hT hB;obtain ⟨cv,hcv⟩: ∃cv,cv=cmpRq l[k].r r:=⟨_,rfl⟩;rw [←hcv] at HCC;have HCV:=zq hcv;clear hcv;unfold rqAgg at HCC;have HE:Hid (∀w',Upd [] wr.drew w'→AtP w' tb b (o+k*21) W.heap.size (.slice (some ⟨b,o,none⟩) l.length cap) l[k].r r):=zq (fun w' hu=>⟨zaj hu d0.1,⟨zaj hu d0.2.1.1,zaj hu d0.2.1.2.1,zaj hu d0.2.1.2.2.1,zaj hu d0.2.1.2.2.2.1,zaj hu d0.2.1.2.2.2.2.1,zaj hu d0.2.1.2.2.2.2.2⟩,⟨zaj hu d0.2.2.1,zaj hu d0.2.2.2.1,zaj hu d0.2.2.2.2.1,zaj hu d0.2.2.2.2.2.1,zaj hu d0.2.2.2.2.2.2.1,zaj hu d0.2.2.2.2.2.2.2⟩⟩);generalize hga:l[k].r=a at*;have HGA:=zq hga;clear hga
   go_wp2_with fail
   go_region_held3 (fun w'=>AtP w' tb b (o+k*21) W.heap.size (.slice (some ⟨b,o,none⟩) l.length cap) a r)
    (first | (with_reducible exact d0) | (with_reducible exact e0))
    (first | (go_at_call 257;refine (HCC.out _).mono ?_;rintro e w3 ⟨rfl,hu3⟩;have e0:=HE.out w3 hu3;have HU3:=zq (HU.out.drew.trans hu3);clear hu3))
   by_cases hneg:cv<0
   ·have hd:decide (cv<0)=true:=by simpa using hneg
    rw [hd];clear hd d0 e0 x2
    go_wp2_with fail
    go_roundw
    case rel=>exact ⟨k+1,by omega,by go_num,zq (fun j hj hjk=>by
     by_cases h:j=k
     ·subst h;have h1:=HCV.out;rw [←HGA.out] at h1;omega
     ·exact HC.out j hj (by omega)),HU3⟩
    case measure=>simp [intOf];omega
   ·have hd:decide (cv<0)=false:=by simpa using hneg
    rw [hd];have HK:=zq (zzd hk HC.out (fun h=>by have h1:=HCV.out;rw [←HGA.out] at h1;omega));have HTI:Hid (tabIs l r=decide (a=r)):=zq (by unfold tabIs;rw [HK.out,List.getElem?_eq_getElem hlt];simp only;rw [HGA.out]);have heq: ∀wx,(Op.equalIn 10000 38 (rqAgg a) (rqAgg r)).run Tryz.prog wx= .ok (decide (a=r)) wx:=fun wx=>zcx a r wx;unfold rqAgg at heq;generalize decide (a=r)=eb at*;obtain ⟨p2,⟨p3,p4,p5,p6,p7,p8⟩,p9,p10,p11,p12,p13,p14⟩:=e0;clear hd d0 x2
    go_wp2_with fail
    go_quiet (fail)
    go_wp2_with fail
    refine bodyPost_ret (v:= .tuple #[.int .i64 k,.bool eb]) (by simp [results,Tryz.results223,go_sem]) rfl ?_;rw [HK.out,HTI.out];exact ⟨rfl,(HUA.out.trans HU3.out).drewN _⟩
  ·have hkI:decide ((k:Int)<(l.length:Int))=false:=by simp;omega
   have hke:k=l.length:=by omega
   have HK:=zq (zzd hk HC.out (fun h=>by omega));have HKE:=zq hke;clear hT hB hke
   go_wp2_with fail
   go_quiet (fail)
   go_wp2_with fail
   go_quiet (fail)
   go_wp2_with fail
   refine bodyPost_ret (v:= .tuple #[.int .i64 k,.bool false]) (by simp [results,Tryz.results223,go_sem]) rfl ?_;have HTI:tabIs l r=false:=by unfold tabIs;rw [HK.out,List.getElem?_eq_none (by have:=HKE.out;omega)]
   rw [HK.out,HTI];exact ⟨rfl,((HUA.out.trans HU.out).drewN _).drewN _⟩
end
theorem zng {t:Td} (h:(tdC t).length=21):(tdC t)[19]?=some (.bool t.ready)∧(tdC t)[20]?=some (.int .i64 t.since):=by
 have hb:t.by_.length=13:=by
  unfold tdC zas at h;simp at h;omega
 unfold tdC zas;refine ⟨?_,?_⟩
 ·rw [List.getElem?_append_right (by simp),List.getElem?_append_right (by simp;omega)]
  simp [hb]
 ·rw [List.getElem?_append_right (by simp),List.getElem?_append_right (by simp;omega)]
  simp [hb]
theorem tb_td {w:World} {tb f:Nat} {cl:Int} {v:Value} {l:List Td} (h:TbAt w tb f cl v l) {k:Nat} (hk:k<l.length): ∃b o cap,v= .slice (some ⟨b,o,none⟩) l.length cap∧w.cell? ⟨b,o+k*21+19,none⟩=some (.bool l[k].ready)∧w.cell? ⟨b,o+k*21+20,none⟩=some (.int .i64 l[k].since):=by
 obtain ⟨ao,cap,hv,-,-,-,-,hc⟩:=h.r;obtain ⟨b,o,rfl,-,hcell⟩:=hc (by omega);refine ⟨b,o,cap,hv,?_⟩;have g: ∀j,j<21→w.cell? ⟨b,o+k*21+j,none⟩=(tdC l[k])[j]?:=fun j hj=>by
  have:=hcell (k*21+j) (by omega);rw [zny tdC 21 l h.b k j hk hj,←Nat.add_assoc] at this;exact this
 obtain ⟨g1,g2⟩:=zng (h.b _ (List.getElem_mem hk));exact ⟨(g 19 (by omega)).trans g1,(g 20 (by omega)).trans g2⟩
theorem zub {l:List Td} {r:Rq} (h:tabIs l r=true): ∃hk:tabK l r<l.length,l[tabK l r].r=r:=by
 unfold tabIs at h;cases hg:l[tabK l r]? with
 | none=>rw [hg] at h;simp at h
 | some t=>
  rw [hg] at h;obtain ⟨hk,e⟩:=List.getElem?_eq_some_iff.1 hg;exact ⟨hk,by rw [e];simpa using h⟩
theorem since_no {l:List Td} {r:Rq} (hb:tabIs l r=false):zbd l r=none:=by
 unfold zbd;unfold tabIs at hb;cases hg:l[tabK l r]? with
 | none=>rfl
 | some t=>
  rw [hg] at hb;simp only [decide_eq_false_iff_not] at hb;simp [hb]
theorem zxb {l:List Td} {r:Rq} (hk:tabK l r<l.length) (hr:l[tabK l r].r=r):zbd l r=if l[tabK l r].ready then some l[tabK l r].since else none:=by
 unfold zbd;rw [List.getElem?_eq_getElem hk];simp [hr]
section
variable {W:World} {tb f:Nat} {cl:Int} {v:Value} {l:List Td}
theorem zqo (h:TbAt W tb f cl v l) (hn:l.length≤1000000) (r:Rq):
  Calls Tryz.prog 170 #[ptrV tb,rqAgg r] W fun e w'=>e= .returned (.tuple #[.int .i64 ((zbd l r).getD 0),.bool (zbd l r).isSome])∧Upd [] W w':=by
 have hua:Upd [] W (W.alloc (rqO r)):=(Upd.refl [] W).alloc _;have hb:(W.alloc (rqO r)).heap[W.heap.size]?=some (rqO r):=heap_alloc_new W _;have HT:=zq (h.upd hua);have HUA:=zq hua;have x0:=zaa hb 0 rfl;have x1:=zaa hb 1 rfl;have x2:=zaa hb 2 rfl;have x3:=zaa hb 3 rfl;have x4:=zaa hb 4 rfl;have x5:=zaa hb 5 rfl;have HA:=zq (zue HT.out hn r);obtain ⟨ao,cap,rfl,hcap,-⟩:=h.r;clear h hua hb;unfold rqAgg at HA⊢;generalize hts:zbd l r=ts;have HTS:=zq hts;clear hts;go_enter Tryz.func170,Tryz.ntmps170
 go_wp2_with fail
 refine HA.out.mono ?_;rintro e w3 ⟨rfl,hu3⟩;have HU3:=zq (HUA.out.trans hu3);have hT:=HT.out.upd hu3;have y2:w3.cell? ⟨tb,2,none⟩=some (.slice ao l.length cap):=zaa hT.o 2 rfl;clear x0 x1 x2 x3 x4 x5 hu3 HA;cases hb:tabIs l r with
 | false=>
  obtain rfl:ts=none:=HTS.out.symm.trans (since_no hb);clear hb hT
  go_wp2_with fail
  refine bodyPost_ret (v:= .tuple #[.int .i64 0,.bool false]) (by simp [results,Tryz.results170,go_sem]) rfl ⟨rfl,HU3.out⟩
 | true=>
  obtain ⟨hk,hr⟩:=zub hb;obtain ⟨b,o,cap',hv,q19,q20⟩:=tb_td hT hk;simp only [Value.slice.injEq,true_and] at hv;obtain ⟨rfl,rfl⟩:=hv;have hs:ts=if l[tabK l r].ready then some l[tabK l r].since else none:=HTS.out.symm.trans (zxb hk hr)
  have HS:=zq hs;clear HTS;generalize l[tabK l r]=t at*;generalize tabK l r=k at*;have hkI:(k:Int)<(l.length:Int):=by omega
  have hk0:(0:Int)≤k:=by omega
  clear hb hs hT hr;cases hd:t.ready with
  | false=>
   rw [hd] at q19;have HD:=zq hd;clear hd;obtain rfl:ts=none:=by rw [HS.out,HD.out];rfl
   go_wp2_with fail
   refine bodyPost_ret (v:= .tuple #[.int .i64 0,.bool false]) (by simp [results,Tryz.results170,go_sem]) rfl ⟨rfl,HU3.out⟩
  | true=>
   rw [hd] at q19;have HD:=zq hd;clear hd;obtain rfl:ts=some t.since:=by rw [HS.out,HD.out];rfl
   go_wp2_with fail
   refine bodyPost_ret (v:= .tuple #[.int .i64 t.since,.bool true]) (by simp [results,Tryz.results170,go_sem]) rfl ⟨rfl,HU3.out⟩
end
theorem zty {w:World} {b o:Nat} {bl:List Bool} (h: ∀j,j<13→w.cell? ⟨b,o+j,none⟩=some (.bool (bl.getD j false))) (hl:bl.length=13) (node:Int):
  Calls Tryz.prog 224 #[.pointer (some ⟨b,o,none⟩),.int .i64 node] w fun e w'=>e= .returned (.bool (decide (0≤node)&&bl.getD node.toNat false))∧w=w':=by
 obtain ⟨res,hres⟩: ∃res,res=(decide (0≤node)&&bl.getD node.toNat false):=⟨_,rfl⟩;rw [←hres];by_cases h0:0≤node
 ·obtain ⟨n,rfl⟩: ∃n:Nat,node=n:=⟨node.toNat,by omega⟩
  by_cases h1:n<13
  ·have hc:=h n h1
   have g1:(n:Int)≤12:=by omega
   have g2:(n:Int)<13:=by omega
   have HR:Hid (res=bl.getD n false):=zq (by rw [hres];simp);clear h hres;generalize bl.getD n false=c at*;go_enter Tryz.func224,Tryz.ntmps224
   go_wp2_with fail
   go_ret
   exact ⟨by rw [HR.out];rfl,rfl⟩
  ·have g1:decide ((n:Int)≤12)=false:=by simp;omega
   have HR:Hid (res=false):=zq (by rw [hres,List.getD_eq_getElem?_getD,List.getElem?_eq_none (by simp;omega)];simp);clear h hres;go_enter Tryz.func224,Tryz.ntmps224
   go_wp2_with fail
   go_ret
   exact ⟨by rw [HR.out];rfl,rfl⟩
 ·have g1:decide ((0:Int)≤node)=false:=by simp;omega
  have HR:Hid (res=false):=zq (by rw [hres,g1];rfl);clear h hres;go_enter Tryz.func224,Tryz.ntmps224
  go_wp2_with fail
  go_ret
  exact ⟨by rw [HR.out];rfl,rfl⟩
theorem td_by {t:Td} (h:(tdC t).length=21):t.by_.length=13∧ ∀j,j<13→(tdC t)[6+j]?=some (.bool (t.by_.getD j false)):=by
 have hb:t.by_.length=13:=by
  unfold tdC zas at h;simp at h;omega
 refine ⟨hb,fun j hj=> ?_⟩;unfold tdC zas;rw [List.getElem?_append_right (by simp),List.getElem?_append_left (by simp;omega)];simp only [List.length_cons,List.length_nil,List.getElem?_map];rw [show 6+j-(0+1+1+1+1+1+1)=j by omega,List.getD_eq_getElem?_getD,List.getElem?_eq_getElem (by omega)];rfl
theorem tb_by {w:World} {tb f:Nat} {cl:Int} {v:Value} {l:List Td} (h:TbAt w tb f cl v l) {k:Nat} (hk:k<l.length): ∃b o cap,v= .slice (some ⟨b,o,none⟩) l.length cap∧l[k].by_.length=13∧ ∀j,j<13→w.cell? ⟨b,o+k*21+6+j,none⟩=some (.bool (l[k].by_.getD j false)):=by
 obtain ⟨ao,cap,hv,-,-,-,-,hc⟩:=h.r;obtain ⟨b,o,rfl,-,hcell⟩:=hc (by omega);obtain ⟨g1,g2⟩:=td_by (h.b _ (List.getElem_mem hk));refine ⟨b,o,cap,hv,g1,fun j hj=> ?_⟩;have:=hcell (k*21+(6+j)) (by omega);rw [zny tdC 21 l h.b k (6+j) hk (by omega),←Nat.add_assoc,←Nat.add_assoc] at this;exact this.trans (g2 j hj)
theorem has_no {l:List Td} {r:Rq} {node:Int} (hb:tabIs l r=false):zhy l r node=false:=by
 unfold zhy;unfold tabIs at hb;cases hg:l[tabK l r]? with
 | none=>rfl
 | some t=>
  rw [hg] at hb;simp only at hb⊢;rw [hb];rfl
theorem has_yes {l:List Td} {r:Rq} {node:Int} (hk:tabK l r<l.length) (hr:l[tabK l r].r=r):zhy l r node=(decide (0≤node)&&l[tabK l r].by_.getD node.toNat false):=by
 unfold zhy;rw [List.getElem?_eq_getElem hk];simp [hr]
section
variable {W:World} {tb f:Nat} {cl:Int} {v:Value} {l:List Td}
theorem zxq (h:TbAt W tb f cl v l) (hn:l.length≤1000000) (r:Rq) (node:Int):
  Calls Tryz.prog 165 #[ptrV tb,rqAgg r,.int .i64 node] W fun e w'=>e= .returned (.bool (zhy l r node))∧Upd [] W w':=by
 have hua:Upd [] W (W.alloc (rqO r)):=(Upd.refl [] W).alloc _;have hb:(W.alloc (rqO r)).heap[W.heap.size]?=some (rqO r):=heap_alloc_new W _;have HT:=zq (h.upd hua);have HUA:=zq hua;have x0:=zaa hb 0 rfl;have x1:=zaa hb 1 rfl;have x2:=zaa hb 2 rfl;have x3:=zaa hb 3 rfl;have x4:=zaa hb 4 rfl;have x5:=zaa hb 5 rfl;have HA:=zq (zue HT.out hn r);obtain ⟨ao,cap,rfl,hcap,-⟩:=h.r;clear h hua hb;unfold rqAgg at HA⊢;generalize hts:zhy l r node=ts;have HTS:=zq hts;clear hts;go_enter Tryz.func165,Tryz.ntmps165
 go_wp2_with fail
 refine HA.out.mono ?_;rintro e w3 ⟨rfl,hu3⟩;have HU3:=zq (HUA.out.trans hu3);have hT:=HT.out.upd hu3;have y2:w3.cell? ⟨tb,2,none⟩=some (.slice ao l.length cap):=zaa hT.o 2 rfl;clear x0 x1 x2 x3 x4 x5 hu3 HA;cases hb:tabIs l r with
 | false=>
  have HF:Hid (ts=false):=zq (HTS.out.symm.trans (has_no hb));clear hb hT
  go_wp2_with fail
  go_ret
  exact ⟨by rw [HF.out];rfl,HU3.out⟩
 | true=>
  obtain ⟨hk,hr⟩:=zub hb;obtain ⟨b,o,cap',hv,hbl,hby⟩:=tb_by hT hk;simp only [Value.slice.injEq,true_and] at hv;obtain ⟨rfl,rfl⟩:=hv;have HS:=zq (HTS.out.symm.trans (has_yes hk hr));have HC:=zq (zty hby hbl node);clear HTS hby hbl;generalize (decide (0≤node)&&l[tabK l r].by_.getD node.toNat false)=res at*;generalize tabK l r=k at*;have hkI:(k:Int)<(l.length:Int):=by omega
  have hk0:(0:Int)≤k:=by omega
  clear hb hT hr
  go_wp2_with fail
  refine HC.out.mono ?_;rintro e w' ⟨rfl,rfl⟩
  go_wp2_with fail
  go_ret
  exact ⟨by rw [HS.out];rfl,HU3.out⟩
end
theorem own_ne {B:Nat} {w0 W:World} {rs:List Res} (h:Own B w0 W rs) (i j:Nat) {r s:Res} (e1:rs[i]?=some r) (e2:rs[j]?=some s) (hij:i<j) {a b:Nat} (ha:a∈r.M) (hb:b∈s.M):a≠b:=fun e=>by
 subst e;obtain ⟨hi,rfl⟩:=List.getElem?_eq_some_iff.1 e1;obtain ⟨hj,rfl⟩:=List.getElem?_eq_some_iff.1 e2;exact (List.pairwise_iff_getElem.1 h.apart) i j hi hj hij a ha hb
section
variable {B:Nat} {w0 w W W':World} {ss rs:List Res} {A:List Nat}
theorem map_getD (st:List (Bool×Int)) (k:Nat) (hk:k<st.length):(st.map Prod.snd).getD k 0=st[k].2:=by simp [List.getD,hk]
end
section
variable {client time kind key val sl:Int} {vs:List Int} {k:Nat}
theorem ap_bad (h:key<0∨64≤key∨val≤ -2147483648∨2147483648≤val):zc8 vs ⟨client,time,kind,key,val,sl⟩=(0,vs):=by unfold zc8;rw [if_pos h]
theorem ap_1 (hk:k<64) (h1: -2147483648<val) (h2:val<2147483648):zc8 vs ⟨client,time,1,k,val,sl⟩=(vs.getD k 0,vs.set k val):=by unfold zc8;rw [if_neg (by simp only;omega),if_pos rfl];simp
theorem ap_2 (hk:k<64) (h1: -2147483648<val) (h2:val<2147483648):zc8 vs ⟨client,time,2,k,val,sl⟩=(vs.getD k 0,vs):=by unfold zc8;rw [if_neg (by simp only;omega),if_neg (by simp),if_pos rfl];simp
theorem ap_3a (hk:k<64) (h1: -2147483648<val) (h2:val<2147483648) (h3: ¬(-2147483648<vs.getD k 0+val∧vs.getD k 0+val<2147483648)):zc8 vs ⟨client,time,3,k,val,sl⟩=(vs.getD k 0,vs):=by
 unfold zc8;rw [if_neg (by simp only;omega),if_neg (by simp),if_neg (by simp),if_pos rfl,if_pos (by simp only [Int.toNat_natCast];omega)];simp
theorem ap_3b (hk:k<64) (h1: -2147483648<val) (h2:val<2147483648) (h3: -2147483648<vs.getD k 0+val∧vs.getD k 0+val<2147483648):zc8 vs ⟨client,time,3,k,val,sl⟩=(vs.getD k 0+val,vs.set k (vs.getD k 0+val)):=by
 unfold zc8;rw [if_neg (by simp only;omega),if_neg (by simp),if_neg (by simp),if_pos rfl,if_neg (by simp only [Int.toNat_natCast];omega)];simp
theorem ap_4 (hk:k<64) (h1: -2147483648<val) (h2:val<2147483648):zc8 vs ⟨client,time,4,k,val,sl⟩=(vs.getD k 0,vs.set k 0):=by
 unfold zc8;rw [if_neg (by simp only;omega),if_neg (by simp),if_neg (by simp),if_neg (by simp),if_pos rfl];simp
theorem ap_5 (hk:k<64) (h1: -2147483648<val) (h2:val<2147483648):zc8 vs ⟨client,time,5,k,val,sl⟩=(sumV vs,vs):=by
 unfold zc8;rw [if_neg (by simp only;omega),if_neg (by simp),if_neg (by simp),if_neg (by simp),if_neg (by simp),if_pos rfl]
theorem ap_6 (hk:k<64) (h1: -2147483648<val) (h2:val<2147483648) (n1:kind≠1) (n2:kind≠2) (n3:kind≠3) (n4:kind≠4) (n5:kind≠5):zc8 vs ⟨client,time,kind,k,val,sl⟩=(0,vs):=by
 unfold zc8;rw [if_neg (by simp only;omega),if_neg n1,if_neg n2,if_neg n3,if_neg n4,if_neg n5]
end
section
variable {B:Nat} {w0 w W W':World} {ss rs:List Res} {p s c g cap n:Nat}
end
theorem zn1: ∀(l:List Int) (a:Int),l.foldl (· + ·) a=a+l.sum
 | [],a=>by simp
 | x::l,a=>by rw [List.foldl_cons,zn1 l,List.sum_cons];omega
theorem sumV_sum (l:List Int):sumV l=l.sum:=by
 unfold sumV;rw [zn1];omega
section
variable {client time kind key val sl:Int} {st:List (Bool×Int)} {k:Nat}
theorem ax_bad (h:key<0∨64≤key∨val≤ -2147483648∨2147483648≤val):zbm st ⟨client,time,kind,key,val,sl⟩=(0,st):=by unfold zbm;rw [if_pos h]
theorem zlj (hs:k<st.length):(st.getD k (false,0)).2=st[k].2:=by simp [List.getD,hs]
theorem ax_1 (hk:k<64) (hs:k<st.length) (h1: -2147483648<val) (h2:val<2147483648):zbm st ⟨client,time,1,k,val,sl⟩=(st[k].2,st.set k (true,val)):=by unfold zbm;rw [if_neg (by simp only;omega)];simp only [Int.toNat_natCast,zlj hs];rw [if_pos trivial]
theorem ax_2 (hk:k<64) (hs:k<st.length) (h1: -2147483648<val) (h2:val<2147483648):zbm st ⟨client,time,2,k,val,sl⟩=(st[k].2,st):=by unfold zbm;rw [if_neg (by simp only;omega)];simp only [Int.toNat_natCast,zlj hs];rw [if_neg (by decide),if_pos trivial]
theorem ax_3a (hk:k<64) (hs:k<st.length) (h1: -2147483648<val) (h2:val<2147483648) (h3: ¬(-2147483648<st[k].2+val∧st[k].2+val<2147483648)):zbm st ⟨client,time,3,k,val,sl⟩=(st[k].2,st):=by unfold zbm;rw [if_neg (by simp only;omega)];simp only [Int.toNat_natCast,zlj hs];rw [if_neg (by decide),if_neg (by decide),if_pos trivial,if_pos h3]
theorem ax_3b (hk:k<64) (hs:k<st.length) (h1: -2147483648<val) (h2:val<2147483648) (h3: -2147483648<st[k].2+val∧st[k].2+val<2147483648):zbm st ⟨client,time,3,k,val,sl⟩=(st[k].2+val,st.set k (true,st[k].2+val)):=by unfold zbm;rw [if_neg (by simp only;omega)];simp only [Int.toNat_natCast,zlj hs];rw [if_neg (by decide),if_neg (by decide),if_pos trivial,if_neg (fun h=>h h3)]
theorem ax_4 (hk:k<64) (hs:k<st.length) (h1: -2147483648<val) (h2:val<2147483648):zbm st ⟨client,time,4,k,val,sl⟩=(st[k].2,st.set k (false,0)):=by unfold zbm;rw [if_neg (by simp only;omega)];simp only [Int.toNat_natCast,zlj hs];rw [if_neg (by decide),if_neg (by decide),if_neg (by decide),if_pos trivial]
theorem ax_5 (hk:k<64) (h1: -2147483648<val) (h2:val<2147483648):zbm st ⟨client,time,5,k,val,sl⟩=(sumV (st.map Prod.snd),st):=by unfold zbm;rw [if_neg (by simp only;omega)];simp only;rw [if_neg (by decide),if_neg (by decide),if_neg (by decide),if_neg (by decide),if_pos trivial,sumV_sum]
theorem ax_6 (hk:k<64) (h1: -2147483648<val) (h2:val<2147483648) (n1:kind≠1) (n2:kind≠2) (n3:kind≠3) (n4:kind≠4) (n5:kind≠5):zbm st ⟨client,time,kind,k,val,sl⟩=(0,st):=by unfold zbm;rw [if_neg (by simp only;omega)];simp only;rw [if_neg n1,if_neg n2,if_neg n3,if_neg n4,if_neg n5]
end
theorem zl8 {st:List (Bool×Int)} (hl:st.length=64) (r:Rq):(zbm st r).1=(zc8 (st.map Prod.snd) r).1∧(zbm st r).2.map Prod.snd=(zc8 (st.map Prod.snd) r).2∧(zbm st r).2.length=64:=by
 obtain ⟨client,time,kind,key,val,sl⟩:=r;by_cases hb:key<0∨64≤key∨val≤ -2147483648∨2147483648≤val
 ·rw [ax_bad hb,ap_bad hb];exact ⟨rfl,rfl,hl⟩
 obtain ⟨k,rfl⟩: ∃k:Nat,key=k:=⟨key.toNat,by omega⟩;have hk:k<64:=by omega
 have hs:k<st.length:=by omega
 have v1: -2147483648<val:=by omega
 have v2:val<2147483648:=by omega
 have hx:=map_getD st k hs;by_cases e1:kind=1
 ·subst e1;rw [ax_1 hk hs v1 v2,ap_1 hk v1 v2,hx];exact ⟨rfl,by rw [List.map_set],by simpa using hl⟩
 by_cases e2:kind=2
 ·subst e2;rw [ax_2 hk hs v1 v2,ap_2 hk v1 v2,hx];exact ⟨rfl,rfl,hl⟩
 by_cases e3:kind=3
 ·subst e3
  by_cases h3: -2147483648<st[k].2+val∧st[k].2+val<2147483648
  ·rw [ax_3b hk hs v1 v2 h3,ap_3b hk v1 v2 (by rw [hx];exact h3),hx];exact ⟨rfl,by rw [List.map_set],by simpa using hl⟩
  ·rw [ax_3a hk hs v1 v2 h3,ap_3a hk v1 v2 (by rw [hx];exact h3),hx];exact ⟨rfl,rfl,hl⟩
 by_cases e4:kind=4
 ·subst e4;rw [ax_4 hk hs v1 v2,ap_4 hk v1 v2,hx];exact ⟨rfl,by rw [List.map_set],by simpa using hl⟩
 by_cases e5:kind=5
 ·subst e5;rw [ax_5 hk v1 v2,ap_5 hk v1 v2];exact ⟨rfl,rfl,hl⟩
 rw [ax_6 hk v1 v2 e1 e2 e3 e4 e5,ap_6 hk v1 v2 e1 e2 e3 e4 e5];exact ⟨rfl,rfl,hl⟩
theorem zno {st:List (Bool×Int)} (hl:st.length=64) (hv:VsOk (st.map Prod.snd)) (r:Rq):VsOk ((zbm st r).2.map Prod.snd):=by
 rw [(zl8 hl r).2.1];exact (zu8 hv r).1
section
variable {B:Nat} {w0 w W W':World} {ss rs:List Res} {A:List Nat}
end
section
variable {B:Nat} {w0 w W W':World} {ss rs:List Res} {c g cap:Nat} {l:List (Int×Int)} {A:List Nat}
end
structure LxS (n:Nat) (st:List (Bool×Int)) (rp:List (Int×Int)):Prop where
 rl:rp.length=n
 sl:st.length=64
 ok:VsOk (st.map Prod.snd)
theorem LxS.step {n:Nat} {st:List (Bool×Int)} {rp:List (Int×Int)} (h:LxS n st rp) (r:Rq) (q:Nat) (v:Int×Int):LxS n (zbm st r).2 (rp.set q v):=
 ⟨by simpa using h.rl,(zl8 h.sl r).2.2,zno h.sl h.ok r⟩
theorem zxl (rs:List Rq) (b:Lp) (l:List En):rs.foldl (fun q r=>((stepL q.1 r).1,q.2++(stepL q.1 r).2)) (b,l)=((zgf b rs).1,l++(zgf b rs).2):=by
 induction rs generalizing b l with
 | nil=>simp [zgf]
 | cons r rs ih=>
  unfold zgf;rw [List.foldl_cons,List.foldl_cons,ih,ih];simp
theorem ziw (b:Lp) (r:Rq) (rs:List Rq):zgf b (r::rs)=((zgf (stepL b r).1 rs).1,(stepL b r).2++(zgf (stepL b r).1 rs).2):=by
 conv=>lhs;unfold zgf
 rw [List.foldl_cons,zxl];simp
theorem stepL_no {n:Nat} {es:List En} {st:List (Bool×Int)} {rp:List (Int×Int)} {r:Rq} (hl:rp.length=n) (h:r.client<0∨(n:Int)≤r.client∨(∃q:Nat,∃hq:q<rp.length,r.client=q∧r.time≤rp[q].1)):stepL ⟨n,es,st,rp⟩ r=(⟨n,es,st,rp⟩,[]):=by
 unfold stepL;rw [if_pos];rcases h with h | h | ⟨q,hq,h,h2⟩
 ·exact .inl h
 ·exact .inr (.inl h)
 ·refine .inr (.inr ?_)
  unfold lastL;simp only;rw [if_pos (by omega),h,Int.toNat_natCast]
  simpa [List.getD,hq] using h2
theorem zxj {n:Nat} {es:List En} {st:List (Bool×Int)} {rp:List (Int×Int)} {r:Rq} {q:Nat} (hl:rp.length=n) (hq:q<rp.length) (h:r.client=q) (h2:rp[q].1<r.time):stepL ⟨n,es,st,rp⟩ r=(⟨n,es,(zbm st r).2,rp.set q (r.time,(zbm st r).1)⟩,[⟨r,(zbm st r).1⟩]):=by
 unfold stepL;rw [if_neg]
 ·simp only [h,Int.toNat_natCast]
 ·simp only
  unfold lastL;simp only;rw [if_pos (by omega),h,Int.toNat_natCast];simp [List.getD,hq];omega
theorem zxi (b:Lp) (r:Rq):(stepL b r).2.length≤1:=by unfold stepL;split<;>simp
theorem zlk (b:Lp) (rs:List Rq):(zgf b rs).2.length≤rs.length:=by
 induction rs generalizing b with
 | nil=>simp [zgf]
 | cons r rs ih=>
  rw [ziw,List.length_append,List.length_cons];have:=zxi b r;have:=ih (stepL b r).1;omega
section
variable {B:Nat} {w0 w W W':World} {ss rs:List Res} {p s c g cap n:Nat}
end
abbrev nilMm (kind fm view inst seq res:Int):Mm:=⟨kind,fm,view,inst,seq,res,.slice none 0 0,[],.slice none 0 0,[],.slice none 0 0,[],.slice none 0 0,[]⟩
theorem zoq (s:Ns) (l:Nt) (c t r:Int):replyS (s,l) c t r=match sealP l (repM s.id c t r) with
 | (none,l')=>(s,l')
 | (some b,l')=>({s with out:=s.out++[(100+c,b)]},l'):=by unfold replyS;simp only;rfl
section
variable {B:Nat} {w0 w W W':World} {ss rs:List Res} {x:Np} {s s':Ns} {l l':Nt}
theorem zwr (kind fm view inst seq res:Int) (h:Own B w0 W rs):Own B w0 W (mmR (nilMm kind fm view inst seq res) rs):=by
 have h1:=zb3 2 (zb3 6 h);have h2:Own B w0 W (ctsR []::_):=h1.mkCts (by simp);have h3:=zb3 5 h2;have h4:Own B w0 W (ptsR []::_):=h3.mkPts (by simp);exact zb3 4 h4
theorem nilMm_ok (kind fm view inst seq res:Int):MmOk (nilMm kind fm view inst seq res):=⟨by simp,by simp,by simp,by simp⟩
end
end Go.Proofs.YtannckelmojkoaaGreat
