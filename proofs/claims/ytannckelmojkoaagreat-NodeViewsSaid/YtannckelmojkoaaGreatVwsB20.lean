/- Parts of the proof, one behind the other. -/
import Derived.Test.YtannckelmojkoaaGreatVwsB19
set_option maxHeartbeats 32000000
set_option maxRecDepth 100000
set_option linter.unusedVariables false
set_option linter.unusedSimpArgs false
namespace Go.Proofs.YtannckelmojkoaaGreat
open Go.RowKit Go.Heap
theorem bytd {w:World} {ao:Option Addr} {cap a:Nat} {bs:Bys} (h:Byt w (.slice ao bs.length cap) bs) (ha:a≤bs.length):Byt w (.slice (ao.map fun x=>x.add a) (bs.length-a) (cap-a)) (bs.drop a):=by
 obtain ⟨⟨ao',cap',e,h1,h2,h3,h4,h5⟩,hb⟩:=h;cases e
 refine ⟨⟨_,_,by rw [List.length_drop],by rw [List.length_drop];omega,by omega,by simp,fun e=> ?_,fun hn=> ?_⟩,fun c hc=>hb c (List.mem_of_mem_drop hc)⟩
 ·cases ao with
  | none=>have:=h4 rfl;rw [List.length_drop];omega
  | some x=>cases e
 ·rw [List.length_drop] at hn
  obtain ⟨b,o,rfl,hlt,hc⟩:=h5 (by omega);refine ⟨b,o+a,?_,hlt,fun j hj=> ?_⟩
  ·simp only [Option.map_some,Option.some.injEq]
   exact addr_add b o a
  ·rw [List.length_drop] at hj
   rw [Nat.add_assoc,hc (a+j) (by omega)];simp
theorem bytd0 {w:World} {ao:Option Addr} {a:Nat} {bs:Bys} (h:Byt w (.slice ao bs.length a) bs) (ha:a≤bs.length) (h0:0<a):Byt w (.slice ao 0 0) (bs.drop a):=by
 obtain ⟨⟨ao',cap',e,h1,h2,h3,h4,h5⟩,hb⟩:=h;cases e
 have hl:bs.length=a:=by omega
 refine ⟨⟨ao,0,by rw [List.length_drop,hl,Nat.sub_self],by rw [List.length_drop];omega,by omega,by simp,fun e=> ?_,fun hn=> ?_⟩,fun c hc=>hb c (List.mem_of_mem_drop hc)⟩
 ·rw [List.length_drop];omega
 ·rw [List.length_drop] at hn;omega
theorem zbf {w:World} {b:Nat} {T:TypeId} {v0 v1 v2 v3 v4 v5 v6 v7 v8 v9:Value} (h:w.heap[b]?=some (.cells #[v0,v1,v2,v3,v4,v5,v6,v7,v8,v9] T (0,0))):w.cell? ⟨b,0,none⟩=some v0∧w.cell? ⟨b,1,none⟩=some v1∧w.cell? ⟨b,2,none⟩=some v2∧w.cell? ⟨b,3,none⟩=some v3∧w.cell? ⟨b,4,none⟩=some v4∧w.cell? ⟨b,5,none⟩=some v5∧w.cell? ⟨b,6,none⟩=some v6∧w.cell? ⟨b,7,none⟩=some v7∧w.cell? ⟨b,8,none⟩=some v8∧w.cell? ⟨b,9,none⟩=some v9∧
  w.frozen? ⟨b,0,none⟩=false∧w.frozen? ⟨b,1,none⟩=false∧w.frozen? ⟨b,2,none⟩=false∧w.frozen? ⟨b,3,none⟩=false∧w.frozen? ⟨b,4,none⟩=false∧w.frozen? ⟨b,5,none⟩=false∧w.frozen? ⟨b,6,none⟩=false∧w.frozen? ⟨b,7,none⟩=false∧w.frozen? ⟨b,8,none⟩=false∧w.frozen? ⟨b,9,none⟩=false:=
 ⟨zaa h 0 rfl,zaa h 1 rfl,zaa h 2 rfl,zaa h 3 rfl,zaa h 4 rfl,zaa h 5 rfl,zaa h 6 rfl,zaa h 7 rfl,zaa h 8 rfl,zaa h 9 rfl,zab h 0,zab h 1,zab h 2,zab h 3,zab h 4,zab h 5,zab h 6,zab h 7,zab h 8,zab h 9⟩
def openP (l:Nt) (f:Nat) (cl:Int) (bs:Bys):Option (Ms×Int):=
 match takeN bs 0 with
 | none=>none
 | some (v,a)=>match zew (bs.drop a) with
  | none=>none
  | some m=>if formP f cl m&&(decide ((m.fm,bs.drop a)∈l)&&(findN l m.fm (bs.drop a)==(v:Int))) then some (m,v) else none
def OpenP (B:Nat) (w0:World) (ss:List Res) (o:Option (Ms×Int)) (e:Ending) (w':World):Prop:=match o with
 | none=>e= .returned (.tuple #[.agg (mmA noMm),.int .i64 0,.int .i64 2])∧Own B w0 w' ss
 | some (m,sl)=> ∃mm:Mm,e= .returned (.tuple #[.agg (mmA mm),.int .i64 sl,.int .i64 0])∧mm.ms=m∧MsOk m∧Own B w0 w' (mmR mm ss)
def NtIn (ss:List Res) (nt nm:Nat) (l:Nt):Prop:=blk nt (noB nm)∈ss∧ntR nm l∈ss
theorem nt_in {B:Nat} {w0 W:World} {rs ss:List Res} {nt nm:Nat} {l:Nt} (h:Own B w0 W rs) (hn:NtIn ss nt nm l) (hs: ∀r∈ss,r∈rs):NtAt W nt nm l:=by
 obtain ⟨i,hi⟩:=List.getElem?_of_mem (hs _ hn.1);obtain ⟨j,hj⟩:=List.getElem?_of_mem (hs _ hn.2);exact nt_at h i j hi hj
theorem zz2 {B:Nat} {w0 W:World} {ss:List Res} {p nm f:Nat} {l:Nt} {cl:Int} {bv:Value} {bs:Bys} (hf1:1≤f) (hf2:f≤4) (hc1:1≤cl) (hc2:cl≤4) (h:Own B w0 W ss) (hb:RdOk w0 B bv bs ss) (hn:NtIn ss p nm l) (hl0:NtOk l):
  Calls Tryz.prog 27 #[bv,.int .i64 f,.int .i64 cl,.pointer (some ⟨p,0,none⟩)] W (OpenP B w0 ss (openP l f cl bs)):=by
 have HB:=zq hb;have hl:=hb.l;obtain ⟨ao,cap,rfl,hcap,hmax⟩:=hb.f;have H0:=zq (h.box (.cells #[.int .i64 0,.int .i64 0,.int .i64 0,.int .i64 0,.int .i64 0,.int .i64 0,.slice none 0 0,.slice none 0 0,.slice none 0 0,.slice none 0 0] 47 (0,0)));have hlI:decide ((65536:Int)<(bs.length:Int))=false:=by simp;omega
 have HT:=zq (zem _ bs 0 _ (HB.out.b H0.out (by simp+contextual)) (by omega) (by omega));have HO:Hid (openP l f cl bs=match takeN bs 0 with | none=>none | some (v,a)=>match zew (bs.drop a) with | none=>none | some m=>if formP f cl m&&(decide ((m.fm,bs.drop a)∈l)&&(findN l m.fm (bs.drop a)==(v:Int))) then some (m,v) else none):=zq rfl
 generalize openP l f cl bs=op at*;clear hb h;go_enter Tryz.func27,Tryz.ntmps27
 go_wp2_with fail
 generalize World.alloc W _=W1 at*;refine HT.out.mono ?_;rintro e w1 ⟨rfl,rfl⟩;clear HT;have b0:=H0.out.blkAt 0 rfl;obtain ⟨x0,x1,x2,x3,x4,x5,x6,x7,x8,x9,z0,z1,z2,z3,z4,z5,z6,z7,z8,z9⟩:=zbf b0;cases ht:takeN bs 0 with
 | none=>
  rw [ht] at HO;simp only at HO;clear ht;have HR:=zq (zcz (v0:= .int .i64 0) (v1:= .int .i64 0) (v2:= .int .i64 0) (v3:= .int .i64 0) (v4:= .int .i64 0) (v5:= .int .i64 0) (v6:= .slice none 0 0) (v7:= .slice none 0 0) (v8:= .slice none 0 0) (v9:= .slice none 0 0) (H0.out))
  go_wp2_with fail
  generalize World.setCell _ _ _=y at*;obtain ⟨f0,f1,f2,f3,f4,f5,f6,f7,f8,f9,-⟩:=zbf (HR.out.blkAt 0 rfl);exact bodyPost_ret (v:= .tuple #[.agg #[.int .i64 0,.int .i64 0,.int .i64 0,.int .i64 0,.int .i64 0,.int .i64 0,.slice none 0 0,.slice none 0 0,.slice none 0 0,.slice none 0 0],.int .i64 0,.int .i64 2]) (by simp [results,Tryz.results27,go_sem,f0,f1,f2,f3,f4,f5,f6,f7,f8,f9]) rfl (by rw [HO.out];exact ⟨rfl,HR.out.drop⟩)
 | some q=>
  obtain ⟨v,a⟩:=q;have hab:=(zds ht).2;rw [ht] at HO;simp only at HO;clear ht;by_cases hca:cap=a
  ·subst hca
   have HBY:Hid (∀w rs,Own B w0 w rs→(∀r∈ss,r∈rs)→Byt w (.slice ao 0 0) (bs.drop cap)):=zq (fun w rs ho hs=>bytd0 (HB.out.b ho hs) (by omega) (by omega));have hfm:=zcl (HBY.out _ _ H0.out (by simp+contextual));have HPA:=zq (zn7 H0.out ⟨fun ho hs=>HBY.out _ _ ho (fun r hr=>hs r (by simp [hr])),hfm,by rw [List.length_drop];omega⟩);have HOK:Hid (∀m,zew (bs.drop cap)=some m→MsOk m):=zq (fun m h=>zsd h);have HDL:Hid (∀c∈bs.drop cap,c<256):=zq ((HBY.out _ _ H0.out (by simp+contextual)).2);have HDN:Hid ((bs.drop cap).length≤100000):=zq (by rw [List.length_drop];omega);clear hfm;generalize zew (bs.drop cap)=po at*
   go_wp2_with fail
   refine HPA.out.mono ?_;intro e w2 hq;clear HPA;clear b0 x0 z0 x1 z1 x2 z2 x3 z3 x4 z4 x5 z5 x6 z6 x7 z7 x8 z8 x9 z9;cases po with
   | none=>
    simp only at HO;obtain ⟨he,ho⟩:=hq;have he:e= .returned (.tuple #[.agg #[.int .i64 0,.int .i64 0,.int .i64 0,.int .i64 0,.int .i64 0,.int .i64 0,.slice none 0 0,.slice none 0 0,.slice none 0 0,.slice none 0 0],.bool false]):=he;subst he;have b0:=ho.blkAt 0 rfl;obtain ⟨x0,x1,x2,x3,x4,x5,x6,x7,x8,x9,z0,z1,z2,z3,z4,z5,z6,z7,z8,z9⟩:=zbf b0;have HR:=zq (zcz (v0:= .int .i64 0) (v1:= .int .i64 0) (v2:= .int .i64 0) (v3:= .int .i64 0) (v4:= .int .i64 0) (v5:= .int .i64 0) (v6:= .slice none 0 0) (v7:= .slice none 0 0) (v8:= .slice none 0 0) (v9:= .slice none 0 0) (ho));clear ho b0
    go_wp2_with fail
    generalize World.setCell _ _ _=y at*;clear x0 z0 x1 z1 x2 z2 x3 z3 x4 z4 x5 z5 x6 z6 x7 z7 x8 z8 x9 z9;have b0:=HR.out.blkAt 0 rfl;obtain ⟨x0,x1,x2,x3,x4,x5,x6,x7,x8,x9,z0,z1,z2,z3,z4,z5,z6,z7,z8,z9⟩:=zbf b0
    go_quiet (fail)
    generalize hy1:World.drewN y _=y1;have HR1:Own B w0 y1 (blk W.heap.size (.cells #[.int .i64 0,.int .i64 0,.int .i64 0,.int .i64 0,.int .i64 0,.int .i64 0,.slice none 0 0,.slice none 0 0,.slice none 0 0,.slice none 0 0] 47 (0,0))::ss):=by rw [←hy1];exact HR.out.upd0 ((Upd.refl _ _).drewN _)
    clear hy1 HR b0 x0 z0 x1 z1 x2 z2 x3 z3 x4 z4 x5 z5 x6 z6 x7 z7 x8 z8 x9 z9;have b0:=HR1.blkAt 0 rfl;obtain ⟨x0,x1,x2,x3,x4,x5,x6,x7,x8,x9,z0,z1,z2,z3,z4,z5,z6,z7,z8,z9⟩:=zbf b0;have HR2:=zq (zcz (v0:= .int .i64 0) (v1:= .int .i64 0) (v2:= .int .i64 0) (v3:= .int .i64 0) (v4:= .int .i64 0) (v5:= .int .i64 0) (v6:= .slice none 0 0) (v7:= .slice none 0 0) (v8:= .slice none 0 0) (v9:= .slice none 0 0) (HR1));clear b0
    go_wp2_with fail
    generalize World.setCell _ _ _=y2 at*;obtain ⟨f0,f1,f2,f3,f4,f5,f6,f7,f8,f9,-⟩:=zbf (HR2.out.blkAt 0 rfl);exact bodyPost_ret (v:= .tuple #[.agg #[.int .i64 0,.int .i64 0,.int .i64 0,.int .i64 0,.int .i64 0,.int .i64 0,.slice none 0 0,.slice none 0 0,.slice none 0 0,.slice none 0 0],.int .i64 0,.int .i64 2]) (by simp [results,Tryz.results27,go_sem,f0,f1,f2,f3,f4,f5,f6,f7,f8,f9]) rfl (by rw [HO.out];exact ⟨rfl,HR2.out.drop⟩)
   | some ms=>
    obtain ⟨mm,he,rfl,ho⟩:=hq;have HMO:=zq (HOK.out _ rfl);have hfr:=(mm_at ho HMO.out).form;obtain ⟨k,fm,vw,it,sq,rs,vb,l6,vv,l7,vc,l8,vp,l9⟩:=mm;obtain ⟨⟨a6,c6,e6⟩,⟨a7,c7,e7⟩,⟨a8,c8,e8⟩,⟨a9,c9,e9⟩⟩:=hfr;simp only at e6 e7 e8 e9;subst e6 e7 e8 e9;have he:e= .returned (.tuple #[.agg #[.int .i64 k,.int .i64 fm,.int .i64 vw,.int .i64 it,.int .i64 sq,.int .i64 rs,.slice a6 l6.length c6,.slice a7 l7.length c7,.slice a8 l8.length c8,.slice a9 l9.length c9],.bool true]):=he;subst he;have ho2:=ho.front 6 rfl rfl;clear ho;have b0:=ho2.blkAt 0 rfl;obtain ⟨x0,x1,x2,x3,x4,x5,x6,x7,x8,x9,z0,z1,z2,z3,z4,z5,z6,z7,z8,z9⟩:=zbf b0;have H3:=zq (zcz (v0:= .int .i64 k) (v1:= .int .i64 fm) (v2:= .int .i64 vw) (v3:= .int .i64 it) (v4:= .int .i64 sq) (v5:= .int .i64 rs) (v6:= .slice a6 l6.length c6) (v7:= .slice a7 l7.length c7) (v8:= .slice a8 l8.length c8) (v9:= .slice a9 l9.length c9) (ho2));clear ho2 b0
    go_wp2_with fail
    generalize World.setCell _ _ _=y at*;clear x0 z0 x1 z1 x2 z2 x3 z3 x4 z4 x5 z5 x6 z6 x7 z7 x8 z8 x9 z9;have hfb:=HMO.out.f0;have hfc:=HMO.out.f1;simp only [Mm.ms] at hfb hfc;have HFO:=zq (zlz f cl _ y.drew hf1 hf2 hc1 hc2 (by show (-9223372036854775000:Int)≤fm;omega) (by show fm≤(9223372036854775000:Int);omega) (mm_at (ss:=ss) H3.out.drew.drop HMO.out));generalize formP f cl _=r at*;have b0:=H3.out.blkAt 0 rfl;obtain ⟨x0,x1,x2,x3,x4,x5,x6,x7,x8,x9,-⟩:=zbf b0
    go_upto_region 7 with fail
    refine Held.wp_held2 [(W.heap.size,0,[.int .i64 k,.int .i64 fm,.int .i64 vw,.int .i64 it,.int .i64 sq,.int .i64 rs,.slice a6 l6.length c6,.slice a7 l7.length c7,.slice a8 l8.length c8,.slice a9 l9.length c9]),(W.heap.size,1,[.int .i64 fm])] [(3,0),(12,1)] [17] [(7,true),(11,false)] (by kernel_rfl) (by kernel_rfl) ⟨⟨x0,x1,x2,x3,x4,x5,x6,x7,x8,x9,trivial⟩,⟨x1,trivial⟩,trivial⟩ ?_;simp only [Held.cutAt,Held.walk,List.take_succ_cons,List.take_zero,List.drop_succ_cons,List.drop_zero]
    go_wp2_with fail
    refine HFO.out.mono ?_;rintro e w3 ⟨rfl,hu⟩;have H4:=zq (H3.out.drew.upd0 hu);clear hu HFO b0 x0 x1 x2 x3 x4 x5 x6 x7 x8 x9;have b0:=H4.out.blkAt 0 rfl;obtain ⟨x0,x1,x2,x3,x4,x5,x6,x7,x8,x9,-⟩:=zbf b0
    go_wp2_with fail
    refine ⟨⟨⟨x0,x1,x2,x3,x4,x5,x6,x7,x8,x9,trivial⟩,⟨x1,trivial⟩,trivial⟩,?_⟩;cases r with
    | false=>
     simp only [Bool.false_and,Bool.false_eq_true,if_false] at HO
     go_wp2_with fail
     refine ⟨trivial,?_⟩
     go_wp2_with fail
     refine ⟨trivial,by rfl,⟨.inr ⟨⟨rfl,.inr ⟨by kernel_rfl,by kernel_rfl⟩⟩,trivial⟩,.inl ⟨rfl,rfl⟩,trivial⟩,?_⟩;clear b0 x0 x1 x2 x3 x4 x5 x6 x7 x8 x9;have b0:=H4.out.blkAt 0 rfl;obtain ⟨x0,x1,x2,x3,x4,x5,x6,x7,x8,x9,z0,z1,z2,z3,z4,z5,z6,z7,z8,z9⟩:=zbf b0;have HR:=zq (zcz (v0:= .int .i64 0) (v1:= .int .i64 0) (v2:= .int .i64 0) (v3:= .int .i64 0) (v4:= .int .i64 0) (v5:= .int .i64 0) (v6:= .slice none 0 0) (v7:= .slice none 0 0) (v8:= .slice none 0 0) (v9:= .slice none 0 0) (H4.out))
     go_wp2_with fail
     generalize World.setCell _ _ _=y2 at*;obtain ⟨f0,f1,f2,f3,f4,f5,f6,f7,f8,f9,-⟩:=zbf (HR.out.blkAt 0 rfl);exact bodyPost_ret (v:= .tuple #[.agg #[.int .i64 0,.int .i64 0,.int .i64 0,.int .i64 0,.int .i64 0,.int .i64 0,.slice none 0 0,.slice none 0 0,.slice none 0 0,.slice none 0 0],.int .i64 0,.int .i64 2]) (by simp [results,Tryz.results27,go_sem,f0,f1,f2,f3,f4,f5,f6,f7,f8,f9]) rfl (by rw [HO.out];exact ⟨rfl,HR.out.drop.drop.drop.drop.drop.drop.drop⟩)
    | true=>
     simp only [Bool.true_and] at HO;have hsk:SOk (fm,bs.drop cap):=⟨by show _≤fm;omega,by show fm≤_;omega,HDL.out,HDN.out⟩;have HCK:=zq (zgj (sl:=(v:Int)) (nt_in H4.out hn (by simp+contextual)) hl0 hsk (HBY.out _ _ H4.out (by simp+contextual)));rw [show (Mm.ms ⟨k,fm,vw,it,sq,rs,.slice a6 l6.length c6,l6,.slice a7 l7.length c7,l7,.slice a8 l8.length c8,l8,.slice a9 l9.length c9,l9⟩).fm=fm from rfl] at HO;generalize (decide ((fm,bs.drop cap)∈l)&&(findN l fm (bs.drop cap)==(v:Int)))=q at*
     go_wp2_with fail
     refine HCK.out.mono ?_;rintro e w4 ⟨rfl,hu⟩;have H5:=zq (H4.out.upd0 hu);clear hu HCK;cases q with
     | false=>
      simp only [Bool.false_eq_true,if_false] at HO
      go_wp2_with fail
      refine ⟨trivial,?_⟩
      go_wp2_with fail
      refine ⟨trivial,by rfl,⟨.inr ⟨⟨rfl,.inr ⟨by kernel_rfl,by kernel_rfl⟩⟩,trivial⟩,.inr ⟨⟨rfl,.inl ⟨by kernel_rfl,rfl⟩⟩,trivial⟩,trivial⟩,?_⟩;clear b0 x0 x1 x2 x3 x4 x5 x6 x7 x8 x9;have b0:=H5.out.blkAt 0 rfl;obtain ⟨x0,x1,x2,x3,x4,x5,x6,x7,x8,x9,z0,z1,z2,z3,z4,z5,z6,z7,z8,z9⟩:=zbf b0;have HR:=zq (zcz (v0:= .int .i64 0) (v1:= .int .i64 0) (v2:= .int .i64 0) (v3:= .int .i64 0) (v4:= .int .i64 0) (v5:= .int .i64 0) (v6:= .slice none 0 0) (v7:= .slice none 0 0) (v8:= .slice none 0 0) (v9:= .slice none 0 0) (H5.out))
      go_wp2_with fail
      generalize World.setCell _ _ _=y2 at*;obtain ⟨f0,f1,f2,f3,f4,f5,f6,f7,f8,f9,-⟩:=zbf (HR.out.blkAt 0 rfl);exact bodyPost_ret (v:= .tuple #[.agg #[.int .i64 0,.int .i64 0,.int .i64 0,.int .i64 0,.int .i64 0,.int .i64 0,.slice none 0 0,.slice none 0 0,.slice none 0 0,.slice none 0 0],.int .i64 0,.int .i64 2]) (by simp [results,Tryz.results27,go_sem,f0,f1,f2,f3,f4,f5,f6,f7,f8,f9]) rfl (by rw [HO.out];exact ⟨rfl,HR.out.drop.drop.drop.drop.drop.drop.drop⟩)
     | true=>
      simp only [if_true] at HO
      go_wp2_with fail
      refine ⟨trivial,?_⟩
      go_wp2_with fail
      refine ⟨trivial,by rfl,⟨.inr ⟨⟨rfl,.inr ⟨by kernel_rfl,by kernel_rfl⟩⟩,trivial⟩,.inr ⟨⟨rfl,.inl ⟨by kernel_rfl,rfl⟩⟩,trivial⟩,trivial⟩,?_⟩;clear b0 x0 x1 x2 x3 x4 x5 x6 x7 x8 x9;have b0:=H5.out.blkAt 0 rfl;obtain ⟨x0,x1,x2,x3,x4,x5,x6,x7,x8,x9,z0,z1,z2,z3,z4,z5,z6,z7,z8,z9⟩:=zbf b0;have HR:=zq (zcz (v0:= .int .i64 k) (v1:= .int .i64 fm) (v2:= .int .i64 vw) (v3:= .int .i64 it) (v4:= .int .i64 sq) (v5:= .int .i64 rs) (v6:= .slice a6 l6.length c6) (v7:= .slice a7 l7.length c7) (v8:= .slice a8 l8.length c8) (v9:= .slice a9 l9.length c9) (H5.out))
      go_wp2_with fail
      generalize World.setCell _ _ _=y2 at*;obtain ⟨f0,f1,f2,f3,f4,f5,f6,f7,f8,f9,-⟩:=zbf (HR.out.blkAt 0 rfl);exact bodyPost_ret (v:= .tuple #[.agg #[.int .i64 k,.int .i64 fm,.int .i64 vw,.int .i64 it,.int .i64 sq,.int .i64 rs,.slice a6 l6.length c6,.slice a7 l7.length c7,.slice a8 l8.length c8,.slice a9 l9.length c9],.int .i64 v,.int .i64 0]) (by simp [results,Tryz.results27,go_sem,f0,f1,f2,f3,f4,f5,f6,f7,f8,f9]) rfl (by rw [HO.out];exact ⟨_,rfl,rfl,HMO.out,HR.out.drop⟩)
  ·
   have HBY:Hid (∀w rs,Own B w0 w rs→(∀r∈ss,r∈rs)→Byt w (.slice (ao.map fun x=>x.add a) (bs.length-a) (cap-a)) (bs.drop a)):=zq (fun w rs ho hs=>bytd (HB.out.b ho hs) (by omega));have hfm:=zcl (HBY.out _ _ H0.out (by simp+contextual));have HPA:=zq (zn7 H0.out ⟨fun ho hs=>HBY.out _ _ ho (fun r hr=>hs r (by simp [hr])),hfm,by rw [List.length_drop];omega⟩);have HOK:Hid (∀m,zew (bs.drop a)=some m→MsOk m):=zq (fun m h=>zsd h);have HDL:Hid (∀c∈bs.drop a,c<256):=zq ((HBY.out _ _ H0.out (by simp+contextual)).2);have HDN:Hid ((bs.drop a).length≤100000):=zq (by rw [List.length_drop];omega);clear hfm;generalize zew (bs.drop a)=po at*
   go_wp2_with fail
   refine HPA.out.mono ?_;intro e w2 hq;clear HPA;clear b0 x0 z0 x1 z1 x2 z2 x3 z3 x4 z4 x5 z5 x6 z6 x7 z7 x8 z8 x9 z9;cases po with
   | none=>
    simp only at HO;obtain ⟨he,ho⟩:=hq;have he:e= .returned (.tuple #[.agg #[.int .i64 0,.int .i64 0,.int .i64 0,.int .i64 0,.int .i64 0,.int .i64 0,.slice none 0 0,.slice none 0 0,.slice none 0 0,.slice none 0 0],.bool false]):=he;subst he;have b0:=ho.blkAt 0 rfl;obtain ⟨x0,x1,x2,x3,x4,x5,x6,x7,x8,x9,z0,z1,z2,z3,z4,z5,z6,z7,z8,z9⟩:=zbf b0;have HR:=zq (zcz (v0:= .int .i64 0) (v1:= .int .i64 0) (v2:= .int .i64 0) (v3:= .int .i64 0) (v4:= .int .i64 0) (v5:= .int .i64 0) (v6:= .slice none 0 0) (v7:= .slice none 0 0) (v8:= .slice none 0 0) (v9:= .slice none 0 0) (ho));clear ho b0
    go_wp2_with fail
    generalize World.setCell _ _ _=y at*;clear x0 z0 x1 z1 x2 z2 x3 z3 x4 z4 x5 z5 x6 z6 x7 z7 x8 z8 x9 z9;have b0:=HR.out.blkAt 0 rfl;obtain ⟨x0,x1,x2,x3,x4,x5,x6,x7,x8,x9,z0,z1,z2,z3,z4,z5,z6,z7,z8,z9⟩:=zbf b0
    go_quiet (fail)
    generalize hy1:World.drewN y _=y1;have HR1:Own B w0 y1 (blk W.heap.size (.cells #[.int .i64 0,.int .i64 0,.int .i64 0,.int .i64 0,.int .i64 0,.int .i64 0,.slice none 0 0,.slice none 0 0,.slice none 0 0,.slice none 0 0] 47 (0,0))::ss):=by rw [←hy1];exact HR.out.upd0 ((Upd.refl _ _).drewN _)
    clear hy1 HR b0 x0 z0 x1 z1 x2 z2 x3 z3 x4 z4 x5 z5 x6 z6 x7 z7 x8 z8 x9 z9;have b0:=HR1.blkAt 0 rfl;obtain ⟨x0,x1,x2,x3,x4,x5,x6,x7,x8,x9,z0,z1,z2,z3,z4,z5,z6,z7,z8,z9⟩:=zbf b0;have HR2:=zq (zcz (v0:= .int .i64 0) (v1:= .int .i64 0) (v2:= .int .i64 0) (v3:= .int .i64 0) (v4:= .int .i64 0) (v5:= .int .i64 0) (v6:= .slice none 0 0) (v7:= .slice none 0 0) (v8:= .slice none 0 0) (v9:= .slice none 0 0) (HR1));clear b0
    go_wp2_with fail
    generalize World.setCell _ _ _=y2 at*;obtain ⟨f0,f1,f2,f3,f4,f5,f6,f7,f8,f9,-⟩:=zbf (HR2.out.blkAt 0 rfl);exact bodyPost_ret (v:= .tuple #[.agg #[.int .i64 0,.int .i64 0,.int .i64 0,.int .i64 0,.int .i64 0,.int .i64 0,.slice none 0 0,.slice none 0 0,.slice none 0 0,.slice none 0 0],.int .i64 0,.int .i64 2]) (by simp [results,Tryz.results27,go_sem,f0,f1,f2,f3,f4,f5,f6,f7,f8,f9]) rfl (by rw [HO.out];exact ⟨rfl,HR2.out.drop⟩)
   | some ms=>
    obtain ⟨mm,he,rfl,ho⟩:=hq;have HMO:=zq (HOK.out _ rfl);have hfr:=(mm_at ho HMO.out).form;obtain ⟨k,fm,vw,it,sq,rs,vb,l6,vv,l7,vc,l8,vp,l9⟩:=mm;obtain ⟨⟨a6,c6,e6⟩,⟨a7,c7,e7⟩,⟨a8,c8,e8⟩,⟨a9,c9,e9⟩⟩:=hfr;simp only at e6 e7 e8 e9;subst e6 e7 e8 e9;have he:e= .returned (.tuple #[.agg #[.int .i64 k,.int .i64 fm,.int .i64 vw,.int .i64 it,.int .i64 sq,.int .i64 rs,.slice a6 l6.length c6,.slice a7 l7.length c7,.slice a8 l8.length c8,.slice a9 l9.length c9],.bool true]):=he;subst he;have ho2:=ho.front 6 rfl rfl;clear ho;have b0:=ho2.blkAt 0 rfl;obtain ⟨x0,x1,x2,x3,x4,x5,x6,x7,x8,x9,z0,z1,z2,z3,z4,z5,z6,z7,z8,z9⟩:=zbf b0;have H3:=zq (zcz (v0:= .int .i64 k) (v1:= .int .i64 fm) (v2:= .int .i64 vw) (v3:= .int .i64 it) (v4:= .int .i64 sq) (v5:= .int .i64 rs) (v6:= .slice a6 l6.length c6) (v7:= .slice a7 l7.length c7) (v8:= .slice a8 l8.length c8) (v9:= .slice a9 l9.length c9) (ho2));clear ho2 b0
    go_wp2_with fail
    generalize World.setCell _ _ _=y at*;clear x0 z0 x1 z1 x2 z2 x3 z3 x4 z4 x5 z5 x6 z6 x7 z7 x8 z8 x9 z9;have hfb:=HMO.out.f0;have hfc:=HMO.out.f1;simp only [Mm.ms] at hfb hfc;have HFO:=zq (zlz f cl _ y.drew hf1 hf2 hc1 hc2 (by show (-9223372036854775000:Int)≤fm;omega) (by show fm≤(9223372036854775000:Int);omega) (mm_at (ss:=ss) H3.out.drew.drop HMO.out));generalize formP f cl _=r at*;have b0:=H3.out.blkAt 0 rfl;obtain ⟨x0,x1,x2,x3,x4,x5,x6,x7,x8,x9,-⟩:=zbf b0
    go_upto_region 7 with fail
    refine Held.wp_held2 [(W.heap.size,0,[.int .i64 k,.int .i64 fm,.int .i64 vw,.int .i64 it,.int .i64 sq,.int .i64 rs,.slice a6 l6.length c6,.slice a7 l7.length c7,.slice a8 l8.length c8,.slice a9 l9.length c9]),(W.heap.size,1,[.int .i64 fm])] [(3,0),(12,1)] [17] [(7,true),(11,false)] (by kernel_rfl) (by kernel_rfl) ⟨⟨x0,x1,x2,x3,x4,x5,x6,x7,x8,x9,trivial⟩,⟨x1,trivial⟩,trivial⟩ ?_;simp only [Held.cutAt,Held.walk,List.take_succ_cons,List.take_zero,List.drop_succ_cons,List.drop_zero]
    go_wp2_with fail
    refine HFO.out.mono ?_;rintro e w3 ⟨rfl,hu⟩;have H4:=zq (H3.out.drew.upd0 hu);clear hu HFO b0 x0 x1 x2 x3 x4 x5 x6 x7 x8 x9;have b0:=H4.out.blkAt 0 rfl;obtain ⟨x0,x1,x2,x3,x4,x5,x6,x7,x8,x9,-⟩:=zbf b0
    go_wp2_with fail
    refine ⟨⟨⟨x0,x1,x2,x3,x4,x5,x6,x7,x8,x9,trivial⟩,⟨x1,trivial⟩,trivial⟩,?_⟩;cases r with
    | false=>
     simp only [Bool.false_and,Bool.false_eq_true,if_false] at HO
     go_wp2_with fail
     refine ⟨trivial,?_⟩
     go_wp2_with fail
     refine ⟨trivial,by rfl,⟨.inr ⟨⟨rfl,.inr ⟨by kernel_rfl,by kernel_rfl⟩⟩,trivial⟩,.inl ⟨rfl,rfl⟩,trivial⟩,?_⟩;clear b0 x0 x1 x2 x3 x4 x5 x6 x7 x8 x9;have b0:=H4.out.blkAt 0 rfl;obtain ⟨x0,x1,x2,x3,x4,x5,x6,x7,x8,x9,z0,z1,z2,z3,z4,z5,z6,z7,z8,z9⟩:=zbf b0;have HR:=zq (zcz (v0:= .int .i64 0) (v1:= .int .i64 0) (v2:= .int .i64 0) (v3:= .int .i64 0) (v4:= .int .i64 0) (v5:= .int .i64 0) (v6:= .slice none 0 0) (v7:= .slice none 0 0) (v8:= .slice none 0 0) (v9:= .slice none 0 0) (H4.out))
     go_wp2_with fail
     generalize World.setCell _ _ _=y2 at*;obtain ⟨f0,f1,f2,f3,f4,f5,f6,f7,f8,f9,-⟩:=zbf (HR.out.blkAt 0 rfl);exact bodyPost_ret (v:= .tuple #[.agg #[.int .i64 0,.int .i64 0,.int .i64 0,.int .i64 0,.int .i64 0,.int .i64 0,.slice none 0 0,.slice none 0 0,.slice none 0 0,.slice none 0 0],.int .i64 0,.int .i64 2]) (by simp [results,Tryz.results27,go_sem,f0,f1,f2,f3,f4,f5,f6,f7,f8,f9]) rfl (by rw [HO.out];exact ⟨rfl,HR.out.drop.drop.drop.drop.drop.drop.drop⟩)
    | true=>
     simp only [Bool.true_and] at HO;have hsk:SOk (fm,bs.drop a):=⟨by show _≤fm;omega,by show fm≤_;omega,HDL.out,HDN.out⟩;have HCK:=zq (zgj (sl:=(v:Int)) (nt_in H4.out hn (by simp+contextual)) hl0 hsk (HBY.out _ _ H4.out (by simp+contextual)));rw [show (Mm.ms ⟨k,fm,vw,it,sq,rs,.slice a6 l6.length c6,l6,.slice a7 l7.length c7,l7,.slice a8 l8.length c8,l8,.slice a9 l9.length c9,l9⟩).fm=fm from rfl] at HO;generalize (decide ((fm,bs.drop a)∈l)&&(findN l fm (bs.drop a)==(v:Int)))=q at*
     go_wp2_with fail
     refine HCK.out.mono ?_;rintro e w4 ⟨rfl,hu⟩;have H5:=zq (H4.out.upd0 hu);clear hu HCK;cases q with
     | false=>
      simp only [Bool.false_eq_true,if_false] at HO
      go_wp2_with fail
      refine ⟨trivial,?_⟩
      go_wp2_with fail
      refine ⟨trivial,by rfl,⟨.inr ⟨⟨rfl,.inr ⟨by kernel_rfl,by kernel_rfl⟩⟩,trivial⟩,.inr ⟨⟨rfl,.inl ⟨by kernel_rfl,rfl⟩⟩,trivial⟩,trivial⟩,?_⟩;clear b0 x0 x1 x2 x3 x4 x5 x6 x7 x8 x9;have b0:=H5.out.blkAt 0 rfl;obtain ⟨x0,x1,x2,x3,x4,x5,x6,x7,x8,x9,z0,z1,z2,z3,z4,z5,z6,z7,z8,z9⟩:=zbf b0;have HR:=zq (zcz (v0:= .int .i64 0) (v1:= .int .i64 0) (v2:= .int .i64 0) (v3:= .int .i64 0) (v4:= .int .i64 0) (v5:= .int .i64 0) (v6:= .slice none 0 0) (v7:= .slice none 0 0) (v8:= .slice none 0 0) (v9:= .slice none 0 0) (H5.out))
      go_wp2_with fail
      generalize World.setCell _ _ _=y2 at*;obtain ⟨f0,f1,f2,f3,f4,f5,f6,f7,f8,f9,-⟩:=zbf (HR.out.blkAt 0 rfl);exact bodyPost_ret (v:= .tuple #[.agg #[.int .i64 0,.int .i64 0,.int .i64 0,.int .i64 0,.int .i64 0,.int .i64 0,.slice none 0 0,.slice none 0 0,.slice none 0 0,.slice none 0 0],.int .i64 0,.int .i64 2]) (by simp [results,Tryz.results27,go_sem,f0,f1,f2,f3,f4,f5,f6,f7,f8,f9]) rfl (by rw [HO.out];exact ⟨rfl,HR.out.drop.drop.drop.drop.drop.drop.drop⟩)
     | true=>
      simp only [if_true] at HO
      go_wp2_with fail
      refine ⟨trivial,?_⟩
      go_wp2_with fail
      refine ⟨trivial,by rfl,⟨.inr ⟨⟨rfl,.inr ⟨by kernel_rfl,by kernel_rfl⟩⟩,trivial⟩,.inr ⟨⟨rfl,.inl ⟨by kernel_rfl,rfl⟩⟩,trivial⟩,trivial⟩,?_⟩;clear b0 x0 x1 x2 x3 x4 x5 x6 x7 x8 x9;have b0:=H5.out.blkAt 0 rfl;obtain ⟨x0,x1,x2,x3,x4,x5,x6,x7,x8,x9,z0,z1,z2,z3,z4,z5,z6,z7,z8,z9⟩:=zbf b0;have HR:=zq (zcz (v0:= .int .i64 k) (v1:= .int .i64 fm) (v2:= .int .i64 vw) (v3:= .int .i64 it) (v4:= .int .i64 sq) (v5:= .int .i64 rs) (v6:= .slice a6 l6.length c6) (v7:= .slice a7 l7.length c7) (v8:= .slice a8 l8.length c8) (v9:= .slice a9 l9.length c9) (H5.out))
      go_wp2_with fail
      generalize World.setCell _ _ _=y2 at*;obtain ⟨f0,f1,f2,f3,f4,f5,f6,f7,f8,f9,-⟩:=zbf (HR.out.blkAt 0 rfl);exact bodyPost_ret (v:= .tuple #[.agg #[.int .i64 k,.int .i64 fm,.int .i64 vw,.int .i64 it,.int .i64 sq,.int .i64 rs,.slice a6 l6.length c6,.slice a7 l7.length c7,.slice a8 l8.length c8,.slice a9 l9.length c9],.int .i64 v,.int .i64 0]) (by simp [results,Tryz.results27,go_sem,f0,f1,f2,f3,f4,f5,f6,f7,f8,f9]) rfl (by rw [HO.out];exact ⟨_,rfl,rfl,HMO.out,HR.out.drop⟩)
structure Vo where
 has:Bool
 view:Int
 sl:Int
def noVo:Vo:=⟨false,0,0⟩
def voC (x:Vo):List Value:=[.bool x.has,.int .i64 x.view,.int .i64 x.sl]
abbrev cvO (f:Nat) (g n cap:Nat):Obj:= .cells #[.int .i64 f,.slice (some ⟨g,0,none⟩) n cap] 247 (0,0)
abbrev cvR (g:Nat) (l:List Vo):Res:=segR g 320 (l.flatMap voC)
def voAt (l:List Vo) (k:Nat):Vo:=l.getD k noVo
def putB (l:List Vo) (node view:Int):Bool:=decide (0≤node)&&(decide (node<l.length)&&(decide (0≤view)&&(decide (view<12)&& !((voAt l node.toNat).has&&decide (view≤(voAt l node.toNat).view)))))
def putL (l:List Vo) (node view sl:Int):List Vo:=if putB l node view then l.set node.toNat ⟨true,view,sl⟩ else l
def eGo (view:Int) (q:Nat):List Vo→Nat→Vs→Vs
 | [],_,acc=>acc
 | x::l,i,acc=>eGo view q l (i+1) (if x.has&&(x.view==view)&&decide (acc.length<q) then acc++[((i:Int),x.sl)] else acc)
def zpm (l:List Vo) (view:Int) (q:Nat):Vs:=eGo view q l 0 []
def dropV (below:Int) (x:Vo):Vo:=if x.has&&decide (x.view<below) then noVo else x
section
variable {B:Nat} {w0 w W W':World} {ss rs:List Res} {vt g cap f:Nat} {l:List Vo}
theorem vo_len (l:List Vo):(l.flatMap voC).length=l.length*3:=by
 induction l with
 | nil=>rfl
 | cons x l ih=>rw [List.flatMap_cons,List.length_append,ih,List.length_cons];show 3+_=_;omega
theorem vo_at {A:List Nat} (h:(cvR g l).At W A) (k:Nat) (hk:k<l.length):W.cell? ⟨g,k*3,none⟩=some (.bool l[k].has)∧W.cell? ⟨g,k*3+1,none⟩=some (.int .i64 l[k].view)∧W.cell? ⟨g,k*3+2,none⟩=some (.int .i64 l[k].sl)∧
  W.frozen? ⟨g,k*3,none⟩=false∧W.frozen? ⟨g,k*3+1,none⟩=false∧W.frozen? ⟨g,k*3+2,none⟩=false:=by
 obtain ⟨-,h2,h3⟩:=zez h;have hj: ∀j,j<3→W.cell? ⟨g,k*3+j,none⟩=(voC l[k])[j]?:=fun j hj=>by
  rw [h2 _ (by rw [vo_len];omega),flat_get (cells:=voC) (sz:=3) (fun _=>rfl) l k j l[k] (by simp) hj]
 exact ⟨hj 0 (by omega),hj 1 (by omega),hj 2 (by omega),h3 _,h3 _,h3 _⟩
theorem zvn (h:Own B w0 W (cvR g l::rs)) (k:Nat) (hk:k<l.length) (x:Vo):Own B w0 (((W.setCell ⟨g,k*3,none⟩ (.bool x.has)).setCell ⟨g,k*3+1,none⟩ (.int .i64 x.view)).setCell ⟨g,k*3+2,none⟩ (.int .i64 x.sl)) (cvR g (l.set k x)::rs):=by
 have h1:=((h.put (k*3+0) (.bool x.has)).put (k*3+1) (.int .i64 x.view)).put (k*3+2) (.int .i64 x.sl);rw [zfv (cells:=voC) (sz:=3) (fun _=>rfl) l k 0 l[k] ⟨x.has,l[k].view,l[k].sl⟩ _ (by simp) (by omega) rfl] at h1;rw [zfv (cells:=voC) (sz:=3) (fun _=>rfl) (l.set k ⟨x.has,l[k].view,l[k].sl⟩) k 1 ⟨x.has,l[k].view,l[k].sl⟩ ⟨x.has,x.view,l[k].sl⟩ _ (by simp [hk]) (by omega) rfl,List.set_set] at h1;rw [zfv (cells:=voC) (sz:=3) (fun _=>rfl) (l.set k ⟨x.has,x.view,l[k].sl⟩) k 2 ⟨x.has,x.view,l[k].sl⟩ x _ (by simp [hk]) (by omega) rfl,List.set_set] at h1;exact h1
abbrev cvL (vt g cap f:Nat) (l:List Vo) (rs:List Res):List Res:=blk vt (cvO f g l.length cap)::cvR g l::rs
end
section
variable {B:Nat} {w0 w W W':World} {ss rs:List Res} {vt g cap f:Nat} {l:List Vo}
def zd7 (below:Int) (l:List Vo) (k:Nat):List Vo:=(l.take k).map (dropV below)++l.drop k
theorem zcx (below:Int) (l:List Vo) (k:Nat):(zd7 below l k).length=l.length:=by simp [zd7];omega
theorem zi0 (below:Int) (l:List Vo) (k:Nat) (hk:k<l.length):(zd7 below l k)[k]'(by rw [zcx];exact hk)=l[k]:=by
 unfold zd7;rw [List.getElem_append_right (by simp;omega)];simp [Nat.min_eq_left (Nat.le_of_lt hk)]
theorem zoz (below:Int) (l:List Vo) (k:Nat) (hk:k<l.length):zd7 below l (k+1)=(zd7 below l k).set k (dropV below l[k]):=by
 refine List.ext_getElem (by simp [zcx]) (fun j h1 h2=> ?_);rw [zcx] at h1;have e: ∀k j (h:j<l.length),(zd7 below l k)[j]'(by rw [zcx];exact h)=if j<k then dropV below l[j] else l[j]:=by
  intro k j h;unfold zd7;by_cases hjk:j<k
  ·rw [if_pos hjk,List.getElem_append_left (by simp;omega)];simp
  ·rw [if_neg hjk,List.getElem_append_right (by simp;omega)]
   simp only [List.length_map,List.length_take,List.getElem_drop];congr 1;omega
 rw [e (k+1) j h1,List.getElem_set];by_cases hkj:k=j
 ·subst hkj;simp
 ·rw [if_neg hkj,e k j h1]
  by_cases hjk:j<k
  ·rw [if_pos hjk,if_pos (by omega)]
  ·rw [if_neg hjk,if_neg (by omega)]
theorem zwp {below:Int} (h:Own B w0 W (cvL vt g cap f l ss)) (hcap:l.length≤cap) (hn:l.length≤100):
  Calls Tryz.prog 226 #[.pointer (some ⟨vt,0,none⟩),.int .i64 below] W fun e w'=> ∃n:Int,e= .returned (.int .i64 n)∧Own B w0 w' (cvL vt g cap f (l.map (dropV below)) ss):=by
 have c1:W.cell? ⟨vt,1,none⟩=some (.slice (some ⟨g,0,none⟩) l.length cap):=zaa h.blk_out 1 rfl;have H0:Hid (Own B w0 W (cvL vt g cap f (zd7 below l 0) ss)):=zq (by simpa [zd7] using h);clear h;go_enter Tryz.func226,Tryz.ntmps226
 go_wp2_with fail
 go_loopw [5,13] (fun nv i wr=> ∃(k n:Nat),k≤l.length∧n≤k∧i= .int .i64 k∧nv= .int .i64 n∧Hid (Own B w0 wr (cvL vt g cap f (zd7 below l k) ss))) (fun _ i _=>l.length-(intOf i).toNat)
 case atStart=>exact ⟨0,0,by omega,by omega,rfl,rfl,H0⟩
 case round=>
  clear H0 c1;obtain ⟨k,n,hk,hnk,rfl,rfl,HO⟩:=hrel;by_cases hlt:k<l.length
  ·have hkI:(k:Int)<(l.length:Int):=by omega
   have hk0:(0:Int)≤(k:Int):=by omega
   have hcI:(l.length:Int)≤(cap:Int):=by omega
   have c1:wr.cell? ⟨vt,1,none⟩=some (.slice (some ⟨g,0,none⟩) l.length cap):=by have:=zaa (HO.out.blkAt 0 rfl) 1 rfl;rw [zcx] at this;exact this
   obtain ⟨q0,q1,q2,-,-,-⟩:=vo_at (HO.out.get 1 rfl) k (by rw [zcx];exact hlt);rw [zi0 below l k hlt] at q0 q1 q2;have HS:=zq (zoz below l k hlt);have HO2:=zq (HO.out.alloc (.cells #[.bool l[k].has,.int .i64 l[k].view,.int .i64 l[k].sl] 320 (0,0)));have HD:Hid (dropV below l[k]=if l[k].has&&decide (l[k].view<below) then noVo else l[k]):=zq rfl;have hself:Hid ((zd7 below l k).set k l[k]=zd7 below l k):=zq (by
    have:=zi0 below l k hlt;rw [←this];simp)
   obtain ⟨r0,r1,r2,z0,z1,z2⟩:=vo_at (HO2.out.get 1 rfl) k (by rw [zcx];exact hlt);rw [zi0 below l k hlt] at r0 r1 r2;have c1':(wr.alloc (.cells #[.bool l[k].has,.int .i64 l[k].view,.int .i64 l[k].sl] 320 (0,0))).cell? ⟨vt,1,none⟩=some (.slice (some ⟨g,0,none⟩) l.length cap):=zay c1;have HP:=zq ((zvn HO2.out.swap k (by rw [zcx];exact hlt) noVo).swap);clear HO;generalize l[k]=x at*;obtain ⟨has,xv,xs⟩:=x;simp only at q0 q1 q2 r0 r1 r2 HD HO2 HP c1' z0 z1 z2;cases has with
   | false=>
    simp only [Bool.false_and,Bool.false_eq_true,if_false] at HD;have H3:Hid (Own B w0 _ (cvL vt g cap f (zd7 below l (k+1)) ss)):=zq (by rw [HS.out,HD.out,hself.out];exact HO2.out);clear HO2 HP
    go_wp2_with fail
    go_roundw
    case rel=>exact ⟨k+1,n,by omega,by omega,by go_num,rfl,H3⟩
    case measure=>simp [intOf];omega
   | true=>
    simp only [Bool.true_and,decide_eq_true_eq] at HD;by_cases hv:xv<below
    ·rw [if_pos hv] at HD
     have H3:Hid (Own B w0 _ (cvL vt g cap f (zd7 below l (k+1)) ss)):=zq (by rw [HS.out,HD.out,cvL,List.length_set];exact HP.out);have hn9:(n:Int)≤100:=by omega
     clear HO2 HP
     go_wp2_with fail
     go_roundw
     case rel=>exact ⟨k+1,n+1,by omega,by omega,by go_num,by go_num,H3⟩
     case measure=>simp [intOf];omega
    ·have hvd:decide (xv<below)=false:=by simp;omega
     rw [if_neg hv] at HD;have H3:Hid (Own B w0 _ (cvL vt g cap f (zd7 below l (k+1)) ss)):=zq (by rw [HS.out,HD.out,hself.out];exact HO2.out);clear HO2 HP hv
     go_wp2_with fail
     go_roundw
     case rel=>exact ⟨k+1,n,by omega,by omega,by go_num,rfl,H3⟩
     case measure=>simp [intOf];omega
  ·have hkI:decide ((k:Int)<(l.length:Int))=false:=by simp;omega
   have e:zd7 below l k=l.map (dropV below):=by
    unfold zd7;rw [List.take_of_length_le (by omega),List.drop_eq_nil_of_le (by omega),List.append_nil]
   rw [e] at HO
   go_wp2_with fail
   go_ret
   exact ⟨_,rfl,HO.out⟩
end
abbrev pnL (p:Nat) (v:Value) (s:Wr) (l:List Res):List Res:=blk p (.cells #[v,.bool s.bad] 205 (0,0))::bysR v s.out::l
def pSgn (s:Wr) (n:Int):Wr:=wNum ⟨s.out,s.bad || !sgnOk n⟩ (zigX n)
def pLst (s:Wr) (n:Int):Wr:=wNum ⟨s.out,s.bad || decide (256<n)⟩ n
def pReq (s:Wr) (r:Rq):Wr:=wNum (pSgn (pSgn (wNum (wNum (wNum s r.client) r.time) r.kind) r.key) r.val) r.sl
section
variable {B:Nat} {w0 w W W':World} {ss rs:List Res} {p:Nat} {v bv:Value} {s:Wr}
theorem zsu (n:Int) (h:Own B w0 W ss):Calls Tryz.prog 129 #[.int .i64 n] W fun e w'=> ∃v,e= .returned (.tuple #[v,.bool (numOk n)])∧Own B w0 w' (bysR v (numX n)::ss):=by
 obtain ⟨i0,hi,hz0,hz1,hz2⟩:=info_parts Tryz.infoU8;by_cases h1:n<0
 ·have HE:Hid (numOk n=false∧Own B w0 W (bysR (.slice none 0 0) (numX n)::ss)):=zq (by
   have e:numOk n=false:=by unfold numOk;simp;omega
   refine ⟨e,?_⟩;unfold numX;rw [e];exact h.row0)
  clear h;go_enter Tryz.func129,Tryz.ntmps129
  go_wp2_with fail
  go_ret2
  rw [HE.out.1];exact ⟨_,rfl,HE.out.2⟩
 by_cases h2:1099511627776≤n
 ·have h1':decide (n<0)=false:=by simp;omega
  have HE:Hid (numOk n=false∧Own B w0 W (bysR (.slice none 0 0) (numX n)::ss)):=zq (by
   have e:numOk n=false:=by unfold numOk;simp;omega
   refine ⟨e,?_⟩;unfold numX;rw [e];exact h.row0)
  clear h h1;go_enter Tryz.func129,Tryz.ntmps129
  go_wp2_with fail
  go_ret2
  rw [HE.out.1];exact ⟨_,rfl,HE.out.2⟩
 have h1':decide (n<0)=false:=by simp;omega
 have h2':decide (1099511627776≤n)=false:=by simp;omega
 obtain ⟨m0,rfl⟩: ∃m:Nat,n=m:=⟨n.toNat,by omega⟩;have hm0:m0<128^(5+1):=by omega
 have HE:Hid (numOk (m0:Int)=true∧numX (m0:Int)=encN 5 m0):=zq (by
  have e:numOk (m0:Int)=true:=by unfold numOk;simp;omega
  unfold numX;rw [e];exact ⟨rfl,by simp [numB]⟩)
 have H:=zq (h.row0 (E:=5) (sz:=1));clear h h1 h2;go_enter Tryz.func129,Tryz.ntmps129
 go_wp2_with fail
 go_loopw [0,4] (fun nv v wr=> ∃(m f:Nat) (acc:Bys),nv= .int .i64 m∧m<128^(f+1)∧f≤5∧acc.length≤10-f∧acc++encN f m=encN 5 m0∧Hid (Own B w0 wr (bysR v acc::ss))) (fun nv _ _=>(intOf nv).toNat)
 case atStart=>exact ⟨m0,5,[],rfl,hm0,by omega,by simp,rfl,H⟩
 case round=>
  clear H hm0;obtain ⟨m,f,acc,rfl,hm,hf,ha,hacc,H⟩:=hrel;have hmI:(m:Int)<4398046511104:=by
   have:m<128^6:=Nat.lt_of_lt_of_le hm (Nat.pow_le_pow_right (by omega) (by omega));omega
  by_cases hlt:m<128
  ·have hd:decide (128≤(m:Int))=false:=by simp;omega
   have hw:IntKind.u8.wrap (m:Int)=(m:Int):=u8_in (by omega) (by omega);have HA:=zq (H.out.alloc (.cells #[.int .u8 (m:Int)] 5 (0,0)));have HN:=zq (heap_alloc_new wr (.cells #[.int .u8 (m:Int)] 5 (0,0)));have ha2:acc.length≤10:=by omega
   rw [znh hlt] at hacc;have HX:Hid (numX (m0:Int)=acc++[m]):=zq (HE.out.2.trans hacc.symm);have HK:=zq HE.out.1;clear hacc H HE hm ha hmI
   go_wp2_with (first | (at_builtin;refine za7 rfl (.tmp 22) (.tmp 25) 60 rfl 5 i0 (.int .u8 0) 1 1 Tryz.underlying60 hi hz0 hz1 hz2 rfl (by decide) HA.out 0 u4 acc.length (bysC acc) rfl rfl wr.heap.size #[.int .u8 (m:Int)] 5 (0,0) rfl HN.out rfl (by simp [Value.oneCell']) (by unfold maxLen;omega) (by omega) ?_;intro g cap w1 h1) | go_in)
   have H1:=zq h1;clear h1
   go_wp2_with fail
   go_ret2
   rw [HK.out,HX.out];exact ⟨_,rfl,by have:=H1.out;simpa [bysR,bysC] using this⟩
  ·have hd:128≤(m:Int):=by omega
   have e1:(m:Int).tmod 128=((m%128:Nat):Int):=by rw [Int.tmod_eq_emod_of_nonneg (by omega)];omega
   have e2:(m:Int).tdiv 128=((m/128:Nat):Int):=by rw [Int.tdiv_eq_ediv_of_nonneg (by omega)];omega
   have hlo:m%128<128:=by omega
   generalize hr:m%128=r at*;generalize hq:m/128=q at*;have hw:IntKind.u8.wrap (128+(r:Int))=128+(r:Int):=u8_in (by omega) (by omega);have HA:=zq (H.out.alloc (.cells #[.int .u8 (128+(r:Int))] 5 (0,0)));have HN:=zq (heap_alloc_new wr (.cells #[.int .u8 (128+(r:Int))] 5 (0,0)));have ha2:acc.length≤10:=by omega
   go_wp2_with (first | (at_builtin;refine za7 rfl (.tmp 13) (.tmp 18) 60 rfl 5 i0 (.int .u8 0) 1 1 Tryz.underlying60 hi hz0 hz1 hz2 rfl (by decide) HA.out 0 u4 acc.length (bysC acc) rfl rfl wr.heap.size #[.int .u8 (128+(r:Int))] 5 (0,0) rfl HN.out rfl (by simp [Value.oneCell']) (by unfold maxLen;omega) (by omega) ?_;intro g cap w1 h1) | go_in)
   have H1:=zq h1;clear h1 HA HN H
   go_wp2_with fail
   go_roundw
   case rel=>
    obtain ⟨f',rfl⟩: ∃f',f=f'+1:=by
     cases f with
     | zero=>simp at hm;omega
     | succ f=>exact ⟨f,rfl⟩
    refine ⟨q,f',acc++[r+128],rfl,?_,by omega,by simp;omega,?_,zq ?_⟩
    ·rw [Nat.pow_succ] at hm;rw [←hq];exact (Nat.div_lt_iff_lt_mul (by omega)).2 hm
    ·rw [←hacc,zni (by omega:128≤m),hr,hq];simp
    ·have:=H1.out
     simpa [bysR,bysC,Int.add_comm] using this
   case measure=>simp [intOf];omega
theorem zju (n:Int):Calls Tryz.prog 198 #[.int .i64 n] W fun e w'=>e= .returned (.int .i64 (zigX n))∧W=w':=by
 by_cases h1:n< -549755813888
 ·have HE:Hid (zigX n=0):=zq (by unfold zigX;rw [show sgnOk n=false by unfold sgnOk;simp;omega];rfl)
  go_enter Tryz.func198,Tryz.ntmps198
  go_wp2_with fail
  go_ret
  rw [HE.out];exact ⟨rfl,rfl⟩
 have h1':decide (n< -549755813888)=false:=by simp;omega
 by_cases h2:549755813888≤n
 ·have HE:Hid (zigX n=0):=zq (by unfold zigX;rw [show sgnOk n=false by unfold sgnOk;simp;omega];rfl)
  go_enter Tryz.func198,Tryz.ntmps198
  go_wp2_with fail
  go_ret
  rw [HE.out];exact ⟨rfl,rfl⟩
 have h2':decide (549755813888≤n)=false:=by simp;omega
 have hk:sgnOk n=true:=by unfold sgnOk;simp;omega
 by_cases h3:n<0
 ·have HE:Hid (zigX n= -2*n-1):=zq (by unfold zigX zigN;rw [hk,if_pos rfl,if_pos h3];omega)
  clear hk;go_enter Tryz.func198,Tryz.ntmps198
  go_wp2_with fail
  go_ret
  rw [HE.out];exact ⟨rfl,rfl⟩
 ·have h3':decide (n<0)=false:=by simp;omega
  have HE:Hid (zigX n=2*n):=zq (by unfold zigX zigN;rw [hk,if_pos rfl,if_neg h3];omega);clear hk;go_enter Tryz.func198,Tryz.ntmps198
  go_wp2_with fail
  go_ret
  rw [HE.out];exact ⟨rfl,rfl⟩
theorem zba (n:Int) (h:Own B w0 W (pnL p v s ss)) (hl:s.out.length≤1000000000000):
  Calls Tryz.prog 122 #[.pointer (some ⟨p,0,none⟩),.int .i64 n] W fun e w'=>e= .returned (.tuple #[])∧ ∃v',Own B w0 w' (pnL p v' (wNum s n) ss):=by
 obtain ⟨i0,hi,hz0,hz1,hz2⟩:=info_parts Tryz.infoU8;have HN:=zq (zsu n h);have hx:=zdf n;have HW:Hid (wNum s n=⟨s.out++numX n,s.bad || !numOk n⟩):=zq rfl;generalize wNum s n=s' at*;generalize numX n=bs at*;generalize numOk n=ok at*;obtain ⟨out,bad⟩:=s;simp only at hl h HW;obtain ⟨ao,cap,rfl,-,-⟩:=zao (k:=1) h rfl;have hone:=zfs bs;clear h;go_enter Tryz.func122,Tryz.ntmps122
 go_wp2_with fail
 refine HN.out.mono ?_;rintro e w1 ⟨v2,rfl,h0⟩;have h:=h0.rot';obtain ⟨bo,bcap,rfl,-,-⟩:=zao (k:=2) h rfl;have x0:w1.cell? ⟨p,0,none⟩=some (.slice ao out.length cap):=zaa h.blk_out 0 rfl;have x1:w1.cell? ⟨p,1,none⟩=some (.bool bad):=zaa h.blk_out 1 rfl;have z1:=zab h.blk_out 1;have HS: ∀b:Bool,Hid (Own B w0 (w1.setCell ⟨p,1,none⟩ (.bool b)) (pnL p (.slice ao out.length cap) ⟨out,b⟩ (bysR (.slice bo bs.length bcap) bs::ss))):=fun b=>zq (Own.storeTo h 1 (.bool b) rfl);have H1:=HS (bad || !ok);have H1b:=zq (zao (k:=2) H1.out rfl);have x2:(w1.setCell ⟨p,1,none⟩ (.bool (bad || !ok))).cell? ⟨p,0,none⟩=some (.slice ao out.length cap):=zaa H1.out.blk_out 0 rfl;clear h h0 HS HN;cases bad<;>cases ok<;>(
  simp only [Bool.true_or,Bool.false_or,Bool.or_false,Bool.or_true,Bool.not_true,Bool.not_false] at*
  go_wp2_with (at_builtin;refine zbx rfl (.tmp 26) (.tmp 27) 60 rfl 5 i0 (.int .u8 0) 1 1 Tryz.underlying60 hi hz0 hz1 hz2 rfl (by decide) H1.out 1 (.slice ao out.length cap) out.length (bysC out) rfl rfl (.slice bo bs.length bcap) bs.length (bysC bs) rfl H1b.out hone (by unfold maxLen;omega) (by omega) ?_)
  intro ao' cap' w2 h2;have h3:Own B w0 w2 (blk p (.cells #[.slice ao out.length cap,.bool _] 205 (0,0))::ownR 5 1 (.slice ao' (out.length+bs.length) cap') (out.length+bs.length) (bysC out++bysC bs)::bysR (.slice bo bs.length bcap) bs::ss):=h2;have x3:w2.cell? ⟨p,0,none⟩=some (.slice ao out.length cap):=zaa (h3.blkAt 0 rfl) 0 rfl;have z3:=zab (h3.blkAt 0 rfl) 0;have H3:=zq ((Own.storeTo h3 0 (.slice ao' (out.length+bs.length) cap') rfl).dropAt 2 (by simp));clear h2 h3 H1 H1b
  go_wp2_with fail
  refine bodyPost_end (results_none rfl _ _ _) rfl ?_;rw [HW.out];refine ⟨rfl,.slice ao' (out.length+bs.length) cap',?_⟩;have:=H3.out
  simpa [pnL,bysR,bysC,setIn] using this)
theorem zjl (n:Int) (h:Own B w0 W (pnL p v s ss)) (hl:s.out.length≤1000000000000):
  Calls Tryz.prog 199 #[.pointer (some ⟨p,0,none⟩),.int .i64 n] W fun e w'=>e= .returned (.tuple #[])∧ ∃v',Own B w0 w' (pnL p v' (pLst s n) ss):=by
 obtain ⟨out,bad⟩:=s;simp only at hl h;have x1:W.cell? ⟨p,1,none⟩=some (.bool bad):=zaa h.blk_out 1 rfl;have z1:=zab h.blk_out 1;have HS:Hid (∀b:Bool,Own B w0 (W.setCell ⟨p,1,none⟩ (.bool b)) (pnL p v ⟨out,b⟩ ss)):=zq (fun b=>Own.storeTo h 1 (.bool b) rfl);clear h;cases bad with
 | true=>
  have HE:Hid (pLst ⟨out,true⟩ n=wNum ⟨out,true⟩ n):=zq (by unfold pLst;simp);have HC:=zq (zba (n) (HS.out true) hl);clear HS;go_enter Tryz.func199,Tryz.ntmps199
  go_wp2_with fail
  refine HC.out.mono ?_;rintro e w1 ⟨rfl,v1,h2⟩;have H2:=zq h2;clear h2 HC
  go_wp2_with fail
  refine bodyPost_end (results_none rfl _ _ _) rfl ?_;rw [HE.out];exact ⟨rfl,v1,H2.out⟩
 | false=>
  by_cases hb:256<n
  ·have HE:Hid (pLst ⟨out,false⟩ n=wNum ⟨out,true⟩ n):=zq (by unfold pLst;simp [hb])
   have HC:=zq (zba (n) (HS.out true) hl);clear HS;go_enter Tryz.func199,Tryz.ntmps199
   go_wp2_with fail
   refine HC.out.mono ?_;rintro e w1 ⟨rfl,v1,h2⟩;have H2:=zq h2;clear h2 HC
   go_wp2_with fail
   refine bodyPost_end (results_none rfl _ _ _) rfl ?_;rw [HE.out];exact ⟨rfl,v1,H2.out⟩
  ·have hb':decide (256<n)=false:=by simp;omega
   have HE:Hid (pLst ⟨out,false⟩ n=wNum ⟨out,false⟩ n):=zq (by unfold pLst;simp [hb']);clear hb;have HC:=zq (zba (n) (HS.out false) hl);clear HS;go_enter Tryz.func199,Tryz.ntmps199
   go_wp2_with fail
   refine HC.out.mono ?_;rintro e w1 ⟨rfl,v1,h2⟩;have H2:=zq h2;clear h2 HC
   go_wp2_with fail
   refine bodyPost_end (results_none rfl _ _ _) rfl ?_;rw [HE.out];exact ⟨rfl,v1,H2.out⟩
theorem zmk (n:Int) (h:Own B w0 W (pnL p v s ss)) (hl:s.out.length≤1000000000000):
  Calls Tryz.prog 123 #[.pointer (some ⟨p,0,none⟩),.int .i64 n] W fun e w'=>e= .returned (.tuple #[])∧ ∃v',Own B w0 w' (pnL p v' (pSgn s n) ss):=by
 obtain ⟨out,bad⟩:=s;simp only at hl h;have x1:W.cell? ⟨p,1,none⟩=some (.bool bad):=zaa h.blk_out 1 rfl;have z1:=zab h.blk_out 1;have HS:Hid (∀b:Bool,Own B w0 (W.setCell ⟨p,1,none⟩ (.bool b)) (pnL p v ⟨out,b⟩ ss)):=zq (fun b=>Own.storeTo h 1 (.bool b) rfl);clear h;cases bad with
 | true=>
  have HE:Hid (pSgn ⟨out,true⟩ n=wNum ⟨out,true⟩ (zigX n)):=zq (by unfold pSgn;simp);have HC:=zq (zba (zigX n) (HS.out true) hl);have HZ:=zq (fun w=>zju (W:=w) n);clear HS;go_enter Tryz.func123,Tryz.ntmps123
  go_wp2_with fail
  refine (HZ.out _).mono ?_;rintro e w1 ⟨rfl,rfl⟩
  go_wp2_with fail
  refine HC.out.mono ?_;rintro e w1 ⟨rfl,v1,h2⟩;have H2:=zq h2;clear h2 HC
  go_wp2_with fail
  refine bodyPost_end (results_none rfl _ _ _) rfl ?_;rw [HE.out];exact ⟨rfl,v1,H2.out⟩
 | false=>
  by_cases hb:n< -549755813888
  ·have HE:Hid (pSgn ⟨out,false⟩ n=wNum ⟨out,true⟩ (zigX n)):=zq (by unfold pSgn;rw [show sgnOk n=false by unfold sgnOk;simp;omega];rfl)
   have HC:=zq (zba (zigX n) (HS.out true) hl);have HZ:=zq (fun w=>zju (W:=w) n);clear HS;go_enter Tryz.func123,Tryz.ntmps123
   go_wp2_with fail
   refine (HZ.out _).mono ?_;rintro e w1 ⟨rfl,rfl⟩
   go_wp2_with fail
   refine HC.out.mono ?_;rintro e w1 ⟨rfl,v1,h2⟩;have H2:=zq h2;clear h2 HC
   go_wp2_with fail
   refine bodyPost_end (results_none rfl _ _ _) rfl ?_;rw [HE.out];exact ⟨rfl,v1,H2.out⟩
  ·have hb':decide (n< -549755813888)=false:=by simp;omega
   by_cases hc:549755813888≤n
   ·have HE:Hid (pSgn ⟨out,false⟩ n=wNum ⟨out,true⟩ (zigX n)):=zq (by unfold pSgn;rw [show sgnOk n=false by unfold sgnOk;simp;omega];rfl)
    clear hb;have HC:=zq (zba (zigX n) (HS.out true) hl);have HZ:=zq (fun w=>zju (W:=w) n);clear HS;go_enter Tryz.func123,Tryz.ntmps123
    go_wp2_with fail
    refine (HZ.out _).mono ?_;rintro e w1 ⟨rfl,rfl⟩
    go_wp2_with fail
    refine HC.out.mono ?_;rintro e w1 ⟨rfl,v1,h2⟩;have H2:=zq h2;clear h2 HC
    go_wp2_with fail
    refine bodyPost_end (results_none rfl _ _ _) rfl ?_;rw [HE.out];exact ⟨rfl,v1,H2.out⟩
   ·have hc':decide (549755813888≤n)=false:=by simp;omega
    have HE:Hid (pSgn ⟨out,false⟩ n=wNum ⟨out,false⟩ (zigX n)):=zq (by unfold pSgn;rw [show sgnOk n=true by unfold sgnOk;simp;omega];rfl);clear hb hc;have HC:=zq (zba (zigX n) (HS.out false) hl);have HZ:=zq (fun w=>zju (W:=w) n);clear HS;go_enter Tryz.func123,Tryz.ntmps123
    go_wp2_with fail
    refine (HZ.out _).mono ?_;rintro e w1 ⟨rfl,rfl⟩
    go_wp2_with fail
    refine HC.out.mono ?_;rintro e w1 ⟨rfl,v1,h2⟩;have H2:=zq h2;clear h2 HC
    go_wp2_with fail
    refine bodyPost_end (results_none rfl _ _ _) rfl ?_;rw [HE.out];exact ⟨rfl,v1,H2.out⟩
end
end Go.Proofs.YtannckelmojkoaaGreat
