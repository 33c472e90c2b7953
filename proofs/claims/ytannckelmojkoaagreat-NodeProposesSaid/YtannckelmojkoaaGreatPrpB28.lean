/- Parts of the proof, one behind the other. -/
import Derived.Test.YtannckelmojkoaaGreatPrpB27
set_option maxHeartbeats 32000000
set_option maxRecDepth 100000
set_option linter.unusedVariables false
set_option linter.unusedSimpArgs false
namespace Go.Proofs.YtannckelmojkoaaGreat
open Go.RowKit Go.Heap
def cntC (l:List Td) (c:Int):Nat:=l.countP (fun t=>t.r.client==c)
theorem zue {l:List Td} {c:Int} {j:Nat} (hj:j<l.length):cntC (l.take (j+1)) c=cntC (l.take j) c+if (l[j].r.client==c)=true then 1 else 0:=by
 unfold cntC;rw [List.take_add_one,List.getElem?_eq_getElem hj,List.countP_append];simp [List.countP_cons]
theorem zre {α:Type} (l:List α) (k:Nat) (F:α→α) (hk:k<l.length):l.modify k F=l.set k (F l[k]):=by
 refine List.ext_getElem? (fun j=> ?_);rw [List.getElem?_modify,List.getElem?_set];by_cases h:k=j
 ·subst h;simp [hk]
 ·simp [h]
section
variable {B:Nat} {w0 W:World} {ss:List Res} {l:List Td} {g cap n:Nat} {A:List Nat}
theorem zn6 (h:(tdR (.slice (some ⟨g,0,none⟩) l.length cap) l).At W A) (hb: ∀t∈l,t.by_.length=13) (k:Nat) (hk:k<l.length):
  (∀j,j<13→W.cell? ⟨g,k*21+6+j,none⟩=some (.bool (l[k].by_.getD j false)))∧W.cell? ⟨g,k*21+19,none⟩=some (.bool l[k].ready)∧W.cell? ⟨g,k*21+20,none⟩=some (.int .i64 l[k].since)∧ ∀j,W.frozen? ⟨g,j,none⟩=false:=by
 obtain ⟨h1,h2,-,-⟩:=zr0 h;have h21: ∀t∈l,(tdC t).length=21:=fun t ht=>zhh (hb t ht);have hk1:(k+1)*21≤l.length*21:=Nat.mul_le_mul_right _ hk;have hl:=hb _ (List.getElem_mem hk);have hc: ∀q,q<21→W.cell? ⟨g,k*21+q,none⟩=(tdC l[k])[q]?:=fun q hq=>by rw [h1 _ (by omega),flat_in' tdC 21 l h21 k q hk hq]
 generalize l[k]=t at*;refine ⟨fun j hj=> ?_,?_,?_,h2⟩
 ·rw [Nat.add_assoc,hc _ (by omega)]
  unfold tdC;rw [List.getElem?_append_right (by simp [zaf]),List.getElem?_append_left (by simp [zaf,hl];omega)];simp [zaf,List.getD_eq_getElem?_getD,hl,hj]
 ·rw [hc _ (by omega)]
  unfold tdC;rw [List.getElem?_append_right (by simp [zaf]),List.getElem?_append_right (by simp [zaf,hl])];simp [zaf,hl]
 ·rw [hc _ (by omega)]
  unfold tdC;rw [List.getElem?_append_right (by simp [zaf]),List.getElem?_append_right (by simp [zaf,hl])];simp [zaf,hl]
theorem tdR_told {a b:Res} {x:Bool} (h:Own B w0 W (a::b::tdR (.slice (some ⟨g,0,none⟩) n cap) l::ss)) (hn:n=l.length) (hb: ∀t∈l,t.by_.length=13) (k:Nat) (hk:k<l.length) (j:Nat) (hj:j<13) (hx:x=l[k].by_.getD j false) (u:Td) (hu:u= {l[k] with by_:=l[k].by_.set j true}):
  Own B w0 (if x then W else W.setCell ⟨g,k*21+6+j,none⟩ (.bool true)) (a::b::tdR (.slice (some ⟨g,0,none⟩) n cap) (l.set k u)::ss):=by
 subst hn;cases x with
 | true=>
  have hs:l[k].by_.set j true=l[k].by_:=by
   have hl:=hb _ (List.getElem_mem hk);rw [List.getD_eq_getElem?_getD,List.getElem?_eq_getElem (by omega)] at hx;refine List.ext_getElem? (fun i=> ?_);rw [List.getElem?_set];by_cases hi:j=i
   ·subst hi;simp at hx;simp [hl,hj,hx]
   ·simp [hi]
  have hq:l.set k u=l:=by
   rw [hu,hs];exact List.set_getElem_self hk
  rw [hq];exact h
 | false=>
  have h1:=tdR_by (h.front 2 rfl rfl) hb k hk j hj true;rw [←hu,List.length_set] at h1;simp only [Bool.false_eq_true,if_false];have h2:=(h1.front 1 rfl rfl).front 2 rfl rfl;exact h2.swap
theorem tdR_rdy {a b:Res} {c:Int} (h:Own B w0 W (a::b::tdR (.slice (some ⟨g,0,none⟩) n cap) l::ss)) (hn:n=l.length) (hb: ∀t∈l,t.by_.length=13) (k:Nat) (hk:k<l.length):
  Own B w0 ((W.setCell ⟨g,k*21+19,none⟩ (.bool true)).setCell ⟨g,k*21+20,none⟩ (.int .i64 c)) (a::b::tdR (.slice (some ⟨g,0,none⟩) n cap) (l.set k {l[k] with ready:=true,since:=c})::ss):=by
 subst hn;have h1:=zwx (c:=c) (h.front 2 rfl rfl) hb k hk;rw [List.length_set] at h1;have h2:=(h1.front 1 rfl rfl).front 2 rfl rfl;exact h2.swap
end
section
variable {B:Nat} {w0 W:World} {ss:List Res} {tb f:Nat} {cl:Int} {v:Value} {l:List Td}
theorem zww (h:Own B w0 W (blk tb (tabOb f cl v)::tdR v l::ss)) (hb: ∀t∈l,t.by_.length=13) (hn:l.length≤1000) (hf1:1≤f) (hf2:f≤4) (r:Rq) (hc0:0≤r.client) (hc1:r.client<cl) (node:Nat) (clock:Int) (hn1:node≤3*f):
  Calls Tryz.prog 234 #[ptrV tb,rqAgg r,.int .i64 node,.int .i64 clock] W fun e w'=>(∃b1 b2:Bool,e= .returned (.tuple #[.bool b1,.bool b2,.int .i64 (tabE f cl l r node)]))∧ ∃v',Own B w0 w' (blk tb (tabOb f cl v')::tdR v' (zet f cl l r node clock)::ss):=by
 obtain ⟨i0,hi,hz0,hz1,hz2⟩:=info_parts Tryz.infoTold;have harg:ztc f cl r node=false:=by
  unfold ztc;simp only [Bool.or_eq_false_iff,decide_eq_false_iff_not];omega
 have HE:Hid (tabE f cl l r node=if zee l r then 3 else 0):=zq (by unfold tabE;rw [harg];rfl);have HPT:Hid (zet f cl l r node clock=if zee l r then l else (tabIn l r).modify (tabK l r) (tellT f node clock)):=zq (by
  unfold zet tabE;rw [harg];cases zee l r<;>simp)
 generalize tabE f cl l r node=ee at*;generalize zet f cl l r node clock=fin at*;have HN:=zq (fun w=>zax (f:Int) w (by omega) (by omega));have H0:=zq (h.box (rqO r));have HB:=zq hb;have hTb: ∀ {W':World} {rs:List Res},Own B w0 W' rs→ ∀i j,rs[i]?=some (blk tb (tabOb f cl v))→rs[j]?=some (tdR v l)→TbAt W' tb f cl v l:=fun {W' rs} ho i j e1 e2=>⟨ho.blkAt i e1,owns_reads (zaj (ho.get j e2)),fun t ht=>zhh (hb t ht)⟩;have HTB:=zq (fun W' (ho:Own B w0 W' (blk W.heap.size (rqO r)::blk tb (tabOb f cl v)::tdR v l::ss))=>zmr (hTb ho 1 2 rfl rfl) (by omega) r);obtain ⟨is,his⟩: ∃is,is=tabIs l r:=⟨_,rfl⟩;rw [←his] at HTB;have HIS:=zq his;have hkn:=zkz l r;have HKR:Hid (tabIn l r=if is then l else l.insertIdx (tabK l r) (newTd r)):=zq (by rw [his];rfl);have HFU:Hid (zee l r=(!is&&decide (4≤cntC l r.client))):=zq (by rw [his];rfl);have HL2:=zq (zwr r hb);have HAT:=zq (tabIn_at (l:=l) (r:=r));have HLN:=zq (tabIn_n (l:=l) (r:=r));generalize zee l r=fu at*;generalize tabIn l r=l2 at*;generalize tabK l r=k at*;obtain ⟨ao,cap,rfl⟩: ∃a c,v= .slice a l.length c:=let ⟨a,c,e,_⟩:=owns_reads (zaj (h.get 1 rfl));⟨a,c,e⟩;have hbx:=heap_alloc_new W (rqO r);have hnI:(node:Int)≤3*(f:Int):=by omega
 have hn0:(0:Int)≤(node:Int):=by omega
 have g1:decide (r.client<0)=false:=by simp;omega
 have g2:decide (cl≤r.client)=false:=by simp;omega
 have g3:decide ((node:Int)<0)=false:=by simp
 have g4:decide (3*(f:Int)+1≤(node:Int))=false:=by simp;omega
 have x0:=zaa hbx 0 rfl;have t0:=zaa (H0.out.blkAt 1 rfl) 0 rfl;have t1:=zaa (H0.out.blkAt 1 rfl) 1 rfl;clear h hb harg his hTb hbx hc0 hc1;unfold rqAgg;go_enter Tryz.func234,Tryz.ntmps234
 go_upto_region 1 with fail
 generalize W.heap.size=e5 at*;generalize W.alloc _=w1 at*
 go_quiet ((go_at_call 80;exact zas (HN.out _)))
 have H1:=zq (H0.out.upd0 ((Upd.refl [] w1).drewN nq));clear H0 x0 t0 t1 g1 g2 g3 g4 HN;generalize w1.drewN nq=w2 at*;have b5:=H1.out.blkAt 0 rfl;have x0:=zaa b5 0 rfl;have x1:=zaa b5 1 rfl;have x2:=zaa b5 2 rfl;have x3:=zaa b5 3 rfl;have x4:=zaa b5 4 rfl;have x5:=zaa b5 5 rfl;have HA:=zq (HTB.out _ H1.out);unfold rqAgg at HA;clear b5 HTB
 go_wp2_with fail
 with_reducible refine HA.out.mono ?_
 rintro e w3 ⟨rfl,hu⟩;have H2:=zq (H1.out.upd0 hu);clear hu HA H1 x0 x1 x2 x3 x4 x5
 go_upto_if 49 with fail
 go_cut [] (fun wx=> ∃(g cap2:Nat),Hid (fu=false)∧Hid (Own B w0 wx (blk e5 (rqO r)::blk tb (tabOb f cl (.slice (some ⟨g,0,none⟩) l2.length cap2))::tdR (.slice (some ⟨g,0,none⟩) l2.length cap2) l2::ss)))
 case first=>
  cases is with
  | true=>
   have e2:l2=l:=HKR.out;have hkl:k<l.length:=by obtain ⟨h1,-⟩:=HAT.out;rw [e2] at h1;exact h1
   obtain ⟨g,hg⟩: ∃g:Nat,ao=some ⟨g,0,none⟩:=by
    obtain ⟨-,h2⟩:=zaj (H2.out.get 2 rfl);rcases h2 with ⟨h3,h4⟩ | ⟨g',cap',cur,h3,-⟩
    ·omega
    ·simp only [Value.slice.injEq] at h3;exact ⟨g',h3.1⟩
   have HF:Hid (fu=false):=zq (by rw [HFU.out];rfl);subst hg;have HO:Hid (Own B w0 w3 (blk e5 (rqO r)::blk tb (tabOb f cl (.slice (some ⟨g,0,none⟩) l2.length cap))::tdR (.slice (some ⟨g,0,none⟩) l2.length cap) l2::ss)):=zq (by rw [e2];exact H2.out);clear H2 e2 hkl HFU
   go_wp2_with fail
   go_meet
   exact ⟨g,cap,HF,HO⟩
  | false=>
   have t2:=zaa (H2.out.blkAt 1 rfl) 2 rfl
   go_wp2_with fail
   go_loopw [13,55] (fun nv i wr=> ∃j:Nat,j≤l.length∧i= .int .i64 j∧nv= .int .i64 (cntC (l.take j) r.client)∧Hid (Own B w0 wr (blk e5 (rqO r)::blk tb (tabOb f cl (.slice ao l.length cap))::tdR (.slice ao l.length cap) l::ss))) (fun _ i _=>l.length-(intOf i).toNat)
   case atStart=>exact ⟨0,by omega,rfl,rfl,H2⟩
   case round=>
    clear H2 t2;obtain ⟨j,hj,rfl,rfl,H2⟩:=hrel;have hj0:(0:Int)≤j:=by omega
    have hjB:(j:Int)≤1000:=by omega
    by_cases hlt:j<l.length
    ·have hjI:(j:Int)<(l.length:Int):=by omega
     obtain ⟨ao',cap',hv,-,-,-,-,hc⟩:=owns_reads (zaj (H2.out.get 2 rfl));simp only [Value.slice.injEq,true_and] at hv;obtain ⟨b,o,hao,-,hcell⟩:=hc (by omega);rw [←hv.1] at hao;subst hao;clear hv;have hbk:=td_cs (HB.out _ (List.getElem_mem hlt));have HRA:=zq (znv hcell (fun a ha=>(td_cs (HB.out a ha)).n) j hlt);have HCS:=zq (zue (c:=r.client) hlt);have hc0:=hbk.c0;have hone:=hbk.one;have hln:=hbk.n;generalize l[j].r=rj at*;generalize tdC l[j]=cs at*;have HIS2:Hid ((Tryz.prog.info? 314).map (·.size)=some 21):=zq (by rw [hi];exact congrArg some hz1);have HAL:=zq (all_oneCell_toArray hone);have HIC:Hid ((Tryz.prog.info? 314).map (·.size)=some cs.length):=zq (by rw [hln];exact HIS2.out);have HIC2:Hid ((Tryz.prog.info? 314).map (·.size)=some cs.toArray.size):=zq (by rw [List.size_toArray,hln];exact HIS2.out);have HTH:Hid ((wr.alloc (.cells tdZ 314 (0,0))).there wr.heap.size 0 cs.toArray.size):=zq (zn7 rfl (by rw [List.size_toArray,hln];exact Nat.le_refl _));have HST:=zq (zj9 H2.out (z:=tdZ) (T:=314) (cs:=cs) (by rw [hln];rfl) rfl);have hcl:(cntC (l.take j) r.client:Int)≤1000:=by
      have h1:cntC (l.take j) r.client≤(l.take j).length:=List.countP_le_length;rw [List.length_take] at h1;omega
     clear hcell hc hbk hone hln H2 HIS2
     go_upto_region 9 with (first
      | (refine wpList_load_mid rfl 314 (.tmp 57) rfl b (o+j*21) rfl cs _ HRA.out Tryz.underlying314 rfl HIC.out ?_)
      | (refine wpList_store_mid rfl 314 (.tmp 15) (.tmp 58) rfl wr.heap.size 0 cs.toArray rfl rfl HTH.out HIC2.out HAL.out ?_))
     clear HRA HTH HIC2 HIC HAL;generalize wr.heap.size=e15 at*;generalize World.setCells _ e15 0 _=w4 at*;have y0:=(zb9 HST.out 0 rfl 0 hc0).1;have x0:=zaa (HST.out.blkAt 1 rfl) 0 rfl;have H3:=zq HST.out.drop;clear HST hc0;obtain ⟨eq,heq⟩: ∃eq,eq=(rj.client==r.client):=⟨_,rfl⟩;rw [←heq] at HCS;have hcl0:(0:Int)≤(cntC (l.take j) r.client:Int):=by omega
     generalize cntC (l.take j) r.client=n at*;cases eq with
     | true=>
      have b1:(rj.client==r.client)=true:=heq.symm;clear heq
      go_wp2_with fail
      go_roundw
      case rel=>exact ⟨_,_,_,⟨j+1,by omega,rfl,rfl⟩,by rw [HCS.out];simp,rfl,by go_num⟩
      case measure=>simp [intOf];omega
     | false=>
      have b1:(rj.client==r.client)=false:=heq.symm;clear heq
      go_wp2_with fail
      go_roundw
      case rel=>
       refine ⟨_,_,_,_,_,_,_,_,_,_,_,_,_,_,_,?_,rfl⟩;exact ⟨j+1,by omega,by go_num,by rw [HCS.out];simp,H3⟩
      case measure=>simp [intOf];omega
    ·have hjI:decide ((j:Int)<(l.length:Int))=false:=by simp;omega
     have hjl:l.take j=l:=List.take_of_length_le (by omega);rw [hjl];clear hjl;by_cases h4:4≤cntC l r.client
     ·have hge:decide ((4:Int)≤(cntC l r.client:Int))=true:=by simp;omega
      have hfu:fu=true:=by rw [HFU.out];simp [h4]
      have e1:ee=3:=by rw [HE.out,hfu];rfl
      have e2:fin=l:=by rw [HPT.out,hfu];rfl
      subst e1 e2;have HF:=zq H2.out.drop;clear H2 h4 hfu HFU HE HPT
      go_wp2_with fail
      refine bodyPost_ret (v:= .tuple #[.bool false,.bool false,.int .i64 3]) (by simp [results,Tryz.results234,go_sem]) rfl ⟨⟨_,_,rfl⟩,_,HF.out⟩
     ·have hge:decide ((4:Int)≤(cntC l r.client:Int))=false:=by simp;omega
      have HFF:Hid (fu=false):=zq (by rw [HFU.out];simp [h4]);have H3:=zq (H2.out.box (.cells tdZ 314 (0,0)));have HNZ:=zq (heap_alloc_new wr (.cells tdZ 314 (0,0)));have t2:=zaa (H2.out.blkAt 1 rfl) 2 rfl;have z2:=zab (H2.out.blkAt 1 rfl) 2;have hl1:(l.length:Int)≤1000:=by omega
      have HOTB:Hid (∀(w4:World) (g2 cap2:Nat),Own B w0 w4 (blk wr.heap.size (.cells tdZ 314 (0,0))::blk e5 (rqO r)::blk tb (tabOb f cl (.slice ao l.length cap))::ownR 314 21 (.slice (some ⟨g2,0,none⟩) (l.length+1) cap2) (l.length+1) (l.flatMap tdC++tdZ.toList)::ss)→w4.cell? ⟨tb,2,none⟩=some (.slice ao l.length cap)∧w4.frozen? ⟨tb,2,none⟩=false∧Own B w0 (w4.setCell ⟨tb,2,none⟩ (.slice (some ⟨g2,0,none⟩) (l.length+1) cap2)) (blk tb (tabOb f cl (.slice (some ⟨g2,0,none⟩) (l.length+1) cap2))::blk e5 (rqO r)::ownR 314 21 (.slice (some ⟨g2,0,none⟩) (l.length+1) cap2) (l.length+1) (l.flatMap tdC++tdZ.toList)::ss)):=zq (fun w4 g2 cap2 h=>by
       have hb:=h.blkAt 2 rfl;refine ⟨zaa hb 2 rfl,zab hb 2,?_⟩;exact (h.drop.swap.store 2 (.slice (some ⟨g2,0,none⟩) (l.length+1) cap2)))
      clear HFU H2 h4
      go_wp2_with (first
       | (refine zhp rfl 242 314 (.tmp 75) rfl Tryz.underlying242 Tryz.infoTold (by decide) (by decide) tdZ rfl rfl ?_)
       | (at_builtin;refine za9 rfl (.tmp 74) (.tmp 76) 242 rfl 314 i0 (.agg tdZ) 21 72 Tryz.underlying242 hi hz0 hz1 hz2 rfl (by decide) H3.out 3 (.slice ao l.length cap) l.length (l.flatMap tdC) rfl rfl wr.heap.size tdZ 314 (0,0) rfl HNZ.out rfl (by simp [Value.oneCell']) (by unfold maxLen;omega) (by omega) ?_))
      intro g2 cap2 w4 h4;obtain ⟨t2',z2',h5⟩:=HOTB.out _ _ _ h4;have H5:=zq h5;clear h4 h5 HOTB H3 HNZ t2 z2
      go_upto_region 15 with fail
      generalize World.setCell _ _ _=w5 at*;clear t2' z2';have h21: ∀a∈l,(tdC a).length=21:=fun a ha=>zhh (HB.out a ha);have hfl:=flat_len' l h21;have hz21:(tdZ.toList).length=21:=rfl;have hkn21:k*21≤l.length*21:=Nat.mul_le_mul_right _ hkn;obtain ⟨q1,q2,q3,q4⟩:=zr0 (H5.out.drew.get 2 rfl);have hcap:l.length+1≤cap2:=q3;obtain ⟨X0,hX0⟩: ∃X0,X0=l.flatMap tdC++tdZ.toList:=⟨_,rfl⟩;obtain ⟨cs,hcs⟩: ∃cs,cs=(l.flatMap tdC).drop (k*21):=⟨_,rfl⟩;obtain ⟨X1,hX1⟩: ∃X1,X1=X0.take ((k+1)*21)++cs++X0.drop ((k+1)*21+cs.length):=⟨_,rfl⟩;have hcl:cs.length=l.length*21-k*21:=by rw [hcs,List.length_drop,hfl]
      rw [←hX0] at H5 q1 q4;have HR:Hid (w5.drew.rangeAt g2 (k*21) cs):=zq (fun j v hj=>by
       have hjl:j<cs.length:=(List.getElem?_eq_some_iff.1 hj).1;rw [q1 _ (by omega),hX0,List.getElem?_append_left (by omega)];rw [hcs,List.getElem?_drop] at hj;exact hj)
      have HT:Hid (w5.drew.there g2 ((k+1)*21) cs.length):=zq (zj7 (H5.out.drew.get 2 rfl) _ _ (by omega));have HO1:Hid (∀v∈cs,v.oneCell'=true):=zq (fun v hv=>by
       rw [hcs] at hv;obtain ⟨a,ha,hv⟩:=List.mem_flatMap.1 (List.mem_of_mem_drop hv);exact (td_cs (HB.out a ha)).one v hv)
      have HS21:Hid ((Tryz.prog.info? 314).map (·.size)=some 21):=zq (by rw [hi];exact congrArg some hz1);have HP1:=zq (fun (w:World) (ho:Own B w0 w (ownR 314 21 (.slice (some ⟨g2,0,none⟩) (l.length+1) cap2) (l.length+1) X0::blk tb (tabOb f cl (.slice (some ⟨g2,0,none⟩) (l.length+1) cap2))::blk e5 (rqO r)::ss))=>ho.putsR ((k+1)*21) cs (by omega));rw [←hX1] at HP1;have HXX:Hid (k=l.length→X1=X0):=zq (fun e=>by
       have:cs=[]:=List.eq_nil_of_length_eq_zero (by omega);rw [hX1,this];simp)
      have HCL:=zq hcl;have HX1:=zq hX1;have HX0:=zq hX0;have HCSS:=zq hcs;have HFL:=zq hfl;have hkI:(k:Int)≤(l.length:Int):=by omega
      have hw1:IntKind.i64.wrap ((k:Int)+1)=(k:Int)+1:=IntWalk.i64_in _ (by omega);have hk0:(0:Int)≤(k:Int):=by omega
      have hk1:(0:Int)≤(k:Int)+1:=by omega
      have hk2:(k:Int)+1≤((l.length+1:Nat):Int):=by omega
      have hk3:(k:Int)≤((l.length+1:Nat):Int):=by omega
      have hck: ¬cap2=k:=by omega
      clear hX0 hcs hX1 hcl q1 q2 q3 q4 hfl h21 hz21;have t2:=zaa (H5.out.drew.blkAt 0 rfl) 2 rfl
      go_cut [] (fun wx=>Hid (Own B w0 wx (ownR 314 21 (.slice (some ⟨g2,0,none⟩) (l.length+1) cap2) (l.length+1) X1::blk tb (tabOb f cl (.slice (some ⟨g2,0,none⟩) (l.length+1) cap2))::blk e5 (rqO r)::ss)))
      case first=>
       have H6:=zq (H5.out.drew.rot);clear H5;by_cases hkl:k<l.length
       ·have hck1: ¬cap2=k+1:=by omega
        have hmin:Nat.min (l.length+1-k) (l.length-k)=l.length-k:=by show min _ _=_;omega
        refine Mix.wp_text2 (by kernel_rfl) (by kernel_rfl) ?_
        go_wp2_with (refine zmu rfl (.tmp 86) (.tmp 92) 242 242 rfl 314 Tryz.underlying242 HS21.out g2 ((k+1)*21) g2 (k*21) (l.length-k) _ (l.length+1-k) _ rfl rfl cs (by rw [HCL.out,hmin,Nat.sub_mul]) HR.out HT.out HO1.out ?_)
        refine ⟨by rfl,?_⟩;have H7:=zq (HP1.out _ H6.out);clear HP1 H6 HR HT HO1 HXX HCL;generalize World.setCells _ _ _ _=w6 at*
        go_wp2_with fail
        go_meet
        exact H7
       ·obtain rfl:k=l.length:=by omega
        have HX:=zq (HXX.out rfl);rw [←HX.out] at H6;clear HP1 HR HT HO1 HXX HCL;by_cases hc1:cap2=l.length+1
        ·refine Mix.wp_text2 (by kernel_rfl) (by kernel_rfl) ?_
         go_wp2_with (refine zhj rfl (.tmp 86) (.tmp 92) 242 242 rfl 314 Tryz.underlying242 HS21.out _ _ _ _ _ _ rfl rfl (by show min _ _=_;omega) ?_)
         refine ⟨by rfl,?_⟩
         go_wp2_with fail
         go_meet
         exact H6
        ·refine Mix.wp_text2 (by kernel_rfl) (by kernel_rfl) ?_
         go_wp2_with (refine zhj rfl (.tmp 86) (.tmp 92) 242 242 rfl 314 Tryz.underlying242 HS21.out _ _ _ _ _ _ rfl rfl (by show min _ _=_;omega) ?_)
         refine ⟨by rfl,?_⟩
         go_wp2_with fail
         go_meet
         exact H6
      case rest=>
       clear H5 HP1 HR HT HO1 HXX t2;obtain ⟨X2,hX2⟩: ∃X2,X2=X1.take (k*21)++tdC (newTd r)++X1.drop (k*21+21):=⟨_,rfl⟩;have h21: ∀a∈l,(tdC a).length=21:=fun a ha=>zhh (HB.out a ha);have he2:X2=(l.insertIdx k (newTd r)).flatMap tdC:=zop l h21 k hkn (newTd r) (zhh (zds r)) tdZ.toList rfl X1 X2 (by rw [HX1.out,HX0.out,HCSS.out]) hX2;have hl2:l2=l.insertIdx k (newTd r):=HKR.out;have hll:l2.length=l.length+1:=by rw [hl2,List.length_insertIdx,if_pos hkn]
       obtain ⟨ar,har⟩: ∃ar,ar=(tdC (newTd r)).toArray:=⟨_,rfl⟩;have harl:ar.toList=tdC (newTd r):=by rw [har]
       have hars:ar.size=21:=by rw [har,List.size_toArray,zhh (zds r)]
       have HO:=zq (fun (w:World) (ho:Own B w0 w (ownR 314 21 (.slice (some ⟨g2,0,none⟩) (l.length+1) cap2) (l.length+1) X1::blk tb (tabOb f cl (.slice (some ⟨g2,0,none⟩) (l.length+1) cap2))::blk e5 (rqO r)::ss))=>show Own B w0 (w.setCells g2 (k*21) ar.toList) (blk e5 (rqO r)::blk tb (tabOb f cl (.slice (some ⟨g2,0,none⟩) l2.length cap2))::tdR (.slice (some ⟨g2,0,none⟩) l2.length cap2) l2::ss) from by
        have h1:=ho.putsR (k*21) (tdC (newTd r)) (by rw [zhh (zds r),Nat.succ_mul];omega);rw [zhh (zds r),←hX2,he2,←hl2] at h1;have h2:=(h1.front 1 rfl rfl).front 2 rfl rfl;rw [←hll] at h2;rw [harl];exact h2)
       have H6:=zq hcut.out.drew;have HTH:=zq (zj7 (H6.out.get 0 rfl) (k*21) ar.size (by rw [hars,Nat.succ_mul];omega));have HIC2:Hid ((Tryz.prog.info? 314).map (·.size)=some ar.size):=zq (by rw [hars];exact HS21.out);have HAL:=zq (all_oneCell_toArray (td_cs (zds r)).one);rw [←har] at HAL;have HAR:=zq har;have t2:=zaa (H6.out.blkAt 1 rfl) 2 rfl;have x0:=zaa (H6.out.blkAt 2 rfl) 0 rfl;have x1:=zaa (H6.out.blkAt 2 rfl) 1 rfl;have x2:=zaa (H6.out.blkAt 2 rfl) 2 rfl;have x3:=zaa (H6.out.blkAt 2 rfl) 3 rfl;have x4:=zaa (H6.out.blkAt 2 rfl) 4 rfl;have x5:=zaa (H6.out.blkAt 2 rfl) 5 rfl;have hkI:(k:Int)<((l.length+1:Nat):Int):=by omega
       clear hcut hX2 h21 he2 hl2 hll har harl hars HCL
       go_upto_region 16 with fail
       refine Mix.wp_text2 (by kernel_rfl) (by kernel_rfl) ?_
       go_wp2_with (refine wpList_store_mid rfl 314 (.tmp 101) (.tmp 100) rfl g2 (k*21) ar rfl (by rw [HAR.out];rfl) HTH.out HIC2.out HAL.out ?_)
       refine ⟨by rfl,?_⟩;have H7:=zq (HO.out _ H6.out);clear HO H6 HTH t2 x0 x1 x2 x3 x4 x5;generalize World.setCells _ _ _ _=w6 at*
       go_wp2_with fail
       go_meet
       exact ⟨g2,cap2,HFF,H7⟩
 case rest=>
  obtain ⟨g,cap2,HF0,H0⟩:=hcut;obtain ⟨hk,hat⟩:=HAT.out;have e1:ee=0:=by rw [HE.out,HF0.out];rfl
  have e2:fin=l2.modify k (tellT f node clock):=by rw [HPT.out,HF0.out];rfl
  subst e1;obtain ⟨u,hu⟩: ∃u:Td,u= {l2[k] with by_:=l2[k].by_.set node true}:=⟨_,rfl⟩;obtain ⟨rd,hrd⟩: ∃rd,rd=u.ready:=⟨_,rfl⟩;have hb2:=HL2.out;have hul:u.by_.length=13:=by rw [hu];simpa using hb2 _ (List.getElem_mem hk)
  have hb3: ∀t∈l2.set k u,t.by_.length=13:=fun t ht=>by
   rcases List.mem_or_eq_of_mem_set ht with ht | rfl
   ·exact hb2 t ht
   ·exact hul
  have hk3:k<(l2.set k u).length:=by simpa using hk
  have hgu:(l2.set k u)[k]=u:=by simp
  have hn2:l2.length=(l2.set k u).length:=by simp
  have HFIN:Hid (fin=l2.set k (if !rd&&decide (f+1≤byLen u) then {u with ready:=true,since:=clock} else u)):=zq (by
   rw [e2,zre l2 k _ hk,hrd,hu];rfl)
  have hbl:byLen u≤13:=by
   unfold byLen;have:=List.countP_le_length (p:=id) (l:=u.by_);omega
  have hll:=HLN.out;have hkI:(k:Int)<(l2.length:Int):=by omega
  have hk0:(0:Int)≤(k:Int):=by omega
  have hk21:(k:Int)≤1001:=by omega
  obtain ⟨q1,-,-,q4⟩:=zn6 (H0.out.get 2 rfl) hb2 k hk;have HA:=zq (zs3 (bl:=l2[k].by_) q1 q4 node (by omega));obtain ⟨x,hx⟩: ∃x,x=l2[k].by_.getD node false:=⟨_,rfl⟩;have HP:=zq (fun (w:World) (h:Own B w0 w (blk e5 (rqO r)::blk tb (tabOb f cl (.slice (some ⟨g,0,none⟩) l2.length cap2))::tdR (.slice (some ⟨g,0,none⟩) l2.length cap2) l2::ss))=>tdR_told h rfl hb2 k hk node (by omega) hx u hu);rw [←hx] at HA;have HC:=zq (fun (w:World) (h:Own B w0 w (blk e5 (rqO r)::blk tb (tabOb f cl (.slice (some ⟨g,0,none⟩) l2.length cap2))::tdR (.slice (some ⟨g,0,none⟩) l2.length cap2) (l2.set k u)::ss))=>show (∀j,j<13→w.cell? ⟨g,k*21+6+j,none⟩=some (.bool (u.by_.getD j false)))∧w.cell? ⟨g,k*21+19,none⟩=some (.bool rd)∧w.cell? ⟨g,k*21+20,none⟩=some (.int .i64 u.since)∧ ∀j,w.frozen? ⟨g,j,none⟩=false from by
   have h1:=h.get 2 rfl;rw [hn2] at h1;have h2:=zn6 h1 hb3 k hk3;rw [hgu,←hrd] at h2;exact h2)
  have HRD:=zq (fun (w:World) (h:Own B w0 w (blk e5 (rqO r)::blk tb (tabOb f cl (.slice (some ⟨g,0,none⟩) l2.length cap2))::tdR (.slice (some ⟨g,0,none⟩) l2.length cap2) (l2.set k u)::ss))=>show Own B w0 ((w.setCell ⟨g,k*21+19,none⟩ (.bool true)).setCell ⟨g,k*21+20,none⟩ (.int .i64 clock)) (blk e5 (rqO r)::blk tb (tabOb f cl (.slice (some ⟨g,0,none⟩) l2.length cap2))::tdR (.slice (some ⟨g,0,none⟩) l2.length cap2) (l2.set k {u with ready:=true,since:=clock})::ss) from by
   have h2:=tdR_rdy (c:=clock) h hn2 hb3 k hk3;rw [List.set_set,hgu] at h2;exact h2)
  have HLE:=zq (fun w h=>zs2 (w:=w) (b:=g) (o:=k*21+6) (bl:=u.by_) h hul);have HWK:=zq (fun w=>weak_any (f:Int) w (by omega) (by omega));rw [show u.by_.countP id=byLen u from rfl] at HLE;have HFI:=zq (fun (w:World) (l3:List Td) (hl3:l3.length=l2.length) (h:Own B w0 w (blk e5 (rqO r)::blk tb (tabOb f cl (.slice (some ⟨g,0,none⟩) l2.length cap2))::tdR (.slice (some ⟨g,0,none⟩) l2.length cap2) l3::ss))=>show∃v',Own B w0 w (blk tb (tabOb f cl v')::tdR v' l3::ss) from ⟨_,h.drop⟩);have t2:=zaa (H0.out.blkAt 1 rfl) 2 rfl;generalize byLen u=bn at*;clear q1 q4 hx hb2 hul hb3 hk3 hgu hn2 e2 hu hrd HE HPT HIS HKR HFU HL2 HAT HLN HF0 hk hat hll
  go_wp2_with fail
  with_reducible refine HA.out.mono ?_
  rintro e w4 ⟨rfl,hw4⟩;have H4:=zq (hw4 ▸ HP.out _ H0.out);clear hw4 HP HA H0 t2;have H5:=zq H4.out.drew;obtain ⟨c0,c19,-,c4⟩:=HC.out _ H5.out;have HL:=zq (HLE.out _ c0);have tf:=zaa (H5.out.blkAt 1 rfl) 0 rfl;clear HLE c0 c4
  go_upto_region 19 with fail
  refine Held.wp_held2 [(g,k*21+19,[.bool rd]),(tb,0,[.int .i64 f])] [(3,0),(13,1)] [] [(10,true),(5,true)] (by kernel_rfl) (by kernel_rfl) ⟨⟨c19,trivial⟩,⟨tf,trivial⟩,trivial⟩ ?_;simp only [Held.cutAt,Held.walk,List.take_succ_cons,List.take_zero,List.drop_succ_cons,List.drop_zero];cases rd with
  | true=>
   go_wp2_with fail
   refine ⟨⟨⟨c19,trivial⟩,⟨tf,trivial⟩,trivial⟩,?_⟩
   go_wp2_with fail
   refine ⟨⟨⟨c19,trivial⟩,⟨tf,trivial⟩,trivial⟩,?_⟩
   go_wp2_with fail
   refine ⟨trivial,by rfl,⟨.inr ⟨⟨rfl,.inl ⟨by kernel_rfl,rfl⟩⟩,trivial⟩,.inl ⟨rfl,rfl⟩,trivial⟩,?_⟩;have e3:fin=l2.set k u:=by rw [HFIN.out];rfl
   have HF:=zq (HFI.out _ (l2.set k u) (by simp) H5.out);rw [←e3] at HF;clear HFI HFIN H5 H4 HL HRD c19 tf e3 HC HWK
   go_wp2_with fail
   refine bodyPost_ret (v:= .tuple #[.bool (!is),.bool false,.int .i64 0]) (by simp [results,Tryz.results234,go_sem]) rfl ⟨⟨_,_,rfl⟩,HF.out⟩
  | false=>
   go_wp2_with fail
   with_reducible refine HL.out.mono ?_
   rintro e w5 ⟨rfl,hu5⟩;have H6:=zq (H5.out.upd0 hu5);clear hu5 HL H5 H4 c19 tf;obtain ⟨-,c19,c20,c4⟩:=HC.out _ H6.out;have tf:=zaa (H6.out.blkAt 1 rfl) 0 rfl;clear HC
   go_wp2_with fail
   refine ⟨⟨⟨c19,trivial⟩,⟨tf,trivial⟩,trivial⟩,?_⟩;have HW:=zq (HWK.out w5);clear HWK
   go_wp2_with fail
   with_reducible refine HW.out.mono ?_
   rintro e w6 ⟨rfl,rfl⟩;clear HW
   go_wp2_with fail
   refine ⟨⟨⟨c19,trivial⟩,⟨tf,trivial⟩,trivial⟩,?_⟩;by_cases hge:f+1≤bn
   ·have hgI:((f:Int)+1≤(bn:Int)):=by omega
    have e3:fin=l2.set k {u with ready:=true,since:=clock}:=by rw [HFIN.out];simp [hge]
    have HF:=zq (HFI.out _ (l2.set k {u with ready:=true,since:=clock}) (by simp) (HRD.out _ H6.out));rw [←e3] at HF;have z1:=c4 (k*21+19);have z2:=c4 (k*21+20)
    go_wp2_with fail
    refine ⟨trivial,by rfl,⟨.inr ⟨⟨rfl,.inl ⟨by kernel_rfl,rfl⟩⟩,trivial⟩,.inr ⟨⟨rfl,.inl ⟨by kernel_rfl,rfl⟩⟩,trivial⟩,trivial⟩,?_⟩;clear HFI HFIN H6 HRD e3 c4 hge tf
    go_wp2_with fail
    refine bodyPost_ret (v:= .tuple #[.bool (!is),.bool true,.int .i64 0]) (by simp [results,Tryz.results234,go_sem]) rfl ⟨⟨_,_,rfl⟩,HF.out⟩
   ·have hgI:decide ((f:Int)+1≤(bn:Int))=false:=by simp;omega
    have e3:fin=l2.set k u:=by rw [HFIN.out];simp [hge]
    have HF:=zq (HFI.out _ (l2.set k u) (by simp) H6.out);rw [←e3] at HF
    go_wp2_with fail
    refine ⟨trivial,by rfl,⟨.inr ⟨⟨rfl,.inl ⟨by kernel_rfl,rfl⟩⟩,trivial⟩,.inr ⟨⟨rfl,.inl ⟨by kernel_rfl,rfl⟩⟩,trivial⟩,trivial⟩,?_⟩;clear HFI HFIN H6 HRD e3 c4 hge tf c19 c20
    go_wp2_with fail
    refine bodyPost_ret (v:= .tuple #[.bool (!is),.bool false,.int .i64 0]) (by simp [results,Tryz.results234,go_sem]) rfl ⟨⟨_,_,rfl⟩,HF.out⟩
end
section
variable {B:Nat} {w0 w W W':World} {ss rs:List Res} {x:Np} {s s':Ns} {l l':Nt} {rn:Nat} {vp:Value} {vt:Rn}
theorem zut {m:Mm} {b:Bys} {v:Int} {p:NSt} (h:NdIs B w0 W x s l (mmR m (rnR rn vp vt l ss))) (hm:MmOk m) (hn:l.length≤700000000) (h0:0≤m.fm) (h1:m.fm≤100) (hb:bodyP m.ms=some b) (hbl:b.length≤65530) (hfm:formP s.c.f s.c.cl m.ms=true) (hst:s.stop=false) (hgd:s.gd=[])
  (HT: ∀mm:Mm,mm.ms=m.ms→TakeC B w0 x s (sealL l m.fm b) 98 mm (sealN l m.fm b) (v,p)) (hv:v=0∨v=1∨v=2∨v=3) (hg2:p.1.gd.length≤1000)
  (hu:p.1.used≤1000000000000) (hbd:p.1.bad≤1000000000000) (hsl:p.1.stale≤1000000000000) (hfu:p.1.full≤1000000000000):
  Calls Tryz.prog 23 #[ptrV x.p,.agg (twA x.nt rn),.agg (mmA m)] W fun e w'=>e= .returned (.tuple #[])∧ ∃vp' vt',NdIs B w0 w' x (zqd m.fm (v,p)).1 (zqd m.fm (v,p)).2 (mmR m (rnR rn vp' vt' (sealL l m.fm b) ss)):=by
 have hgb:=zus (l:=l) hb hbl (by omega);have key:=give_nd (P:=zqd m.fm (v,p)) h hm (by omega) (by omega) (by omega) hb (fun w1 ev vp' vt' h2=>by
  have hop:openP (sealL l m.fm b) s.c.f s.c.cl (givE l m.fm b)=some (m.ms,sealN l m.fm b):=by
   have e:=znh (l:=l) (f:=s.c.f) (cl:=s.c.cl) hb hbl (by omega);rw [hfm,if_pos rfl] at e;exact e
  obtain ⟨q,hs,-⟩:=h2.side;have hrd:RdOk w0 B ev (givE l m.fm b) _:=rd_bys hs (by simp) (fun q hq=>List.mem_append_left _ hq) hgb.1 hgb.2;exact zrh (m:=m.ms) (sl:=sealN l m.fm b) (v:=v) (p:=p) h2 hrd hst (by rw [hgd];simp) (by rw [hgd];rfl) hop HT hv hg2 hu hbd hsl hfu)
 exact key.mono (fun e w' ⟨he,vp',vt',h6⟩=>⟨he,vp',vt',h6.perm ((List.perm_append_comm (l₁:=[_,_,_]) (l₂:=[_,_,_,_,_,_])).append_right ss)⟩)
end
structure VtL (f:Nat) (b:List Rq) (h:Nat→Bool) (n:Nat) (l:List Vt):Prop where
 len:l.length=3*f+1
 bt: ∀t∈l,t.has=true→t.batch=b
 hh: ∀(k:Nat) (hk:k<l.length),l[k].has=h k
 n:l.countP (fun t=>t.has)=n
def hAdd (h:Nat→Bool) (m:Nat):Nat→Bool:=fun j=>if j=m then true else h j
section
variable {f n m:Nat} {b:List Rq} {h:Nat→Bool} {l:List Vt} {sl:Int}
theorem VtL.none (f:Nat) (b:List Rq):VtL f b (fun _=>false) 0 (List.replicate (3*f+1) noVt) where
 len:=by simp
 bt:=fun t ht hh=>by rw [List.eq_of_mem_replicate ht] at hh;simp [noVt] at hh
 hh:=fun k hk=>by simp [noVt]
 n:=by
  rw [List.countP_eq_zero];intro t ht;rw [List.eq_of_mem_replicate ht];simp [noVt]
theorem zgn {α:Type} (p:α→Bool): ∀(l:List α) (k:Nat) (hk:k<l.length) (a:α),p l[k]=false→p a=true→(l.set k a).countP p=l.countP p+1
 | x::l,0,_,a,h1,h2=>by
  have h1:p x=false:=h1;simp [List.countP_cons,h1,h2]
 | x::l,k+1,hk,a,h1,h2=>by
  have ih:=zgn p l k (by simpa using hk) a h1 h2;rw [List.set_cons_succ,List.countP_cons,List.countP_cons,ih];omega
theorem VtL.put (H:VtL f b h n l) (hm:m≤3*f) (h0:h m=false):VtL f b (hAdd h m) (n+1) (l.set m ⟨true,sl,b⟩):=by
 have hml:m<l.length:=by rw [H.len];omega
 refine ⟨by rw [List.length_set,H.len],fun t ht hh=> ?_,fun k hk=> ?_,?_⟩
 ·rcases List.mem_or_eq_of_mem_set ht with ht | rfl
  ·exact H.bt t ht hh
  ·rfl
 ·rw [List.getElem_set]
  unfold hAdd;by_cases hkm:m=k
  ·subst hkm;simp
  ·rw [if_neg hkm,if_neg (fun e=>hkm e.symm)]
   exact H.hh k (by simpa using hk)
 ·rw [zgn _ l m hml _ (by rw [H.hh m hml];exact h0) rfl,H.n]
theorem VtL.can (H:VtL f b h n l) (hm:m≤3*f):openB l m= !h m:=by
 have hml:m<l.length:=by rw [H.len];omega
 unfold openB;simp only [Int.toNat_natCast,List.getElem?_eq_getElem hml,H.hh m hml];cases h m<;>simp
theorem zg7 (b:List Rq): ∀(l:List Vt) (k:Nat),(∀t∈l,t.has=true→t.batch=b)→(picks b l k).length=l.countP (fun t=>t.has)
 | [],_,_=>rfl
 | t::l,k,h=>by
  have ih:=zg7 b l (k+1) (fun u hu=>h u (List.mem_cons_of_mem _ hu));unfold picks;rw [List.countP_cons];cases ht:t.has with
  | false=>rw [if_neg (by simp [goodB,ht])];simpa using ih
  | true=>rw [if_pos (by simp [goodB,ht,h t (by simp) ht]),List.length_cons,ih];simp
theorem VtL.few (H:VtL f b h n l) (hn:n<2*f+1):zby l b (2*f+1)=Option.none:=by
 unfold zby;rw [zg7 b l 0 H.bt,H.n,if_pos hn]
theorem VtL.enough (H:VtL f b h n l) (hn:2*f+1≤n): ∃vs,zby l b (2*f+1)=some vs:=by
 unfold zby;rw [zg7 b l 0 H.bt,H.n,if_neg (by omega)];exact ⟨_,rfl⟩
theorem zd0 {all:List Vt} {q:Nat} {b:List Rq}: ∀l:List Vt,(∀t∈l,t.has=true→t.batch=b)→zay all q l=if l.any (·.has) then (zby all b q).map (Prod.mk b) else Option.none
 | [],_=>rfl
 | t::r,hl=>by
  unfold zay;rw [zd0 r (fun t ht=>hl t (List.mem_cons_of_mem _ ht))];cases hh:t.has
  ·simp [hh]
  ·rw [hl t (by simp) hh]
   cases he:zby all b q<;>simp [hh]
theorem VtL.comm (H:VtL f b h n l) {ps:List Vt} {hs:Bool} {bt:List Rq}:zap f ⟨hs,bt,ps,l⟩=(zby l b (2*f+1)).map (Prod.mk b):=by
 unfold zap;rw [zd0 _ H.bt];by_cases ha:l.any (·.has)=true
 ·rw [if_pos ha]
 ·rw [if_neg ha]
  have hz:l.countP (fun t=>t.has)=0:=by
   rw [List.countP_eq_zero];intro t ht e;exact ha (List.any_eq_true.2 ⟨t,ht,e⟩)
  rw [H.few (by have:=H.n;omega)];rfl
end
def ordI (f:Nat) (ah:Int) (p:Pl):In:=⟨f,0,ah,0,true,p::List.replicate 15 (zbu f)⟩
section
variable {f:Nat} {ah:Int} {p:Pl}
theorem zxz:plAt (ordI f ah p) 1=some p:=rfl
theorem zvo:commI (ordI f ah p) 1=if p.done then none else (zap f p.sl).map fun r=>⟨0,0,1,r.1,r.2⟩:=by
 unfold commI;rw [zxz];rfl
theorem ziw:zbb (ordI f ah p) 1=if p.done then some p.dw else none:=by
 unfold zbb;rw [zxz]
end
def orS (f:Nat) (id:Int) (p:Pl) (com:List (List Int)) (n:Int) (bk:Lp) (out:List (Int×Bys)) (u:Int):Ns:=
 {newS (stdC f) id with ins:=(newS (stdC f) id).ins.set 0 (ordI f 4 p),com:=com,run:=n,bk:=bk,out:=out,used:=u}
section
variable {f:Nat} {id n u:Int} {p p':Pl} {bk:Lp} {com:List (List Int)} {out:List (Int×Bys)} {l:Nt} {r:Rq}
theorem or_at:insAt (orS f id p com n bk out u) 0=ordI f 4 p:=by
 have h:((newS (stdC f) id).ins.set 0 (ordI f 4 p)).length=f+1:=by rw [List.length_set,ad_ins]
 unfold insAt orS;simp only;rw [List.getD_eq_getElem?_getD,List.getElem?_eq_getElem (by omega),List.getElem_set_self];rfl
end
structure OutK (l:Nt) (f:Nat) (out:List (Int×Bys)) (ks:List Int):Prop where
 n:out.length=ks.length
 k: ∀(j:Nat) (o:Int×Bys) (k:Int),out[j]?=some o→ks[j]?=some k→ ∃m sl,openP l f 2 o.2=some (m,sl)∧m.kind=k
theorem OutK.nil (l:Nt) (f:Nat):OutK l f [] []:=⟨rfl,fun j o k h=>by simp at h⟩
theorem OutK.px {l l':Nt} {f:Nat} {out:List (Int×Bys)} {ks:List Int} (h:OutK l f out ks) (hp:Px l l'):OutK l' f out ks:=⟨h.n,fun j o k h1 h2=>by
 obtain ⟨m,sl,e1,e2⟩:=h.k j o k h1 h2;exact ⟨m,sl,zrx e1 hp,e2⟩⟩
theorem OutK.same {l:Nt} {f:Nat} {b:Bys} {k:Int} (h: ∃m sl,openP l f 2 b=some (m,sl)∧m.kind=k) (ps:List Int):OutK l f (ps.map fun p=>(p,b)) (List.replicate ps.length k):=⟨by simp,fun j o k' e1 e2=>by
 rw [List.getElem?_map] at e1;rw [List.getElem?_replicate] at e2;split at e2
 ·cases hp:ps[j]? with
  | none=>rw [hp] at e1;simp at e1
  | some p=>
   rw [hp] at e1;simp only [Option.map_some,Option.some.injEq] at e1 e2;subst e1 e2;exact h
 ·cases e2⟩
abbrev zrz (f id:Nat):Nat:=(zaz (3*f+1) (id:Int)).length
structure OrP (f:Nat) (r:Rq) (np:Nat) (hp:Nat→Bool) (nc:Nat) (hc:Nat→Bool) (p:Pl):Prop where
 has:p.sl.has=true
 bt:p.sl.batch=[r]
 ps:VtL f [r] hp np p.sl.ps
 cs:VtL f [r] hc nc p.sl.cs
 told:p.told=decide (2*f+1≤np)
 done:p.done=false
def OrN (f id:Nat) (r:Rq) (np:Nat) (hp:Nat→Bool) (nc:Nat) (hc:Nat→Bool) (ks:List Int) (u:Int) (s:Ns) (l:Nt):Prop:=
 ∃p com out,s=orS f id p com 0 (newL 2) out u∧OrP f r np hp nc hc p∧OutK l f out ks
def OrF (f id:Nat) (r:Rq) (ks:List Int) (u:Int) (s:Ns) (l:Nt):Prop:=
 ∃p com bk out e,s=orS f id p com 1 bk out u∧p.done=true∧bk.es=[e]∧e.rq=r∧OutK l f out ks
section
variable {f id i np nc:Nat} {hp hc:Nat→Bool} {r:Rq} {p:Pl} {s:Ns} {l:Nt} {u sl:Int} {ks:List Int}
theorem OrP.comm (h:OrP f r np hp (2*f+1) hc p): ∃c:Cp,c.rs=[r]∧commI (ordI f 4 p) 1=some c:=by
 obtain ⟨vs,hv⟩:=h.cs.enough (Nat.le_refl _);refine ⟨⟨0,0,1,[r],vs⟩,rfl,?_⟩;rw [zvo,h.done];obtain ⟨⟨hs,bt,ps,cs⟩,told,has,ct,done,dw⟩:=p;have:=h.cs.comm (ps:=ps) (hs:=hs) (bt:=bt);simp only at this hv⊢;rw [this,hv];rfl
end
abbrev ks4 (f id:Nat):List Int:=List.replicate (zrz f id) 4
abbrev ks5 (f id:Nat):List Int:=List.replicate (zrz f id) 5
def St1 (f id:Nat) (r:Rq) (k i:Nat) (u:Int) (s:Ns) (l:Nt):Prop:=
 (k<2*f∧ ∃hp:Nat→Bool,(∀j,i≤j→j≠id→hp j=false)∧OrN f id r (k+1) hp 0 (fun _=>false) (ks4 f id) u s l)∨
 (k=2*f∧ ∃hp:Nat→Bool,OrN f id r (2*f+1) hp 1 (hAdd (fun _=>false) id) (ks4 f id++ks5 f id) u s l)
def St2 (f id:Nat) (r:Rq) (k i:Nat) (u:Int) (s:Ns) (l:Nt):Prop:=
 (k<2*f∧ ∃hp hc:Nat→Bool,(∀j,i≤j→j≠id→hc j=false)∧OrN f id r (2*f+1) hp (k+1) hc (ks4 f id++ks5 f id) u s l)∨
 (k=2*f∧OrF f id r (ks4 f id++ks5 f id++[10]) u s l)
section
variable {f id i k np nc:Nat} {hp hc:Nat→Bool} {r:Rq} {s s':Ns} {l l':Nt} {u:Int} {ks:List Int}
theorem St1.skip (h:St1 f id r k i u s l):St1 f id r k (i+1) u s l:=by
 rcases h with ⟨h1,hp,h2,h3⟩ | h
 ·exact .inl ⟨h1,hp,fun j hj hne=>h2 j (by omega) hne,h3⟩
 ·exact .inr h
theorem St2.skip (h:St2 f id r k i u s l):St2 f id r k (i+1) u s l:=by
 rcases h with ⟨h1,hp,hc,h2,h3⟩ | h
 ·exact .inl ⟨h1,hp,hc,fun j hj hne=>h2 j (by omega) hne,h3⟩
 ·exact .inr h
theorem St1.two (hf:1≤f) (h:St1 f id r (2*f) i u s l):St2 f id r 0 0 u s l:=by
 rcases h with ⟨h1,-⟩ | ⟨-,hp,h2⟩
 ·omega
 ·refine .inl ⟨by omega,hp,_,fun j _ hne=> ?_,h2⟩
  unfold hAdd;rw [if_neg hne]
structure OrOk (f id:Nat) (u:Int) (s:Ns):Prop where
 c:s.c=stdC f
 id:s.id=(id:Int)
 st:s.stop=false
 gd:s.gd=[]
 u:s.used=u
 bad:s.bad=0
 sl:s.stale=0
 fu:s.full=0
theorem OrN.ok (h:OrN f id r np hp nc hc ks u s l):OrOk f id u s∧s.out.length=ks.length∧OutK l f s.out ks∧s.bk.es=[]:=by
 obtain ⟨p,com,out,rfl,hP,hO⟩:=h;exact ⟨⟨rfl,rfl,rfl,rfl,rfl,rfl,rfl,rfl⟩,hO.n,hO,rfl⟩
theorem OrF.ok (h:OrF f id r ks u s l):OrOk f id u s∧s.out.length=ks.length∧OutK l f s.out ks∧ ∃e,s.bk.es=[e]∧e.rq=r:=by
 obtain ⟨p,com,bk,out,e,rfl,hd,he,hr,hO⟩:=h;exact ⟨⟨rfl,rfl,rfl,rfl,rfl,rfl,rfl,rfl⟩,hO.n,hO,e,he,hr⟩
theorem OrN.px (h:OrN f id r np hp nc hc ks u s l) (hx:Px l l'):OrN f id r np hp nc hc ks u s l':=by
 obtain ⟨p,com,out,rfl,hP,hO⟩:=h;exact ⟨p,com,out,rfl,hP,hO.px hx⟩
end
section
variable {B:Nat} {w0 w W W':World} {ss rs:List Res} {x:Np} {s s':Ns} {l l':Nt} {rn:Nat} {vp vb:Value} {vt:Rn} {f i id k:Nat} {r:Rq} {u:Int}
end
theorem rqSL_ok {l:Nt} {r:Rq} (h:NtOk l):NtOk (rqSL l r):=by
 unfold rqSL;split
 ·rename_i hw;exact zhd h (rqX_ok hw)
 ·exact h
section
variable {B:Nat} {w0 w W W':World} {ss rs:List Res} {x:Np} {s s':Ns} {l l':Nt} {rn:Nat} {vp:Value} {vt:Rn}
theorem nd_req (r:Rq) (h:NdIs B w0 W x s l (rnR rn vp vt l ss)) (hn:l.length≤1000000000):
  Calls Tryz.prog 42 #[.agg (twA x.nt rn),rqAgg r] W fun e w'=>e= .returned (rqAgg (rqS l r))∧ ∃vp' vt',NdIs B w0 w' x s (rqSL l r) (rnR rn vp' vt' (rqSL l r) ss):=by
 obtain ⟨rr,hs,hk⟩:=h.sideN;refine (zw0 r (ss:=ss++[rr]) hs h.nok hn).mono ?_;rintro e w' ⟨he,vp',vt',h2⟩;exact ⟨he,vp',vt',hk w' (rqSL l r) (rnR rn vp' vt' (rqSL l r) ss) (rqSL_ok h.nok) h2⟩
theorem znl (h:Own B w0 W rs) (r:Rq):Own B w0 (W.alloc (rqO r)) (mmR (balW 0 0 0 1 (.slice (some ⟨W.heap.size,0,none⟩) 1 1) [r] 0) rs):=by
 have h0:=h.alloc (rqO r);have hbk:(W.alloc (rqO r)).heap[W.heap.size]?=some (rqO r):=heap_alloc_new W (rqO r);have h1:Own B w0 (W.alloc (rqO r)) (redR (.slice (some ⟨W.heap.size,0,none⟩) 1 1) 6 1 ([r].flatMap zaf)::rs):=h0.red ⟨_,_,rfl,by omega,by unfold maxLen;omega,rfl,(fun e=>by cases e),fun _=>⟨W.heap.size,0,rfl,by simp,fun j hj=>by
  rw [Nat.zero_add,zac (heap_alloc_new W (rqO r))];simp [zaf]⟩⟩ (fun k hk hm=>by
  simp [blkIf,blkOf] at hk;subst hk;exact h.fresh (Nat.le_refl _) hm)
 have h2:Own B w0 (W.alloc (rqO r)) (redR (.slice none 0 0) 2 0 []::_):=zfl 2 h1;have h3:Own B w0 (W.alloc (rqO r)) (ctsR []::_):=h2.mkCts (by simp);have h4:=zfl 5 h3;have h5:Own B w0 (W.alloc (rqO r)) (ptsR []::_):=h4.mkPts (by simp);exact zfl 4 h5
end
theorem zni (id:Nat): ∀n,(zaz n (id:Int)).length=if id<n then n-1 else n
 | 0=>by simp [zaz]
 | n+1=>by
  have ih:=zni id n;have e:zaz (n+1) (id:Int)=zaz n id++if n=id then [] else [(n:Int)]:=by
   unfold zaz;rw [List.range_succ,List.map_append,List.filter_append];congr 1
   by_cases h:n=id
   ·subst h;simp
   ·have: ¬(n:Int)=(id:Int):=by omega
    simp [h,this]
  rw [e,List.length_append,ih];by_cases h:n=id
  ·subst h;simp
  ·rw [if_neg h]
   simp only [List.length_singleton];split<;>split<;>omega
theorem other_is {f id:Nat} (h:id≤3*f):zrz f id=3*f:=by
 unfold zrz;rw [zni,if_pos (by omega)];omega
theorem zhw: ∀(a b c:List Int),zcx (a++b) c=zcx b (zcx a c)
 | [],_,_=>rfl
 | k::a,b,c=>by
  show zcx (a++b) (c.set k.toNat (c.getD k.toNat 0+1))=zcx b (zcx a (c.set k.toNat (c.getD k.toNat 0+1)));exact zhw a b _
theorem zfj (k:Nat): ∀(n:Nat) (c:List Int),k<c.length→zcx (List.replicate n (k:Int)) c=c.set k (c.getD k 0+n)
 | 0,c,h=>by
  rw [List.getD_eq_getElem?_getD,List.getElem?_eq_getElem h];simp [zcx]
 | n+1,c,h=>by
  rw [List.replicate_succ];unfold zcx;rw [Int.toNat_natCast,zfj k n _ (by simpa using h),List.set_set];congr 1
  rw [List.getD_eq_getElem?_getD,List.getElem?_eq_getElem (by simpa using h)];simp;omega
abbrev endK (f id:Nat) (a b:Bool):List Int:=ks4 f id++((if a then ks5 f id else [])++if b then [10] else [])
structure OrE (f id:Nat) (r:Rq) (a b:Bool) (s:Ns) (l:Nt):Prop where
 c:s.c=stdC f
 out:OutK l f s.out (endK f id a b)
 es: ∃es:List En,s.bk.es=es∧es.map En.rq=if b then [r] else []
 cm:cmtN s 16=if b then 1 else 0
section
variable {f id np nc k i:Nat} {hp hc:Nat→Bool} {r:Rq} {s:Ns} {l:Nt} {u:Int} {ks:List Int} {p:Pl} {com:List (List Int)} {bk:Lp} {out:List (Int×Bys)} {n:Int}
theorem zyu:cmtN (orS f id p com n bk out u) 16=if p.done then 1 else 0:=by
 have e: ∀j:Nat,1≤j→zbb (ordI f 4 p) ((j:Int)+1)=none:=fun j hj=>by
  unfold zbb;cases hq:plAt (ordI f 4 p) ((j:Int)+1) with
  | none=>rfl
  | some q=>
   have hq2:q=zbu f:=by
    unfold plAt at hq;cases hi:idx ((j:Int)+1) with
    | none=>rw [hi] at hq;simp at hq
    | some k=>
     rw [hi] at hq;have:=zls hi;obtain rfl:k=j:=by omega
     obtain ⟨k',rfl⟩: ∃k',k=k'+1:=⟨k-1,by omega⟩;have h2:(List.replicate 15 (zbu f))[k']?=some q:=hq;rw [List.getElem?_replicate] at h2;split at h2
     ·exact (Option.some.inj h2).symm
     ·cases h2
   subst hq2;rfl
 unfold cmtN;rw [show List.range 16=0::(List.range 15).map (· +1) from rfl,List.countP_cons];have e0:((List.range 15).map (· +1)).countP (fun (j:Nat)=>(zbb (insAt (orS f id p com n bk out u) 0) ((j:Int)+1)).isSome)=0:=by
  rw [List.countP_eq_zero];intro j hj;simp only [List.mem_map,List.mem_range] at hj;obtain ⟨j',-,rfl⟩:=hj;rw [or_at,e (j'+1) (by omega)];simp
 rw [e0,or_at];have e2:=ziw (f:=f) (ah:=4) (p:=p);have e3:zbb (ordI f 4 p) (((0:Nat):Int)+1)=if p.done then some p.dw else none:=e2
 rw [e3];cases p.done<;>rfl
theorem OrN.e (h:OrN f id r np hp nc hc (ks4 f id) u s l):OrE f id r false false s l:=by
 obtain ⟨p,com,out,rfl,hP,hO⟩:=h;exact ⟨rfl,(by show OutK l f out (ks4 f id++([]++[]));rw [List.append_nil,List.append_nil];exact hO),⟨[],rfl,rfl⟩,by rw [zyu,hP.done]⟩
theorem OrN.e5 (h:OrN f id r np hp nc hc (ks4 f id++ks5 f id) u s l):OrE f id r true false s l:=by
 obtain ⟨p,com,out,rfl,hP,hO⟩:=h;exact ⟨rfl,(by show OutK l f out (ks4 f id++(ks5 f id++[]));rw [List.append_nil];exact hO),⟨[],rfl,rfl⟩,by rw [zyu,hP.done]⟩
theorem OrF.e (h:OrF f id r (ks4 f id++ks5 f id++[10]) u s l):OrE f id r true true s l:=by
 obtain ⟨p,com,bk,out,e,rfl,hd,he,hr,hO⟩:=h;exact ⟨rfl,(by show OutK l f out (ks4 f id++(ks5 f id++[10]));rw [←List.append_assoc];exact hO),⟨[e],he,by rw [List.map_cons,hr];rfl⟩,by rw [zyu,hd]⟩
theorem St1.e (h:St1 f id r k i u s l):OrE f id r (decide (k=2*f)) false s l:=by
 rcases h with ⟨h1,hp,-,h2⟩ | ⟨h1,hp,h2⟩
 ·rw [decide_eq_false (by omega)];exact h2.e
 ·rw [decide_eq_true h1];exact h2.e5
theorem St2.e (h:St2 f id r k i u s l):OrE f id r true (decide (k=2*f)) s l:=by
 rcases h with ⟨h1,hp,hc,-,h2⟩ | ⟨h1,h2⟩
 ·rw [decide_eq_false (by omega)];exact h2.e5
 ·rw [decide_eq_true h1];exact h2.e
end
end Go.Proofs.YtannckelmojkoaaGreat
