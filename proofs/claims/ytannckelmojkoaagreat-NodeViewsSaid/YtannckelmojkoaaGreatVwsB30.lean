/- Parts of the proof, one behind the other. -/
import Derived.Test.YtannckelmojkoaaGreatVwsB29
set_option maxHeartbeats 32000000
set_option maxRecDepth 100000
set_option linter.unusedVariables false
set_option linter.unusedSimpArgs false
namespace Go.Proofs.YtannckelmojkoaaGreat
open Go.RowKit Go.Heap
def bStep (inst seq:Int) (b:Option Cp) (c:Cp):Option Cp:=if c.inst=inst∧c.seq=seq∧(∀d,b=some d→d.view<c.view) then some c else b
theorem zyh (inst seq:Int) (ps:List Pa):bestP inst seq ps=(za4 ps).foldl (bStep inst seq) none:=rfl
def bo (is:Bool) (c:Ct):Option Cp:=if is then some c.cp else none
abbrev zCt:Ct:=⟨0,0,0,.slice none 0 0,.slice none 0 0,[],[]⟩
structure BestOk (w:World) (is:Bool) (c:Ct):Prop where
 b:Bat w c.vb c.rs
 bn:c.rs.length≤100000
 v:Vts w c.vv c.vs
 vn:c.vs.length≤100000
 z:is=false→c=zCt
theorem BestOk.upd {w w':World} {is:Bool} {c:Ct} (h:BestOk w is c) (hu:Upd [] w w'):BestOk w' is c:=⟨h.b.upd (M:=[]) hu (by simp),h.bn,h.v.upd (M:=[]) hu (by simp),h.vn,h.z⟩
section
variable {B:Nat} {w0 W:World} {rs:List Res}
theorem zyi (inst seq:Int) (u:Value) (ps:List Pt) (w:World) (hm:ps.length≤100000) (hc:PtsAt w u ps):
  Calls Tryz.prog 289 #[.int .i64 inst,.int .i64 seq,u] w fun e w'=> ∃c:Ct,e= .returned (.tuple #[ctAgg c,.bool (bestP inst seq (ps.map Pt.pa)).isSome])∧c.cp=(bestP inst seq (ps.map Pt.pa)).getD noCp∧Upd [] w w'∧c.rs.length≤100000∧Bat w' c.vb c.rs∧(∀k∈blkOf c.vb,w.heap.size≤k)∧ ∃a k,c.vv= .slice a c.vs.length k:=by
 obtain ⟨i0,hi,hz0,hz1,hz2⟩:=info_parts Tryz.infoReq;obtain ⟨j0,hj,hy0,hy1,hy2⟩:=info_parts Tryz.infoVote;have HC:=zq hc;have hu0: ∃a k,u= .slice a ps.length k:=by obtain ⟨⟨a,k,e,-⟩,-⟩:=hc;exact ⟨a,k,e⟩
 obtain ⟨a,kk,rfl⟩:=hu0;clear hc;rw [zyh];obtain ⟨F,hF⟩: ∃F,F=(za4 (ps.map Pt.pa)).foldl (bStep inst seq) none:=⟨_,rfl⟩;rw [←hF];have HF:=zq hF;clear hF;have h1:=((Own.start (Below.refl w.heap.size w) (Nat.le_refl _)).box (ctO 0 0 0 (.slice none 0 0) (.slice none 0 0))).box (ctO 0 0 0 (.slice none 0 0) (.slice none 0 0));simp only [zav] at h1;have H1:=zq h1;clear h1;go_enter Tryz.func289,Tryz.ntmps289
 go_upto_region 3 with fail
 generalize (w.alloc (ctO 0 0 0 (.slice none 0 0) (.slice none 0 0))).alloc (ctO 0 0 0 (.slice none 0 0) (.slice none 0 0))=w1 at*
 go_wp2_with fail
 go_loopw [9,16] (fun t i wr=> ∃(k:Nat) (is:Bool) (c:Ct),k≤ps.length∧i= .int .i64 k∧t= .bool is∧Hid (bo is c=(za4 ((ps.map Pt.pa).take k)).foldl (bStep inst seq) none)∧Hid (BestOk w is c)∧Hid (Own w.heap.size w wr [blk (w.heap.size+1) (ctO c.view c.inst c.seq c.vb c.vv),blk w.heap.size (ctO 0 0 0 (.slice none 0 0) (.slice none 0 0))])) (fun _ i _=>ps.length-(intOf i).toNat)
 case atStart=>exact ⟨0,false,zCt,by omega,rfl,rfl,zq rfl,zq ⟨Reads.nil _ _,by simp,Reads.nil _ _,by simp,fun _=>rfl⟩,H1⟩
 case round=>
  clear H1;obtain ⟨k,is,cb,hk,rfl,rfl,HN,HB,H1⟩:=hrel;by_cases hlt:k<ps.length
  ·have hkI:(k:Int)<(ps.length:Int):=by omega
   have hPW:PtW w ps[k]:=HC.out.2 _ (List.getElem_mem hlt);have HCA:=zq (HC.out.upd (Upd.of_below H1.out.below));obtain ⟨b,o,rfl,hbs,q0,q1,q2,q3⟩:=HCA.out.at k hlt;obtain ⟨⟨av,kv,ev⟩,ac,kc,ec⟩:=hPW.slices;have HST:Hid ((za4 ((ps.map Pt.pa).take (k+1))).foldl (bStep inst seq) none=(ps[k].cts.map Ct.cp).foldl (bStep inst seq) (bo is cb)):=zq (by
    rw [zf5 (by simpa using hlt),List.foldl_append,←HN.out,List.getElem_map];rfl)
   obtain ⟨G,hG⟩: ∃G,G=(za4 ((ps.map Pt.pa).take (k+1))).foldl (bStep inst seq) none:=⟨_,rfl⟩;rw [←hG] at HST;have HG:=zq hG;clear hG;generalize ps[k]=cP at*;rw [ev] at q1;rw [ec] at q2;have hcA:CtsAt w (.slice ac cP.cts.length kc) cP.cts:=by have:=hPW.2.2.1;rw [ec] at this;exact this
   have HCC:=zq hcA;have hcn:=hPW.2.2.2;have H2:=zq (H1.out.alloc (.cells #[.int .i64 cP.fm,.slice av cP.vs.length kv,.slice ac cP.cts.length kc,.int .i64 cP.sl] 49 (0,0)));clear hPW ev ec hcA H1 HCA HN
   go_wp2_with fail
   go_loopw [9,23] (fun t i w2=> ∃(j:Nat) (is:Bool) (c:Ct),j≤cP.cts.length∧i= .int .i64 j∧t= .bool is∧Hid (G=((cP.cts.map Ct.cp).drop j).foldl (bStep inst seq) (bo is c))∧Hid (BestOk w is c)∧Hid (Own w.heap.size w w2 [blk (w.heap.size+1) (ctO c.view c.inst c.seq c.vb c.vv),blk w.heap.size (ctO 0 0 0 (.slice none 0 0) (.slice none 0 0))])) (fun _ i _=>cP.cts.length-(intOf i).toNat)
   case atStart=>exact ⟨0,is,cb,by omega,rfl,rfl,HST,HB,H2⟩
   case round=>
    clear H2 HST HB q0 q1 q2 q3;obtain ⟨j,is,cb,hj,rfl,rfl,HN,HB,H1⟩:=hrel;by_cases hjl:j<cP.cts.length
    ·have hjI:(j:Int)<(cP.cts.length:Int):=by omega
     have hjc:(cP.cts.length:Int)≤100000:=by omega
     have hcj:=HCC.out.2 _ (List.getElem_mem hjl);have HC2:=zq (HCC.out.upd (Upd.of_below H1.out.below));obtain ⟨b2,o2,rfl,hbs2,r0,r1,r2,r3,r4⟩:=HC2.out.at j hjl;have HST:Hid (G=((cP.cts.map Ct.cp).drop (j+1)).foldl (bStep inst seq) (bStep inst seq (bo is cb) (Ct.cp cP.cts[j]))):=zq (by
      rw [HN.out,List.drop_eq_getElem_cons (by simpa using hjl),List.foldl_cons,List.getElem_map])
     have HNB:Hid (BestOk w true cP.cts[j]):=zq ⟨hcj.1,hcj.2.1,hcj.2.2.1,hcj.2.2.2,fun h=>by cases h⟩;obtain ⟨x1,k1,e1⟩: ∃a k,cP.cts[j].vb= .slice a cP.cts[j].rs.length k:=by obtain ⟨⟨a,k,e,-⟩,-⟩:=hcj;exact ⟨a,k,e⟩
     obtain ⟨x2,k2,e2⟩: ∃a k,cP.cts[j].vv= .slice a cP.cts[j].vs.length k:=by obtain ⟨-,-,⟨a,k,e,-⟩,-⟩:=hcj;exact ⟨a,k,e⟩
     generalize cP.cts[j]=c at*;obtain ⟨view,ins,sq,vb,vv,rs,vs⟩:=c;simp only at e1 e2 r0 r1 r2 r3 r4 HST;subst e1 e2;have hst:bStep inst seq (bo is cb) (Ct.cp ⟨view,ins,sq,.slice x1 rs.length k1,.slice x2 vs.length k2,rs,vs⟩)=if ins=inst∧sq=seq∧(is=true→cb.view<view) then bo true ⟨view,ins,sq,.slice x1 rs.length k1,.slice x2 vs.length k2,rs,vs⟩ else bo is cb:=by
      unfold bStep;have e:(∀d,bo is cb=some d→d.view<view)↔(is=true→cb.view<view):=by
       unfold bo;cases is with
       | false=>simp
       | true=>simp [Ct.cp]
      by_cases hcd:ins=inst∧sq=seq∧(is=true→cb.view<view)
      ·rw [if_pos hcd,if_pos ⟨hcd.1,hcd.2.1,e.2 hcd.2.2⟩];rfl
      ·rw [if_neg hcd,if_neg (fun h=>hcd ⟨h.1,h.2.1,e.1 h.2.2⟩)]
     have H3:=zq (H1.out.box (ctO view ins sq (.slice x1 rs.length k1) (.slice x2 vs.length k2)));obtain ⟨a3,k3,e3⟩: ∃a k,cb.vb= .slice a cb.rs.length k:=by obtain ⟨a,k,e,-⟩:=HB.out.b;exact ⟨a,k,e⟩
     obtain ⟨a4,k4,e4⟩: ∃a k,cb.vv= .slice a cb.vs.length k:=by obtain ⟨a,k,e,-⟩:=HB.out.v;exact ⟨a,k,e⟩
     obtain ⟨view',ins',sq',vb',vv',rs',vs'⟩:=cb;simp only at e3 e4 hst;subst e3 e4;have HSTP:=zq hst;clear hst hcj HC2 HN H1
     go_upto_region 9 with fail
     generalize wr.heap.size=e9 at*;generalize wr.alloc _=w3 at*;have y0:=zaa (H3.out.blkAt 0 rfl) 0 rfl;have y1:=zaa (H3.out.blkAt 0 rfl) 1 rfl;have y2:=zaa (H3.out.blkAt 0 rfl) 2 rfl;have y3:=zaa (H3.out.blkAt 0 rfl) 3 rfl;have y4:=zaa (H3.out.blkAt 0 rfl) 4 rfl;have b8:=H3.out.blkAt 1 rfl;have z0:=zaa b8 0 rfl;have z1:=zaa b8 1 rfl;have z2:=zaa b8 2 rfl;have z3:=zaa b8 3 rfl;have z4:=zaa b8 4 rfl;have f0:=zab b8 0;have f1:=zab b8 1;have f2:=zab b8 2;have f3:=zab b8 3;have f4:=zab b8 4;clear b8 r0 r1 r2 r3 r4;by_cases hcd:ins=inst∧sq=seq∧(is=true→view'<view)
     ·have HS2:=zq (HSTP.out.trans (if_pos hcd))
      have b1:(ins==inst)=true:=by simp [hcd.1]
      have b2':(sq==seq)=true:=by simp [hcd.2.1]
      have HD:is=false∨(is=true∧decide (view'<view)=true):=by
       cases is with
       | false=>exact .inl rfl
       | true=>exact .inr ⟨rfl,by simpa using hcd.2.2 rfl⟩
      have H4:=zq (Own.five (v0:= .int .i64 view) (v1:= .int .i64 ins) (v2:= .int .i64 sq) (v3:= .slice x1 rs.length k1) (v4:= .slice x2 vs.length k2) H3.out.drop);clear hcd HSTP H3 HB;rcases HD with rfl | ⟨rfl,hgt⟩
      all_goals
       go_wp2_with fail
       generalize World.setCell _ _ _=w5 at*
       go_roundw
       case rel=>exact ⟨j+1,true,⟨view,ins,sq,.slice x1 rs.length k1,.slice x2 vs.length k2,rs,vs⟩,by omega,by go_num,rfl,zq (by rw [HST.out,HS2.out]),HNB,H4⟩
       case measure=>simp [intOf];omega
     ·have HS2:=zq (HSTP.out.trans (if_neg hcd))
      have HD:(ins==inst)=false∨((ins==inst)=true∧(sq==seq)=false)∨((ins==inst)=true∧(sq==seq)=true∧is=true∧decide (view'<view)=false):=by
       by_cases h1:ins=inst
       ·by_cases h2:sq=seq
        ·refine .inr (.inr ⟨by simp [h1],by simp [h2],?_⟩)
         cases is with
         | false=>exact absurd ⟨h1,h2,fun h=>by cases h⟩ hcd
         | true=>exact ⟨rfl,by simp only [decide_eq_false_iff_not];exact fun h=>hcd ⟨h1,h2,fun _=>h⟩⟩
        ·exact .inr (.inl ⟨by simp [h1],by simp [h2]⟩)
       ·exact .inl (by simp [h1])
      have H4:=zq H3.out.drop;clear hcd HSTP H3 HNB;rcases HD with b1 | ⟨b1,b2'⟩ | ⟨b1,b2',rfl,hgt⟩
      all_goals
       go_wp2_with fail
       go_roundw
       case rel=>exact ⟨j+1,_,⟨view',ins',sq',.slice a3 rs'.length k3,.slice a4 vs'.length k4,rs',vs'⟩,by omega,by go_num,rfl,zq (by rw [HST.out,HS2.out]),HB,H4⟩
       case measure=>simp [intOf];omega
    ·have hjI:decide ((j:Int)<(cP.cts.length:Int))=false:=by simp;omega
     have HE:Hid (bo is cb=(za4 ((ps.map Pt.pa).take (k+1))).foldl (bStep inst seq) none):=zq (by
      have:=HN.out;rw [List.drop_eq_nil_of_le (by simp;omega)] at this;exact this.symm.trans HG.out)
     clear HN
     go_wp2_with fail
     go_roundw
     case rel=>exact ⟨k+1,is,cb,by omega,by go_num,rfl,HE,HB,H1⟩
     case measure=>simp [intOf];omega
  ·have hkI:decide ((k:Int)<(ps.length:Int))=false:=by simp;omega
   have HE:Hid (F=bo is cb):=zq (by rw [HN.out,HF.out,List.take_of_length_le (by simp;omega)]);clear HN HF;obtain ⟨a3,k3,e3⟩: ∃a k,cb.vb= .slice a cb.rs.length k:=by obtain ⟨a,k,e,-⟩:=HB.out.b;exact ⟨a,k,e⟩
   obtain ⟨a4,k4,e4⟩: ∃a k,cb.vv= .slice a cb.vs.length k:=by obtain ⟨a,k,e,-⟩:=HB.out.v;exact ⟨a,k,e⟩
   have HCP:Hid (cb.cp=F.getD noCp∧F.isSome=is):=zq (by
    rw [HE.out];unfold bo;cases is with
    | false=>rw [HB.out.z rfl];exact ⟨rfl,rfl⟩
    | true=>exact ⟨rfl,rfl⟩)
   obtain ⟨view',ins',sq',vb',vv',rs',vs'⟩:=cb;simp only at e3 e4;subst e3 e4;have HB2:=zq (HB.out.upd (Upd.of_below H1.out.below));have HBB:Hid (Reads wr (.slice a3 rs'.length k3) 6 rs'.length (zak rs')):=zq HB2.out.b;have hn1:=HB.out.bn;have hn2:=HB.out.vn;simp only at hn1 hn2;obtain ⟨f0,f1,f2,f3,f4,fl,fz⟩:=zbd H1.out.blk_out;have fz3:=fz 3;clear fz HE
   go_wp2_with (at_builtin;refine zcs rfl (.tmp 52) 39 rfl 38 i0 (.agg #[.int .i64 0,.int .i64 0,.int .i64 0,.int .i64 0,.int .i64 0,.int .i64 0]) 6 48 Tryz.underlying39 hi hz0 hz1 hz2 rfl (by decide) (.slice a3 rs'.length k3) rs'.length (zak rs') rfl HBB.out (zdh rs') (by omega) ?_)
   intro v2 w2 hown2 hu2;obtain ⟨ao2,cap2,rfl⟩:=zes hown2;have H2:=zq ((H1.out.row1 hu2 hown2).swap);clear f0 f1 f2 f3 f4 fl fz3 hown2 hu2 H1 HB2 HBB;obtain ⟨f0,f1,f2,f3,f4,fl,fz⟩:=zbd H2.out.blk_out;have fz3:=fz 3;clear fz
   go_upto_region 14 with fail
   have H3:=zq (H2.out.store 3 (.slice ao2 rs'.length cap2));have HB4:Hid (Reads (w2.setCell ⟨w.heap.size+1,3,none⟩ (.slice ao2 rs'.length cap2)) (.slice a4 vs'.length k4) 2 vs'.length (zaf vs')):=zq (by
    have:=HB.out.v;exact this.upd (M:=[]) (Upd.of_below H3.out.below) (by simp))
   generalize w2.setCell ⟨w.heap.size+1,3,none⟩ (.slice ao2 rs'.length cap2)=w3 at*;clear f0 f1 f2 f3 f4 fl fz3 H2;obtain ⟨f0,f1,f2,f3,f4,fl,fz⟩:=zbd H3.out.blk_out;clear fz
   go_wp2_with (at_builtin;refine zcs rfl (.tmp 56) 40 rfl 177 j0 (.agg #[.int .i64 0,.int .i64 0]) 2 16 Tryz.underlying40 hj hy0 hy1 hy2 rfl (by decide) (.slice a4 vs'.length k4) vs'.length (zaf vs') rfl HB4.out (zit vs') (by omega) ?_)
   intro v4 w4 hown4 hu4;obtain ⟨ao4,cap4,rfl⟩:=zes hown4;have H4:=zq ((H3.out.row1 hu4 hown4).swap);clear f0 f1 f2 f3 f4 fl hown4 hu4 H3 HB4;obtain ⟨f0,f1,f2,f3,f4,fl,fz⟩:=zbd H4.out.blk_out;have fz4:=fz 4;clear fz
   go_upto_region 15 with fail
   have H5:=zq (H4.out.store 4 (.slice ao4 vs'.length cap4));generalize w4.setCell ⟨w.heap.size+1,4,none⟩ (.slice ao4 vs'.length cap4)=w5 at*;clear f0 f1 f2 f3 f4 fl fz4 H4;have H5':Hid (Own w.heap.size w w5 [blk (w.heap.size+1) (ctO view' ins' sq' (.slice ao2 rs'.length cap2) (.slice ao4 vs'.length cap4)),ownR 177 2 (.slice ao4 vs'.length cap4) vs'.length (zaf vs'),ownR 38 6 (.slice ao2 rs'.length cap2) rs'.length (zak rs'),blk w.heap.size (ctO 0 0 0 (.slice none 0 0) (.slice none 0 0))]):=H5;obtain ⟨f0,f1,f2,f3,f4,fl,fz⟩:=zbd H5'.out.blk_out;obtain ⟨g0,g1,g2,g3,g4,gl,gz⟩:=zbd H5'.out.drop.drop.drop.blk_out;have gz0:=gz 0;have gz1:=gz 1;have gz2:=gz 2;have gz3:=gz 3;have gz4:=gz 4;clear fz gz;have H6:=zq (Own.five (v0:= .int .i64 view') (v1:= .int .i64 ins') (v2:= .int .i64 sq') (v3:= .slice ao2 rs'.length cap2) (v4:= .slice ao4 vs'.length cap4) (H5'.out.perm ((List.perm_append_comm (l₁:=[_,_,_]) (l₂:=[_])))));clear H5 H5'
   go_wp2_with fail
   generalize World.setCell _ _ _=w6 at*;clear f0 f1 f2 f3 f4 fl g0 g1 g2 g3 g4 gl gz0 gz1 gz2 gz3 gz4;obtain ⟨f0,f1,f2,f3,f4,fl,fz⟩:=zbd H6.out.blk_out;have r1:=zam (H6.out.get 3 rfl);refine bodyPost_ret (v:= .tuple #[ctAgg ⟨view',ins',sq',.slice ao2 rs'.length cap2,.slice ao4 vs'.length cap4,rs',vs'⟩,.bool is]) (by simp [results,Tryz.results289,go_sem,f0,f1,f2,f3,f4]) rfl ⟨⟨view',ins',sq',.slice ao2 rs'.length cap2,.slice ao4 vs'.length cap4,rs',vs'⟩,by rw [HCP.out.2],HCP.out.1,Upd.of_below H6.out.below,hn1,owns_reads r1,?_,_,_,rfl⟩;exact (H6.out.drop.drop.drop.all _ List.mem_cons_self).2
end
def SmN (s:Ns):Prop:= ∀j,InSm (insAt s j)
theorem noIn_sm:InSm noIn:=⟨by simp [noIn]⟩
theorem SmN.of (s:Ns) (h:NsOk s):SmN s:=fun j=>by
 by_cases hj:j<s.ins.length
 ·rw [zbu s j hj];exact (h.insk j hj).2.2.2
 ·unfold insAt
  rw [List.getD_eq_getElem?_getD,List.getElem?_eq_none (by omega)];exact noIn_sm
theorem zuw (s:Ns) (k j:Nat) (st:In):insAt (zbn s k st) j=if k=j∧j<s.ins.length then st else insAt s j:=by
 unfold insAt zbn;simp only [List.getD_eq_getElem?_getD,List.getElem?_set];by_cases h:k=j
 ·subst h
  by_cases h2:k<s.ins.length
  ·simp [h2]
  ·simp [h2]
 ·simp [h]
theorem SmN.set {s:Ns} {k:Nat} {st:In} (h:SmN s) (hs:InSm st):SmN (zbn s k st):=fun j=>by
 rw [zuw];split
 ·exact hs
 ·exact h j
theorem SmN.ins {s t:Ns} (h:SmN s) (e:t.ins=s.ins):SmN t:=fun j=>by
 have:=h j;unfold insAt at this⊢;rw [e];exact this
theorem zv7 (p:NSt) (m:Ms):(sendS p m).1.ins=p.1.ins:=by
 obtain ⟨o,e,-⟩:=zhu p m;rw [e]
theorem zoi {kind:Int} {k:Nat} {seq:Int} {rs:List Rq} {p:NSt} (h:SmN p.1) (hr:rs.length≤4):SmN (zcw kind k seq rs p).1:=by
 unfold zcw;have h1:SmN (sendS p (balM' kind p.1.view k seq rs)).1:=h.ins (zv7 _ _);exact h1.set ((znp hr).sm (h1 k))
theorem sm_look1 {k:Nat} {seq:Int} {p:NSt} (h:SmN p.1):SmN (look1 k seq p).1:=by
 unfold look1;split
 ·rename_i c e
  refine zoi ?_ (zsj (h k) e);exact (h.set (k:=k) ((zf8 (h k)).sm (h k))).ins rfl
 ·exact h
theorem runC_sm {s:Ns} (h:InSm (insAt s 0)):(runC s).rs.length≤4:=by
 unfold runC;cases hc:zbl (insAt s 0) (s.run+1) with
 | none=>simp [noCp]
 | some c=>exact zlt h hc
theorem zsw (p:NSt):(zhr p).1.ins=p.1.ins:=by
 obtain ⟨s,l⟩:=p;obtain ⟨o,l',t',e,-⟩:=zhs s l;rw [e]
theorem zkg: ∀(n:Nat) (p:NSt),InSm (insAt p.1 0)→Grow (4*n) p (runGo n p)∧(runGo n p).1.ins=p.1.ins
 | 0,p,_=>⟨Grow.refl p,rfl⟩
 | n+1,p,h=>by
  unfold runGo;split
  ·have h1:=zo6 p (runC_sm h)
   have h2:=zsw p;obtain ⟨h3,h4⟩:=zkg n (zhr p) (by unfold insAt at h⊢;rw [h2];exact h);exact ⟨(h1.trans h3).mono (by omega),h4.trans h2⟩
  ·exact ⟨(Grow.refl p).mono (by omega),rfl⟩
theorem zus (k:Nat) (rs:List Rq) (p:NSt) (h:SmN p.1):Grow 64 p (doneS k rs p)∧(doneS k rs p).1.ins=p.1.ins:=by
 unfold doneS;simp only;rw [zq3];have hs:SmN {p.1 with mt:=zum p.1 k rs}:=h.ins rfl;obtain ⟨g1,g2⟩:=zkg 16 ({p.1 with mt:=zum p.1 k rs},p.2) (hs 0);split
 ·exact ⟨⟨by simp,by simp,by constructor<;>rfl⟩,rfl⟩
 ·split
  ·exact ⟨⟨g1.out,g1.nt,(KeepN.trans (by constructor<;>rfl) g1.k).trans (by constructor<;>rfl)⟩,g2⟩
  ·exact ⟨⟨g1.out,g1.nt,KeepN.trans (by constructor<;>rfl) g1.k⟩,g2⟩
theorem zut (k:Nat) (seq:Int) (p:NSt) (hf:p.1.c.f≤4) (h:SmN p.1):Grow 77 p (lookS k seq p)∧SmN (lookS k seq p).1:=by
 rw [zrf];have h1:=zkf k seq p hf;have h2:=sm_look1 (k:=k) (seq:=seq) h;generalize look1 k seq p=q at*;unfold look2;split
 ·rename_i c e
  have h3:SmN (zbn q.1 k (zbk (insAt q.1 k) seq)):=h2.set ((zg3 (h2 k)).sm (h2 k));obtain ⟨g1,g2⟩:=zus k c.rs (zbn q.1 k (zbk (insAt q.1 k) seq),q.2) h3;exact ⟨(h1.trans ⟨g1.out,g1.nt,KeepN.trans (by constructor<;>rfl) g1.k⟩),h3.ins g2⟩
 ·exact ⟨h1.mono (by omega),h2⟩
theorem zo5 (k:Nat) (seq:Int) (p:NSt) (hf:p.1.c.f≤4) (h:SmN p.1):Grow 90 p (zd3 k seq p)∧SmN (zd3 k seq p).1:=by
 unfold zd3;have h1:=zfx 4 k seq (zbj (insAt p.1 k) seq).1 p hf;have h2:=zoi (kind:=4) (k:=k) (seq:=seq) h (zne (h k) seq);obtain ⟨h3,h4⟩:=zut k seq (zcw 4 k seq (zbj (insAt p.1 k) seq).1 p) (by rw [h1.k.c];exact hf) h2;exact ⟨(h1.trans h3),h4⟩
theorem znm (inst:Int) (ps:List Pa):0≤zi5 inst ps∧zi5 inst ps≤16:=by
 have: ∀(l:List Cp) (n:Int),0≤n→n≤16→0≤l.foldl (fun n c=>if c.inst=inst∧c.seq≤16 then max n c.seq else n) n∧l.foldl (fun n c=>if c.inst=inst∧c.seq≤16 then max n c.seq else n) n≤16:=by
  intro l
  induction l with
  | nil=>intro n h1 h2;exact ⟨h1,h2⟩
  | cons c l ih=>
   intro n h1 h2;rw [List.foldl_cons];split
   ·exact ih _ (by omega) (by omega)
   ·exact ih _ h1 h2
 exact this _ 0 (by omega) (by omega)
theorem zot (inst:Int) (ps:List Pa):(za8 inst ps).length≤16:=by
 unfold za8;have:=znm inst ps;simp;omega
theorem zyg (inst seq:Int) (ps:List Pa) {c:Cp} (h:bestP inst seq ps=some c):c∈za4 ps:=by
 have: ∀(l:List Cp) (b:Option Cp),l.foldl (fun b c=>if c.inst=inst∧c.seq=seq∧(∀d,b=some d→d.view<c.view) then some c else b) b=some c→b=some c∨c∈l:=by
  intro l
  induction l with
  | nil=>intro b h;exact .inl h
  | cons d l ih=>
   intro b h;rw [List.foldl_cons] at h;rcases ih _ h with h1 | h1
   ·split at h1
    ·simp only [Option.some.injEq] at h1;subst h1;exact .inr (by simp)
    ·exact .inl h1
   ·exact .inr (by simp [h1])
 rcases this _ none h with h1 | h1
 ·simp at h1
 ·exact h1
theorem zp7 {inst:Int} {ps:List Pa} (h: ∀c∈za4 ps,c.rs.length≤4): ∀b∈za8 inst ps,b.length≤4:=by
 intro b hb;unfold za8 at hb;simp only [List.mem_map] at hb;obtain ⟨j,-,rfl⟩:=hb;cases hc:bestP inst ((j:Int)+1) ps with
 | none=>simp [noCp]
 | some c=>exact h c (zyg _ _ _ hc)
def valsR (vals:List Value) (bs:List (List Rq)):Res:=imm (fun w D=>vals.length=bs.length∧ ∀k (hk:k<bs.length),∃u,vals[k]?=some u∧BatIn w u bs[k] D)
 (fun ⟨h0,h⟩ hk hs=>⟨h0,fun k hkl=>let ⟨u,e,hb⟩:=h k hkl;⟨u,e,hb.dep hk hs⟩⟩)
theorem Tryz.infoBs:(Tryz.prog.info? 39).map (fun i=>(i.zero,i.size,i.bytes))=some (some (.slice none 0 0),1,24):=by kernel_rfl
section
variable {B:Nat} {w0 w W:World} {rs:List Res}
theorem pts_at {u:Value} {ps:List Pt} (h:Own B w0 W rs) (i j:Nat) (e1:rs[i]?=some (redR u 4 ps.length (ps.flatMap zaj))) (e2:rs[j]?=some (ptsR ps)):PtsAt W u ps:=by
 refine ⟨zad h e1,fun p hp=> ?_⟩;have hm:=zpp h j e2 p hp;exact ⟨hm.v.1,hm.vn,⟨hm.c.1,fun c hc=>by have:=hm.cs c hc;exact ⟨this.b.bat,this.bn,this.v.1,this.vn⟩⟩,hm.cn⟩
theorem zwo {vals:List Value} {bs:List (List Rq)} {u:Value} {b:List Rq} (h:Own B w0 W rs) (i j:Nat) (e1:rs[i]?=some (valsR vals bs)) (e2:rs[j]?=some (batR u b)):Own B w0 W (valsR (vals++[u]) (bs++[b])::rs):=by
 obtain ⟨D1,⟨⟨n1,q1⟩,l1⟩,s1⟩:=h.fr (List.mem_of_getElem? e1);obtain ⟨D2,⟨q2,l2⟩,s2⟩:=h.fr (List.mem_of_getElem? e2);refine h.mkI rfl (fun hlt=>⟨⟨by simp [n1],fun k hk=> ?_⟩,hlt⟩);by_cases hkl:k<bs.length
 ·obtain ⟨v,e,hb⟩:=q1 k hkl
  exact ⟨v,by rw [List.getElem?_append_left (by omega)];exact e,by rw [List.getElem_append_left hkl];exact hb.mono (s1 l1)⟩
 ·have hk2:k=bs.length:=by simp at hk;omega
  subst hk2;exact ⟨u,by rw [List.getElem?_append_right (by omega)];simp [n1],by rw [List.getElem_append_right (by omega)];simp;exact q2.mono (s2 l2)⟩
theorem bs_mk {v:Value} {vals:List Value} {bs:List (List Rq)} (h:Own B w0 W (ownR 39 1 v bs.length vals::valsR vals bs::rs)):Own B w0 W (bsR v bs::rs):=by
 have h1:=h.toRed;have hr:=h1.redFr 0 rfl;obtain ⟨D1,⟨⟨n1,q1⟩,l1⟩,s1⟩:=h1.fr (r:=valsR vals bs) (by simp);have h2:Own B w0 W (bsR v bs::redR v 1 bs.length vals::valsR vals bs::rs):=h1.mkI rfl (fun hlt=>⟨⟨vals,hr,fun k hk=>let ⟨u,e,hb⟩:=q1 k hk;⟨u,e,hb.mono (s1 l1)⟩⟩,hlt⟩);exact (h2.dropAt 1 (by simp)).dropAt 1 (by simp)
theorem zvp (h:Own B w0 W rs):Own B w0 W (ownR 39 1 (.slice none 0 0) 0 []::valsR [] []::rs):=by
 have h1:Own B w0 W (valsR [] []::rs):=h.mkI rfl (fun hlt=>⟨⟨rfl,fun k hk=>by simp at hk⟩,hlt⟩);exact h1.row0
theorem zos {inst:Int} {u:Value} {ps:List Pt} (h:Own B w0 W (redR u 4 ps.length (ps.flatMap zaj)::ptsR ps::rs)) (hm:ps.length≤100000):
  Calls Tryz.prog 267 #[.int .i64 inst,u] W fun e w'=> ∃v,e= .returned v∧Own B w0 w' (bsR v (za8 inst (ps.map Pt.pa))::redR u 4 ps.length (ps.flatMap zaj)::ptsR ps::rs):=by
 obtain ⟨i0,hi,hz0,hz1,hz2⟩:=info_parts Tryz.infoBs;have hgr:=znm inst (ps.map Pt.pa);obtain ⟨n,hn⟩: ∃n:Nat,zi5 inst (ps.map Pt.pa)=n:=⟨(zi5 inst (ps.map Pt.pa)).toNat,by omega⟩;have hn16:n≤16:=by omega
 have HBS:Hid (za8 inst (ps.map Pt.pa)=(List.range n).map fun (j:Nat)=>((bestP inst ((j:Int)+1) (ps.map Pt.pa)).getD noCp).rs):=zq (by unfold za8;rw [hn];rfl);have HG:=zq (fun W (hp:PtsAt W u ps)=>zur inst u ps W hm hp);rw [hn] at HG;have HB:=zq (fun seq W (hp:PtsAt W u ps)=>zyi inst seq u ps W hm hp);generalize za8 inst (ps.map Pt.pa)=fin at*;obtain ⟨f,hf⟩: ∃f:Nat→List Rq,f=fun (j:Nat)=>((bestP inst ((j:Int)+1) (ps.map Pt.pa)).getD noCp).rs:=⟨_,rfl⟩;rw [←hf] at HBS;have HFJ:=zq hf;have H0:=zq (zvp h);clear h hn hgr hf;go_enter Tryz.func267,Tryz.ntmps267
 go_wp2_with fail
 go_loopw [5,6] (fun v i wr=> ∃(k:Nat) (ao:Option Addr) (cp:Nat) (vals:List Value),k≤n∧i= .int .i64 ((k:Int)+1)∧v= .slice ao k cp∧Hid (Own B w0 wr (ownR 39 1 (.slice ao k cp) k vals::valsR vals ((List.range k).map f)::redR u 4 ps.length (ps.flatMap zaj)::ptsR ps::rs))) (fun _ i _=>n+1-(intOf i).toNat)
 case atStart=>exact ⟨0,none,0,[],by omega,rfl,rfl,H0⟩
 case round=>
  clear H0;obtain ⟨k,ao,cp,vals,hk,rfl,rfl,H1⟩:=hrel;have HGK:=zq (HG.out _ (pts_at H1.out 2 3 rfl rfl))
  go_wp2_with fail
  with_reducible refine HGK.out.mono ?_
  rintro e w2 ⟨rfl,hu⟩;have H2:=zq (H1.out.upd0 hu);clear hu HGK H1;by_cases hlt:k<n
  ·have hle:decide ((k:Int)+1≤(n:Int))=true:=by simp;omega
   have HBK:=zq (HB.out ((k:Int)+1) _ (pts_at H2.out 2 3 rfl rfl))
   go_wp2_with fail
   with_reducible refine HBK.out.mono ?_
   rintro e w3 ⟨c,rfl,hc,hu,hcn,hcb,hnew,hvv⟩;have hfk:f k=c.rs:=by rw [HFJ.out];exact (congrArg Cp.rs hc).symm
   have H3:=zq (zxq (H2.out.upd0 hu) hcb (fun q hq=> .inr ⟨Nat.le_trans H2.out.below.size (hnew q (zc8 hq)),fun hm=>by have:=H2.out.lt q hm;have:=hnew q (zc8 hq);omega⟩));obtain ⟨a1,k1,e1⟩: ∃a k,c.vb= .slice a c.rs.length k:=by obtain ⟨a,k,e,-⟩:=hcb;exact ⟨a,k,e⟩
   obtain ⟨a2,k2,e2⟩:=hvv;obtain ⟨view,ins,sq,vb,vv,bs,vs⟩:=c;simp only at e1 e2 hfk H3;subst e1 e2;have H4:=zq ((H3.out.alloc (ctO view ins sq (.slice a1 bs.length k1) (.slice a2 vs.length k2))).box (.cells #[.slice a1 bs.length k1] 39 (0,0)));have HN:=zq (heap_alloc_new (w3.alloc (ctO view ins sq (.slice a1 bs.length k1) (.slice a2 vs.length k2))) (.cells #[.slice a1 bs.length k1] 39 (0,0)));rw [zav] at H4 HN;have hkI:(k:Int)≤16:=by omega
   clear hc hu hcb hnew hcn HBK H2 H3
   go_wp2_with (at_builtin;refine za7 rfl (.tmp 23) (.tmp 26) 352 rfl 39 i0 (.slice none 0 0) 1 24 Tryz.underlying352 hi hz0 hz1 hz2 rfl (by decide) H4.out 2 (.slice ao k cp) k vals rfl rfl (w3.heap.size+1) #[.slice a1 bs.length k1] 39 (0,0) rfl HN.out rfl (by simp [Value.oneCell']) (by unfold maxLen;omega) (by omega) ?_)
   intro g4 c4 w4 h4;have h5:Own B w0 w4 (blk (w3.heap.size+1) (.cells #[.slice a1 bs.length k1] 39 (0,0))::batR (.slice a1 bs.length k1) bs::ownR 39 1 (.slice (some ⟨g4,0,none⟩) (k+1) c4) (k+1) (vals++[.slice a1 bs.length k1])::valsR vals ((List.range k).map f)::redR u 4 ps.length (ps.flatMap zaj)::ptsR ps::rs):=h4;have h6:=zwo h5 3 1 rfl rfl;have h7:=(((h6.dropAt 1 (by simp)).dropAt 1 (by simp)).dropAt 2 (by simp)).swap;have HF:Hid (Own B w0 w4 (ownR 39 1 (.slice (some ⟨g4,0,none⟩) (k+1) c4) (k+1) (vals++[.slice a1 bs.length k1])::valsR (vals++[.slice a1 bs.length k1]) ((List.range (k+1)).map f)::redR u 4 ps.length (ps.flatMap zaj)::ptsR ps::rs)):=zq (by
    rw [List.range_succ,List.map_append,List.map_singleton,hfk];exact h7)
   clear h4 h5 h6 h7 H4 HN hfk
   go_wp2_with fail
   go_roundw
   case rel=>exact ⟨k+1,some ⟨g4,0,none⟩,c4,_,by omega,by go_num,rfl,HF⟩
   case measure=>simp [intOf];omega
  ·have hle:decide ((k:Int)+1≤(n:Int))=false:=by simp;omega
   have hkn:k=n:=by omega
   have HF:Hid (Own B w0 w2 (bsR (.slice ao k cp) fin::redR u 4 ps.length (ps.flatMap zaj)::ptsR ps::rs)):=zq (by
    rw [HBS.out,←hkn];refine bs_mk (vals:=vals) ?_;have:=H2.out
    simpa using this)
   clear H2 hkn
   go_wp2_with fail
   go_ret
   exact ⟨_,rfl,HF.out⟩
end
theorem zky {α:Type} (g:α→Nat→α) (a:α) (j:Nat):(List.range (j+1)).foldl g a=g ((List.range j).foldl g a) j:=by rw [List.range_succ,List.foldl_append];rfl
def zdk (k:Nat) (p:NSt) (j:Nat):NSt:=(List.range j).foldl (fun q (j:Nat)=>zd3 k ((j:Int)+1) q) p
theorem zfy (k:Nat) (p:NSt) (j:Nat):zdk k p (j+1)=zd3 k ((j:Int)+1) (zdk k p j):=zky _ _ _
def zki (k:Nat) (q:NSt):NSt:=if k=0 then ({q.1 with since:=q.1.now,start:=q.1.now},q.2) else q
theorem zic (k:Nat) (ps:List Pa) (p:NSt):ze2 k ps p=zki k (zdk k (zbn p.1 k (zcc (insAt p.1 k) (za8 k ps)),p.2) (za8 k ps).length):=rfl
theorem znn (k:Nat) (p:NSt) (hf:p.1.c.f≤4) (h:SmN p.1): ∀j,Grow (90*j) p (zdk k p j)∧SmN (zdk k p j).1
 | 0=>⟨Grow.refl p,h⟩
 | j+1=>by
  obtain ⟨h1,h2⟩:=znn k p hf h j;rw [zfy];obtain ⟨h3,h4⟩:=zo5 k ((j:Int)+1) (zdk k p j) (by rw [h1.k.c];exact hf) h2;exact ⟨(h1.trans h3).mono (by omega),h4⟩
section
variable {B:Nat} {w0 w W W':World} {ss rs:List Res} {x:Np} {s s':Ns} {l l':Nt} {k i:Nat}
theorem zrr {v:Value} {bs:List (List Rq)} (h:NdIs B w0 W x s l (bsR v bs::ss)) (hk:k<s.c.f+1) (hi:x.is[k]?=some i) (hb: ∀b∈bs,b.length≤4) (hon:(insAt s k).on=false) (hl:bs.length≤16):
  Calls Tryz.prog 268 #[ptrV i,v] W fun e w'=>e= .returned (.bool true)∧NdIs B w0 w' x (zbn s k (zcc (insAt s k) bs)) l (bsR v bs::ss):=by
 have hk':k<s.ins.length:=by rw [h.ok.ins];exact hk
 obtain ⟨j,rr,hj,ha,g⟩:=h.inst k hk';rw [hi] at hj;cases hj
 rw [zbu s k hk'] at hon⊢;have e:zcc s.ins[k] bs= {s.ins[k] with on:=true,l:=zb6 bs s.ins[k].l}:=by
  unfold zcc;rw [if_pos (by unfold instB;rw [hon];simp;omega)]
 refine (zp3 ha (fun b hb'=>Nat.le_trans (hb b hb') (by omega)) hon hl).mono ?_;rintro e' w' ⟨he,h2⟩;rw [←e] at h2;exact ⟨he,g w' _ _ (zg4 hb) h2⟩
theorem zpf {u:Value} {ps:List Pt} (HQ:(∀j,j<(za8 (k:Int) (ps.map Pt.pa)).length→zmm k ((j:Int)+1) (zdk k (zbn s k (zcc (insAt s k) (za8 (k:Int) (ps.map Pt.pa))),l) j))∨CmtC B w0 x) (h:NdIs B w0 W x s l (redR u 4 ps.length (ps.flatMap zaj)::ptsR ps::ss)) (hk:k<s.c.f+1) (hon:(insAt s k).on=false) (hm:ps.length≤100000) (hc: ∀c∈za4 (ps.map Pt.pa),c.rs.length≤4) (hn:l.length≤500000000) (ho:s.out.length≤500000000):
  Calls Tryz.prog 238 #[ptrV x.p,.int .i64 k,u] W fun e w'=>e= .returned (.tuple #[])∧NdIs B w0 w' x (ze2 k (ps.map Pt.pa) (s,l)).1 (ze2 k (ps.map Pt.pa) (s,l)).2 (redR u 4 ps.length (ps.flatMap zaj)::ptsR ps::ss):=by
 have hcap:=h.caps.1;obtain ⟨i,hi,-⟩:=h.iAt hk;obtain ⟨a,kk,rfl⟩: ∃a k,u= .slice a ps.length k:=by obtain ⟨r,hs,-⟩:=h.side;obtain ⟨a,k,e,-⟩:=zad (k:=0) hs rfl;exact ⟨a,k,e⟩
 obtain ⟨r,hs,hback⟩:=h.side;have HBT:=zq (zos (inst:=k) (rs:=ss++[r]) hs hm);have HBK:=zq hback;have hbl:=zot (k:Int) (ps.map Pt.pa);have HBS:=zq (zp7 (inst:=(k:Int)) hc);have HSM:Hid (SmN s):=zq (SmN.of s h.ok);obtain ⟨fin,hfin⟩: ∃fin,fin=ze2 k (ps.map Pt.pa) (s,l):=⟨_,rfl⟩;have HFIN:Hid (fin=zki k (zdk k (zbn s k (zcc (insAt s k) (za8 k (ps.map Pt.pa))),l) (za8 k (ps.map Pt.pa)).length)):=zq (by rw [hfin,zic]);rw [←hfin];have HQ0:=zq HQ;clear HQ;generalize za8 (k:Int) (ps.map Pt.pa)=bs at*;have hcf:s.c.f≤4:=h.ok.c.f2;have HI:=zq hi;have HON:=zq hon;have HK:=zq hk;have hk0:(0:Int)≤(k:Int):=by omega
 have hkI:(k:Int)<(s.c.f:Int)+1:=by omega
 have hcI:(s.c.f:Int)+1≤(x.ic:Int):=by omega
 clear h hs hback hfin hc hi hon hcap;go_enter Tryz.func238,Tryz.ntmps238
 go_wp2_with fail
 with_reducible refine HBT.out.mono ?_
 rintro e w2 ⟨v,rfl,h2⟩;have H2:Hid (NdIs B w0 w2 x s l (bsR v bs::redR (.slice a ps.length kk) 4 ps.length (ps.flatMap zaj)::ptsR ps::ss)):=zq (HBK.out w2 (_::_::_::ss) h2);clear h2 HBT HBK;obtain ⟨a5,k5,rfl⟩: ∃a k,v= .slice a bs.length k:=by obtain ⟨r,hs,-⟩:=H2.out.side;exact zw2 (hs.get 0 rfl)
 have c18:=H2.out.cell 18 rfl (by decide);have ci:=H2.out.instAt k HI.out;have HIN:=zq (zrr H2.out HK.out HI.out HBS.out HON.out hbl);clear H2 HON
 go_wp2_with fail
 with_reducible refine HIN.out.mono ?_
 rintro e w3 ⟨rfl,h3⟩;have H3:=zq h3.drop;obtain ⟨p0,hp0⟩: ∃p0:NSt,p0=(zbn s k (zcc (insAt s k) bs),l):=⟨_,rfl⟩;rw [←hp0] at HFIN HQ0;have HGR:Hid (∀j,Grow (90*j) p0 (zdk k p0 j)):=zq (fun j=>by rw [hp0];exact (znn k _ hcf (HSM.out.set ((zg4 HBS.out).sm (HSM.out k))) j).1);have H4:Hid (NdIs B w0 w3 x (zdk k p0 0).1 (zdk k p0 0).2 (redR (.slice a ps.length kk) 4 ps.length (ps.flatMap zaj)::ptsR ps::ss)):=zq (by rw [hp0];exact H3.out);have hpn:p0.2.length≤500000000:=by rw [hp0];exact hn
 have hpo:p0.1.out.length≤500000000:=by rw [hp0];exact ho
 have hpk:k<p0.1.c.f+1:=by rw [hp0];exact HK.out
 have HPK:=zq hpk;have hlI:(bs.length:Int)≤16:=by omega
 clear h3 H3 HIN c18 ci hp0 HSM HBS hpk
 go_upto_block 0 with fail
 go_cut [] (fun wx=>Hid (NdIs B w0 wx x (zdk k p0 bs.length).1 (zdk k p0 bs.length).2 (redR (.slice a ps.length kk) 4 ps.length (ps.flatMap zaj)::ptsR ps::ss)))
 case first=>
  go_wp2_with fail
  go_loopw [22] (fun n wr=> ∃j:Nat,j≤bs.length∧n= .int .i64 j∧Hid (NdIs B w0 wr x (zdk k p0 j).1 (zdk k p0 j).2 (redR (.slice a ps.length kk) 4 ps.length (ps.flatMap zaj)::ptsR ps::ss))) (fun n _=>bs.length-(intOf n).toNat)
  case atStart=>exact ⟨0,by omega,rfl,H4⟩
  case round=>
   clear H4;obtain ⟨j,hj,rfl,H4⟩:=hrel;by_cases hlt:j<bs.length
   ·have hjI:(j:Int)<(bs.length:Int):=by omega
    have hj0:(0:Int)≤(j:Int):=by omega
    obtain ⟨g1,g2,g3⟩:=HGR.out j;have g3:=g3.c;have HA:=zq (zmd (k:=k) (seq:=(j:Int)+1) (HQ0.out.imp (fun q=>q j hlt) id) H4.out (by rw [g3];exact HPK.out) (by omega) (by omega));rw [←zfy] at HA;clear g1 g2 g3 H4
    go_wp2_with fail
    with_reducible refine HA.out.mono ?_
    rintro e w5 ⟨rfl,h5⟩;have H5:=zq h5;clear h5 HA
    go_wp2_with fail
    go_roundw
    case rel=>exact ⟨j+1,by omega,by go_num,H5⟩
    case measure=>simp [intOf];omega
   ·have hjI:decide ((j:Int)<(bs.length:Int))=false:=by simp;omega
    obtain rfl:j=bs.length:=by omega
    go_wp2_with fail
    go_meet
    exact H4
 case rest=>
  clear H4;have H5:=hcut;clear hcut;generalize zdk k p0 bs.length=q at*;obtain ⟨s1,l1⟩:=q;simp only at H5 HFIN;by_cases hkz:k=0
  ·subst hkz
   have HF:Hid (fin=({s1 with since:=s1.now,start:=s1.now},l1)):=zq (by rw [HFIN.out];rfl);have n0:=H5.out.ok.now0;have n1:=H5.out.ok.now1;have c17:=H5.out.drew.cell 17 rfl (by decide);have c31:=H5.out.cell 31 rfl (by decide);have c32:=H5.out.cell 32 rfl (by decide);have z31:=H5.out.fz 31;have z32:=H5.out.fz 32;have HN:=zq (zme H5.out.drew);have H6:=zq ((H5.out.putSince s1.now n0 n1).putStart s1.now n0 n1).drew;clear H5 HFIN
   go_wp2_with fail
   refine Held.wp_held [(x.p,17,[ptrV x.t])] [(5,0),(10,0)] [14,17] [(7,true),(5,true),(3,false)] (by kernel_rfl) (by kernel_rfl) ⟨⟨c17,trivial⟩,trivial⟩ ?_;simp only [Held.cutAt,Held.walk,List.take_succ_cons,List.take_zero,List.drop_succ_cons,List.drop_zero]
   go_wp2_with fail
   refine HN.out.mono ?_;rintro e w' ⟨rfl,rfl⟩
   go_wp2_with fail
   refine ⟨⟨⟨c17,trivial⟩,trivial⟩,?_⟩
   go_wp2_with fail
   refine HN.out.mono ?_;rintro e w' ⟨rfl,rfl⟩
   go_wp2_with fail
   refine ⟨⟨⟨c17,trivial⟩,trivial⟩,?_⟩
   go_wp2_with fail
   refine ⟨trivial,?_⟩
   go_wp2_with fail
   refine ⟨trivial,by rfl,⟨⟨rfl,.inl ⟨by kernel_rfl,rfl⟩⟩,⟨rfl,.inl ⟨by kernel_rfl,rfl⟩⟩,trivial⟩,?_⟩;generalize World.drew (World.setCell (World.setCell _ _ _) _ _)=w4 at*;have HFF:Hid (NdIs B w0 w4 x fin.1 fin.2 (redR (.slice a ps.length kk) 4 ps.length (ps.flatMap zaj)::ptsR ps::ss)):=zq (by rw [HF.out];exact H6.out);clear c17 c31 c32 z31 z32 HN H6 HF
   go_wp2_with fail
   refine bodyPost_end (results_none rfl _ _ _) rfl ?_;exact ⟨rfl,HFF.out⟩
  ·have hkz':((k:Int)==0)=false:=by simp;omega
   have HF:Hid (NdIs B w0 wc x fin.1 fin.2 (redR (.slice a ps.length kk) 4 ps.length (ps.flatMap zaj)::ptsR ps::ss)):=zq (by rw [HFIN.out];unfold zki;rw [if_neg hkz];exact H5.out);clear H5 HFIN hkz
   go_wp2_with fail
   refine bodyPost_end (results_none rfl _ _ _) rfl ?_;exact ⟨rfl,HF.out⟩
end
def PtOk (s:Ns):Prop:= ∀q∈s.pts,∀c∈q.2.cs,c.rs.length≤4
theorem PtOk.of {s t:Ns} (h:PtOk s) (e:t.pts=s.pts):PtOk t:=fun q hq=>h q (e ▸ hq)
def begGo (p:NSt) (k:Nat):NSt:=(List.range k).foldl zgx p
theorem zp8 (p:NSt) (k:Nat):begGo p (k+1)=zgx (begGo p k) k:=zky _ _ _
theorem ztx (p:NSt):zlq p=begGo p (p.1.c.f+1):=rfl
theorem zou {p:NSt} {k:Nat} (h:((insAt p.1 k).on || !decide (zan p.1.c.f p.1.view k=p.1.id) || !decide ((lowP p.1).length=2*p.1.c.f+1))=true):zgx p k=p:=by
 unfold zgx;rw [if_pos h]
section
variable {B:Nat} {w0 w W W':World} {ss rs:List Res} {x:Np} {s s':Ns} {l l':Nt} {k i:Nat}
end
section
variable {B:Nat} {w0 w W W':World} {ss rs:List Res} {x:Np} {s s':Ns} {l l':Nt} {k i:Nat}
theorem zoh {r:Res} (h:NdIs B w0 W x s l ss) (k:Nat) (e:ss[k]?=some r) (hM:r.M=[]):NdIs B w0 W x s l (r::ss):=h.onSide (fun q hq=>hq.copy (List.mem_append_left _ (List.mem_of_getElem? e)) hM)
end
section
variable {B:Nat} {w0 w W W':World} {ss rs:List Res} {x:Np} {s s':Ns} {l l':Nt} {rn:Nat} {vp:Value} {vt:Rn}
theorem zup {m:Mm} {b:Bys} {v:Int} {p:NSt} (h:NdIs B w0 W x s l (mmR m (rnR rn vp vt l ss))) (hm:MmOk m) (hn:l.length≤700000000) (h0:0≤m.fm) (h1:m.fm≤100) (hb:bodyP m.ms=some b) (hbl:b.length≤65530) (hfm:formP s.c.f s.c.cl m.ms=true) (hst:s.stop=false) (hgd:s.gd=[])
  (HT: ∀mm:Mm,mm.ms=m.ms→TakeC B w0 x s (sealL l m.fm b) 98 mm (sealN l m.fm b) (v,p)) (hv:v=0∨v=1∨v=2∨v=3) (hg2:p.1.gd.length≤1000)
  (hu:p.1.used≤1000000000000) (hbd:p.1.bad≤1000000000000) (hsl:p.1.stale≤1000000000000) (hfu:p.1.full≤1000000000000):
  Calls Tryz.prog 23 #[ptrV x.p,.agg (twA x.nt rn),.agg (mmA m)] W fun e w'=>e= .returned (.tuple #[])∧ ∃vp' vt',NdIs B w0 w' x (zlu m.fm (v,p)).1 (zlu m.fm (v,p)).2 (mmR m (rnR rn vp' vt' (sealL l m.fm b) ss)):=by
 have hgb:=zuo (l:=l) hb hbl (by omega);have key:=give_nd (P:=zlu m.fm (v,p)) h hm (by omega) (by omega) (by omega) hb (fun w1 ev vp' vt' h2=>by
  have hop:openP (sealL l m.fm b) s.c.f s.c.cl (givE l m.fm b)=some (m.ms,sealN l m.fm b):=by
   have e:=znz (l:=l) (f:=s.c.f) (cl:=s.c.cl) hb hbl (by omega);rw [hfm,if_pos rfl] at e;exact e
  obtain ⟨q,hs,-⟩:=h2.side;have hrd:RdOk w0 B ev (givE l m.fm b) _:=rd_bys hs (by simp) (fun q hq=>List.mem_append_left _ hq) hgb.1 hgb.2;exact zrn (m:=m.ms) (sl:=sealN l m.fm b) (v:=v) (p:=p) h2 hrd hst (by rw [hgd];simp) (by rw [hgd];rfl) hop HT hv hg2 hu hbd hsl hfu)
 exact key.mono (fun e w' ⟨he,vp',vt',h6⟩=>⟨he,vp',vt',h6.perm ((List.perm_append_comm (l₁:=[_,_,_]) (l₂:=[_,_,_,_,_,_])).append_right ss)⟩)
end
structure VtL (f:Nat) (b:List Rq) (h:Nat→Bool) (n:Nat) (l:List Vt):Prop where
 len:l.length=3*f+1
 bt: ∀t∈l,t.has=true→t.batch=b
 hh: ∀(k:Nat) (hk:k<l.length),l[k].has=h k
 n:l.countP (fun t=>t.has)=n
def hAdd (h:Nat→Bool) (m:Nat):Nat→Bool:=fun j=>if j=m then true else h j
section
variable {f n m:Nat} {b:List Rq} {h:Nat→Bool} {l:List Vt} {sl:Int}
theorem VtL.none (f:Nat) (b:List Rq):VtL f b (fun _=>false) 0 (List.replicate (3*f+1) noVt) where
 len:=by simp
 bt:=fun t ht hh=>by rw [List.eq_of_mem_replicate ht] at hh;simp [noVt] at hh
 hh:=fun k hk=>by simp [noVt]
 n:=by
  rw [List.countP_eq_zero];intro t ht;rw [List.eq_of_mem_replicate ht];simp [noVt]
theorem zg0 {α:Type} (p:α→Bool): ∀(l:List α) (k:Nat) (hk:k<l.length) (a:α),p l[k]=false→p a=true→(l.set k a).countP p=l.countP p+1
 | x::l,0,_,a,h1,h2=>by
  have h1:p x=false:=h1;simp [List.countP_cons,h1,h2]
 | x::l,k+1,hk,a,h1,h2=>by
  have ih:=zg0 p l k (by simpa using hk) a h1 h2;rw [List.set_cons_succ,List.countP_cons,List.countP_cons,ih];omega
theorem VtL.put (H:VtL f b h n l) (hm:m≤3*f) (h0:h m=false):VtL f b (hAdd h m) (n+1) (l.set m ⟨true,sl,b⟩):=by
 have hml:m<l.length:=by rw [H.len];omega
 refine ⟨by rw [List.length_set,H.len],fun t ht hh=> ?_,fun k hk=> ?_,?_⟩
 ·rcases List.mem_or_eq_of_mem_set ht with ht | rfl
  ·exact H.bt t ht hh
  ·rfl
 ·rw [List.getElem_set]
  unfold hAdd;by_cases hkm:m=k
  ·subst hkm;simp
  ·rw [if_neg hkm,if_neg (fun e=>hkm e.symm)]
   exact H.hh k (by simpa using hk)
 ·rw [zg0 _ l m hml _ (by rw [H.hh m hml];exact h0) rfl,H.n]
theorem VtL.can (H:VtL f b h n l) (hm:m≤3*f):openB l m= !h m:=by
 have hml:m<l.length:=by rw [H.len];omega
 unfold openB;simp only [Int.toNat_natCast,List.getElem?_eq_getElem hml,H.hh m hml];cases h m<;>simp
theorem zhl (b:List Rq): ∀(l:List Vt) (k:Nat),(∀t∈l,t.has=true→t.batch=b)→(picks b l k).length=l.countP (fun t=>t.has)
 | [],_,_=>rfl
 | t::l,k,h=>by
  have ih:=zhl b l (k+1) (fun u hu=>h u (List.mem_cons_of_mem _ hu));unfold picks;rw [List.countP_cons];cases ht:t.has with
  | false=>rw [if_neg (by simp [goodB,ht])];simpa using ih
  | true=>rw [if_pos (by simp [goodB,ht,h t (by simp) ht]),List.length_cons,ih];simp
theorem VtL.few (H:VtL f b h n l) (hn:n<2*f+1):zb2 l b (2*f+1)=Option.none:=by
 unfold zb2;rw [zhl b l 0 H.bt,H.n,if_pos hn]
theorem VtL.enough (H:VtL f b h n l) (hn:2*f+1≤n): ∃vs,zb2 l b (2*f+1)=some vs:=by
 unfold zb2;rw [zhl b l 0 H.bt,H.n,if_neg (by omega)];exact ⟨_,rfl⟩
theorem zeb {all:List Vt} {q:Nat} {b:List Rq}: ∀l:List Vt,(∀t∈l,t.has=true→t.batch=b)→zax all q l=if l.any (·.has) then (zb2 all b q).map (Prod.mk b) else Option.none
 | [],_=>rfl
 | t::r,hl=>by
  unfold zax;rw [zeb r (fun t ht=>hl t (List.mem_cons_of_mem _ ht))];cases hh:t.has
  ·simp [hh]
  ·rw [hl t (by simp) hh]
   cases he:zb2 all b q<;>simp [hh]
theorem VtL.comm (H:VtL f b h n l) {ps:List Vt} {hs:Bool} {bt:List Rq}:zaq f ⟨hs,bt,ps,l⟩=(zb2 l b (2*f+1)).map (Prod.mk b):=by
 unfold zaq;rw [zeb _ H.bt];by_cases ha:l.any (·.has)=true
 ·rw [if_pos ha]
 ·rw [if_neg ha]
  have hz:l.countP (fun t=>t.has)=0:=by
   rw [List.countP_eq_zero];intro t ht e;exact ha (List.any_eq_true.2 ⟨t,ht,e⟩)
  rw [H.few (by have:=H.n;omega)];rfl
end
def ordI (f:Nat) (ah:Int) (p:Pl):In:=⟨f,0,ah,0,true,p::List.replicate 15 (zbg f)⟩
section
variable {f:Nat} {ah:Int} {p:Pl}
theorem zxp:plAt (ordI f ah p) 1=some p:=rfl
theorem zvh:commI (ordI f ah p) 1=if p.done then none else (zaq f p.sl).map fun r=>⟨0,0,1,r.1,r.2⟩:=by
 unfold commI;rw [zxp];rfl
theorem zje:zbl (ordI f ah p) 1=if p.done then some p.dw else none:=by
 unfold zbl;rw [zxp]
end
def orS (f:Nat) (id:Int) (p:Pl) (com:List (List Int)) (n:Int) (bk:Lp) (out:List (Int×Bys)) (u:Int):Ns:=
 {newS (stdC f) id with ins:=(newS (stdC f) id).ins.set 0 (ordI f 4 p),com:=com,run:=n,bk:=bk,out:=out,used:=u}
section
variable {f:Nat} {id n u:Int} {p p':Pl} {bk:Lp} {com:List (List Int)} {out:List (Int×Bys)} {l:Nt} {r:Rq}
theorem or_at:insAt (orS f id p com n bk out u) 0=ordI f 4 p:=by
 have h:((newS (stdC f) id).ins.set 0 (ordI f 4 p)).length=f+1:=by rw [List.length_set,ad_ins]
 unfold insAt orS;simp only;rw [List.getD_eq_getElem?_getD,List.getElem?_eq_getElem (by omega),List.getElem_set_self];rfl
end
structure OutK (l:Nt) (f:Nat) (out:List (Int×Bys)) (ks:List Int):Prop where
 n:out.length=ks.length
 k: ∀(j:Nat) (o:Int×Bys) (k:Int),out[j]?=some o→ks[j]?=some k→ ∃m sl,openP l f 2 o.2=some (m,sl)∧m.kind=k
theorem OutK.nil (l:Nt) (f:Nat):OutK l f [] []:=⟨rfl,fun j o k h=>by simp at h⟩
theorem OutK.px {l l':Nt} {f:Nat} {out:List (Int×Bys)} {ks:List Int} (h:OutK l f out ks) (hp:Px l l'):OutK l' f out ks:=⟨h.n,fun j o k h1 h2=>by
 obtain ⟨m,sl,e1,e2⟩:=h.k j o k h1 h2;exact ⟨m,sl,zn0 e1 hp,e2⟩⟩
theorem OutK.same {l:Nt} {f:Nat} {b:Bys} {k:Int} (h: ∃m sl,openP l f 2 b=some (m,sl)∧m.kind=k) (ps:List Int):OutK l f (ps.map fun p=>(p,b)) (List.replicate ps.length k):=⟨by simp,fun j o k' e1 e2=>by
 rw [List.getElem?_map] at e1;rw [List.getElem?_replicate] at e2;split at e2
 ·cases hp:ps[j]? with
  | none=>rw [hp] at e1;simp at e1
  | some p=>
   rw [hp] at e1;simp only [Option.map_some,Option.some.injEq] at e1 e2;subst e1 e2;exact h
 ·cases e2⟩
abbrev zkn (f id:Nat):Nat:=(zas (3*f+1) (id:Int)).length
structure OrP (f:Nat) (r:Rq) (np:Nat) (hp:Nat→Bool) (nc:Nat) (hc:Nat→Bool) (p:Pl):Prop where
 has:p.sl.has=true
 bt:p.sl.batch=[r]
 ps:VtL f [r] hp np p.sl.ps
 cs:VtL f [r] hc nc p.sl.cs
 told:p.told=decide (2*f+1≤np)
 done:p.done=false
def OrN (f id:Nat) (r:Rq) (np:Nat) (hp:Nat→Bool) (nc:Nat) (hc:Nat→Bool) (ks:List Int) (u:Int) (s:Ns) (l:Nt):Prop:=
 ∃p com out,s=orS f id p com 0 (newL 2) out u∧OrP f r np hp nc hc p∧OutK l f out ks
def OrF (f id:Nat) (r:Rq) (ks:List Int) (u:Int) (s:Ns) (l:Nt):Prop:=
 ∃p com bk out e,s=orS f id p com 1 bk out u∧p.done=true∧bk.es=[e]∧e.rq=r∧OutK l f out ks
section
variable {f id i np nc:Nat} {hp hc:Nat→Bool} {r:Rq} {p:Pl} {s:Ns} {l:Nt} {u sl:Int} {ks:List Int}
theorem OrP.comm (h:OrP f r np hp (2*f+1) hc p): ∃c:Cp,c.rs=[r]∧commI (ordI f 4 p) 1=some c:=by
 obtain ⟨vs,hv⟩:=h.cs.enough (Nat.le_refl _);refine ⟨⟨0,0,1,[r],vs⟩,rfl,?_⟩;rw [zvh,h.done];obtain ⟨⟨hs,bt,ps,cs⟩,told,has,ct,done,dw⟩:=p;have:=h.cs.comm (ps:=ps) (hs:=hs) (bt:=bt);simp only at this hv⊢;rw [this,hv];rfl
end
abbrev ks4 (f id:Nat):List Int:=List.replicate (zkn f id) 4
abbrev ks5 (f id:Nat):List Int:=List.replicate (zkn f id) 5
def St1 (f id:Nat) (r:Rq) (k i:Nat) (u:Int) (s:Ns) (l:Nt):Prop:=
 (k<2*f∧ ∃hp:Nat→Bool,(∀j,i≤j→j≠id→hp j=false)∧OrN f id r (k+1) hp 0 (fun _=>false) (ks4 f id) u s l)∨
 (k=2*f∧ ∃hp:Nat→Bool,OrN f id r (2*f+1) hp 1 (hAdd (fun _=>false) id) (ks4 f id++ks5 f id) u s l)
def St2 (f id:Nat) (r:Rq) (k i:Nat) (u:Int) (s:Ns) (l:Nt):Prop:=
 (k<2*f∧ ∃hp hc:Nat→Bool,(∀j,i≤j→j≠id→hc j=false)∧OrN f id r (2*f+1) hp (k+1) hc (ks4 f id++ks5 f id) u s l)∨
 (k=2*f∧OrF f id r (ks4 f id++ks5 f id++[10]) u s l)
section
variable {f id i k np nc:Nat} {hp hc:Nat→Bool} {r:Rq} {s s':Ns} {l l':Nt} {u:Int} {ks:List Int}
theorem St1.skip (h:St1 f id r k i u s l):St1 f id r k (i+1) u s l:=by
 rcases h with ⟨h1,hp,h2,h3⟩ | h
 ·exact .inl ⟨h1,hp,fun j hj hne=>h2 j (by omega) hne,h3⟩
 ·exact .inr h
theorem St2.skip (h:St2 f id r k i u s l):St2 f id r k (i+1) u s l:=by
 rcases h with ⟨h1,hp,hc,h2,h3⟩ | h
 ·exact .inl ⟨h1,hp,hc,fun j hj hne=>h2 j (by omega) hne,h3⟩
 ·exact .inr h
theorem St1.two (hf:1≤f) (h:St1 f id r (2*f) i u s l):St2 f id r 0 0 u s l:=by
 rcases h with ⟨h1,-⟩ | ⟨-,hp,h2⟩
 ·omega
 ·refine .inl ⟨by omega,hp,_,fun j _ hne=> ?_,h2⟩
  unfold hAdd;rw [if_neg hne]
structure OrOk (f id:Nat) (u:Int) (s:Ns):Prop where
 c:s.c=stdC f
 id:s.id=(id:Int)
 st:s.stop=false
 gd:s.gd=[]
 u:s.used=u
 bad:s.bad=0
 sl:s.stale=0
 fu:s.full=0
theorem OrN.ok (h:OrN f id r np hp nc hc ks u s l):OrOk f id u s∧s.out.length=ks.length∧OutK l f s.out ks∧s.bk.es=[]:=by
 obtain ⟨p,com,out,rfl,hP,hO⟩:=h;exact ⟨⟨rfl,rfl,rfl,rfl,rfl,rfl,rfl,rfl⟩,hO.n,hO,rfl⟩
theorem OrF.ok (h:OrF f id r ks u s l):OrOk f id u s∧s.out.length=ks.length∧OutK l f s.out ks∧ ∃e,s.bk.es=[e]∧e.rq=r:=by
 obtain ⟨p,com,bk,out,e,rfl,hd,he,hr,hO⟩:=h;exact ⟨⟨rfl,rfl,rfl,rfl,rfl,rfl,rfl,rfl⟩,hO.n,hO,e,he,hr⟩
theorem OrN.px (h:OrN f id r np hp nc hc ks u s l) (hx:Px l l'):OrN f id r np hp nc hc ks u s l':=by
 obtain ⟨p,com,out,rfl,hP,hO⟩:=h;exact ⟨p,com,out,rfl,hP,hO.px hx⟩
end
section
variable {B:Nat} {w0 w W W':World} {ss rs:List Res} {x:Np} {s s':Ns} {l l':Nt} {rn:Nat} {vp vb:Value} {vt:Rn} {f i id k:Nat} {r:Rq} {u:Int}
end
end Go.Proofs.YtannckelmojkoaaGreat
