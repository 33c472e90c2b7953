/- Parts of the proof, one behind the other. -/
import Derived.Test.YtannckelmojkoaaGreatPrpB24
import Derived.Deep.LoopGhost
set_option maxHeartbeats 32000000
set_option maxRecDepth 100000
set_option linter.unusedVariables false
set_option linter.unusedSimpArgs false
namespace Go.Proofs.YtannckelmojkoaaGreat
open Go.RowKit Go.Heap
theorem zth {t:Td} (h:(tdC t).length=21):(tdC t)[19]?=some (.bool t.ready)∧(tdC t)[20]?=some (.int .i64 t.since):=by
 have hb:t.by_.length=13:=by
  unfold tdC zaf at h;simp at h;omega
 unfold tdC zaf;refine ⟨?_,?_⟩
 ·rw [List.getElem?_append_right (by simp),List.getElem?_append_right (by simp;omega)]
  simp [hb]
 ·rw [List.getElem?_append_right (by simp),List.getElem?_append_right (by simp;omega)]
  simp [hb]
theorem tb_td {w:World} {tb f:Nat} {cl:Int} {v:Value} {l:List Td} (h:TbAt w tb f cl v l) {k:Nat} (hk:k<l.length): ∃b o cap,v= .slice (some ⟨b,o,none⟩) l.length cap∧w.cell? ⟨b,o+k*21+19,none⟩=some (.bool l[k].ready)∧w.cell? ⟨b,o+k*21+20,none⟩=some (.int .i64 l[k].since):=by
 obtain ⟨ao,cap,hv,-,-,-,-,hc⟩:=h.r;obtain ⟨b,o,rfl,-,hcell⟩:=hc (by omega);refine ⟨b,o,cap,hv,?_⟩;have g: ∀j,j<21→w.cell? ⟨b,o+k*21+j,none⟩=(tdC l[k])[j]?:=fun j hj=>by
  have:=hcell (k*21+j) (by omega);rw [flat_in tdC 21 l h.b k j hk hj,←Nat.add_assoc] at this;exact this
 obtain ⟨g1,g2⟩:=zth (h.b _ (List.getElem_mem hk));exact ⟨(g 19 (by omega)).trans g1,(g 20 (by omega)).trans g2⟩
theorem zmp {l:List Td} {r:Rq} (h:tabIs l r=true): ∃hk:tabK l r<l.length,l[tabK l r].r=r:=by
 unfold tabIs at h;cases hg:l[tabK l r]? with
 | none=>rw [hg] at h;simp at h
 | some t=>
  rw [hg] at h;obtain ⟨hk,e⟩:=List.getElem?_eq_some_iff.1 hg;exact ⟨hk,by rw [e];simpa using h⟩
theorem since_no {l:List Td} {r:Rq} (hb:tabIs l r=false):za8 l r=none:=by
 unfold za8;unfold tabIs at hb;cases hg:l[tabK l r]? with
 | none=>rfl
 | some t=>
  rw [hg] at hb;simp only [decide_eq_false_iff_not] at hb;simp [hb]
theorem zwh {l:List Td} {r:Rq} (hk:tabK l r<l.length) (hr:l[tabK l r].r=r):za8 l r=if l[tabK l r].ready then some l[tabK l r].since else none:=by
 unfold za8;rw [List.getElem?_eq_getElem hk];simp [hr]
section
variable {W:World} {tb f:Nat} {cl:Int} {v:Value} {l:List Td}
theorem zpj (h:TbAt W tb f cl v l) (hn:l.length≤1000000) (r:Rq):
  Calls Tryz.prog 170 #[ptrV tb,rqAgg r] W fun e w'=>e= .returned (.tuple #[.int .i64 ((za8 l r).getD 0),.bool (za8 l r).isSome])∧Upd [] W w':=by
 have hua:Upd [] W (W.alloc (rqO r)):=(Upd.refl [] W).alloc _;have hb:(W.alloc (rqO r)).heap[W.heap.size]?=some (rqO r):=heap_alloc_new W _;have HT:=zq (h.upd hua);have HUA:=zq hua;have x0:=zaa hb 0 rfl;have x1:=zaa hb 1 rfl;have x2:=zaa hb 2 rfl;have x3:=zaa hb 3 rfl;have x4:=zaa hb 4 rfl;have x5:=zaa hb 5 rfl;have HA:=zq (zmr HT.out hn r);obtain ⟨ao,cap,rfl,hcap,-⟩:=h.r;clear h hua hb;unfold rqAgg at HA⊢;generalize hts:za8 l r=ts;have HTS:=zq hts;clear hts;go_enter Tryz.func170,Tryz.ntmps170
 go_wp2_with fail
 refine HA.out.mono ?_;rintro e w3 ⟨rfl,hu3⟩;have HU3:=zq (HUA.out.trans hu3);have hT:=HT.out.upd hu3;have y2:w3.cell? ⟨tb,2,none⟩=some (.slice ao l.length cap):=zaa hT.o 2 rfl;clear x0 x1 x2 x3 x4 x5 hu3 HA;cases hb:tabIs l r with
 | false=>
  obtain rfl:ts=none:=HTS.out.symm.trans (since_no hb);clear hb hT
  go_wp2_with fail
  refine bodyPost_ret (v:= .tuple #[.int .i64 0,.bool false]) (by simp [results,Tryz.results170,go_sem]) rfl ⟨rfl,HU3.out⟩
 | true=>
  obtain ⟨hk,hr⟩:=zmp hb;obtain ⟨b,o,cap',hv,q19,q20⟩:=tb_td hT hk;simp only [Value.slice.injEq,true_and] at hv;obtain ⟨rfl,rfl⟩:=hv;have hs:ts=if l[tabK l r].ready then some l[tabK l r].since else none:=HTS.out.symm.trans (zwh hk hr)
  have HS:=zq hs;clear HTS;generalize l[tabK l r]=t at*;generalize tabK l r=k at*;have hkI:(k:Int)<(l.length:Int):=by omega
  have hk0:(0:Int)≤k:=by omega
  clear hb hs hT hr;cases hd:t.ready with
  | false=>
   rw [hd] at q19;have HD:=zq hd;clear hd;obtain rfl:ts=none:=by rw [HS.out,HD.out];rfl
   go_wp2_with fail
   refine bodyPost_ret (v:= .tuple #[.int .i64 0,.bool false]) (by simp [results,Tryz.results170,go_sem]) rfl ⟨rfl,HU3.out⟩
  | true=>
   rw [hd] at q19;have HD:=zq hd;clear hd;obtain rfl:ts=some t.since:=by rw [HS.out,HD.out];rfl
   go_wp2_with fail
   refine bodyPost_ret (v:= .tuple #[.int .i64 t.since,.bool true]) (by simp [results,Tryz.results170,go_sem]) rfl ⟨rfl,HU3.out⟩
end
theorem zs0 {w:World} {b o:Nat} {bl:List Bool} (h: ∀j,j<13→w.cell? ⟨b,o+j,none⟩=some (.bool (bl.getD j false))) (hl:bl.length=13) (node:Int):
  Calls Tryz.prog 224 #[.pointer (some ⟨b,o,none⟩),.int .i64 node] w fun e w'=>e= .returned (.bool (decide (0≤node)&&bl.getD node.toNat false))∧w=w':=by
 obtain ⟨res,hres⟩: ∃res,res=(decide (0≤node)&&bl.getD node.toNat false):=⟨_,rfl⟩;rw [←hres];by_cases h0:0≤node
 ·obtain ⟨n,rfl⟩: ∃n:Nat,node=n:=⟨node.toNat,by omega⟩
  by_cases h1:n<13
  ·have hc:=h n h1
   have g1:(n:Int)≤12:=by omega
   have g2:(n:Int)<13:=by omega
   have HR:Hid (res=bl.getD n false):=zq (by rw [hres];simp);clear h hres;generalize bl.getD n false=c at*;go_enter Tryz.func224,Tryz.ntmps224
   go_wp2_with fail
   go_ret
   exact ⟨by rw [HR.out];rfl,rfl⟩
  ·have g1:decide ((n:Int)≤12)=false:=by simp;omega
   have HR:Hid (res=false):=zq (by rw [hres,List.getD_eq_getElem?_getD,List.getElem?_eq_none (by simp;omega)];simp);clear h hres;go_enter Tryz.func224,Tryz.ntmps224
   go_wp2_with fail
   go_ret
   exact ⟨by rw [HR.out];rfl,rfl⟩
 ·have g1:decide ((0:Int)≤node)=false:=by simp;omega
  have HR:Hid (res=false):=zq (by rw [hres,g1];rfl);clear h hres;go_enter Tryz.func224,Tryz.ntmps224
  go_wp2_with fail
  go_ret
  exact ⟨by rw [HR.out];rfl,rfl⟩
theorem td_by {t:Td} (h:(tdC t).length=21):t.by_.length=13∧ ∀j,j<13→(tdC t)[6+j]?=some (.bool (t.by_.getD j false)):=by
 have hb:t.by_.length=13:=by
  unfold tdC zaf at h;simp at h;omega
 refine ⟨hb,fun j hj=> ?_⟩;unfold tdC zaf;rw [List.getElem?_append_right (by simp),List.getElem?_append_left (by simp;omega)];simp only [List.length_cons,List.length_nil,List.getElem?_map];rw [show 6+j-(0+1+1+1+1+1+1)=j by omega,List.getD_eq_getElem?_getD,List.getElem?_eq_getElem (by omega)];rfl
theorem tb_by {w:World} {tb f:Nat} {cl:Int} {v:Value} {l:List Td} (h:TbAt w tb f cl v l) {k:Nat} (hk:k<l.length): ∃b o cap,v= .slice (some ⟨b,o,none⟩) l.length cap∧l[k].by_.length=13∧ ∀j,j<13→w.cell? ⟨b,o+k*21+6+j,none⟩=some (.bool (l[k].by_.getD j false)):=by
 obtain ⟨ao,cap,hv,-,-,-,-,hc⟩:=h.r;obtain ⟨b,o,rfl,-,hcell⟩:=hc (by omega);obtain ⟨g1,g2⟩:=td_by (h.b _ (List.getElem_mem hk));refine ⟨b,o,cap,hv,g1,fun j hj=> ?_⟩;have:=hcell (k*21+(6+j)) (by omega);rw [flat_in tdC 21 l h.b k (6+j) hk (by omega),←Nat.add_assoc,←Nat.add_assoc] at this;exact this.trans (g2 j hj)
theorem has_no {l:List Td} {r:Rq} {node:Int} (hb:tabIs l r=false):zcl l r node=false:=by
 unfold zcl;unfold tabIs at hb;cases hg:l[tabK l r]? with
 | none=>rfl
 | some t=>
  rw [hg] at hb;simp only at hb⊢;rw [hb];rfl
theorem has_yes {l:List Td} {r:Rq} {node:Int} (hk:tabK l r<l.length) (hr:l[tabK l r].r=r):zcl l r node=(decide (0≤node)&&l[tabK l r].by_.getD node.toNat false):=by
 unfold zcl;rw [List.getElem?_eq_getElem hk];simp [hr]
section
variable {W:World} {tb f:Nat} {cl:Int} {v:Value} {l:List Td}
theorem zwv (h:TbAt W tb f cl v l) (hn:l.length≤1000000) (r:Rq) (node:Int):
  Calls Tryz.prog 165 #[ptrV tb,rqAgg r,.int .i64 node] W fun e w'=>e= .returned (.bool (zcl l r node))∧Upd [] W w':=by
 have hua:Upd [] W (W.alloc (rqO r)):=(Upd.refl [] W).alloc _;have hb:(W.alloc (rqO r)).heap[W.heap.size]?=some (rqO r):=heap_alloc_new W _;have HT:=zq (h.upd hua);have HUA:=zq hua;have x0:=zaa hb 0 rfl;have x1:=zaa hb 1 rfl;have x2:=zaa hb 2 rfl;have x3:=zaa hb 3 rfl;have x4:=zaa hb 4 rfl;have x5:=zaa hb 5 rfl;have HA:=zq (zmr HT.out hn r);obtain ⟨ao,cap,rfl,hcap,-⟩:=h.r;clear h hua hb;unfold rqAgg at HA⊢;generalize hts:zcl l r node=ts;have HTS:=zq hts;clear hts;go_enter Tryz.func165,Tryz.ntmps165
 go_wp2_with fail
 refine HA.out.mono ?_;rintro e w3 ⟨rfl,hu3⟩;have HU3:=zq (HUA.out.trans hu3);have hT:=HT.out.upd hu3;have y2:w3.cell? ⟨tb,2,none⟩=some (.slice ao l.length cap):=zaa hT.o 2 rfl;clear x0 x1 x2 x3 x4 x5 hu3 HA;cases hb:tabIs l r with
 | false=>
  have HF:Hid (ts=false):=zq (HTS.out.symm.trans (has_no hb));clear hb hT
  go_wp2_with fail
  go_ret
  exact ⟨by rw [HF.out];rfl,HU3.out⟩
 | true=>
  obtain ⟨hk,hr⟩:=zmp hb;obtain ⟨b,o,cap',hv,hbl,hby⟩:=tb_by hT hk;simp only [Value.slice.injEq,true_and] at hv;obtain ⟨rfl,rfl⟩:=hv;have HS:=zq (HTS.out.symm.trans (has_yes hk hr));have HC:=zq (zs0 hby hbl node);clear HTS hby hbl;generalize (decide (0≤node)&&l[tabK l r].by_.getD node.toNat false)=res at*;generalize tabK l r=k at*;have hkI:(k:Int)<(l.length:Int):=by omega
  have hk0:(0:Int)≤k:=by omega
  clear hb hT hr
  go_wp2_with fail
  refine HC.out.mono ?_;rintro e w' ⟨rfl,rfl⟩
  go_wp2_with fail
  go_ret
  exact ⟨by rw [HS.out];rfl,HU3.out⟩
end
section
variable {B:Nat} {w0 w W W':World} {ss rs:List Res} {A:List Nat}
theorem zz7 (st:List (Bool×Int)) (k:Nat) (hk:k<st.length):(st.map Prod.snd).getD k 0=st[k].2:=by simp [List.getD,hk]
end
section
variable {client time kind key val sl:Int} {vs:List Int} {k:Nat}
theorem ap_bad (h:key<0∨64≤key∨val≤ -2147483648∨2147483648≤val):zcy vs ⟨client,time,kind,key,val,sl⟩=(0,vs):=by unfold zcy;rw [if_pos h]
theorem ap_1 (hk:k<64) (h1: -2147483648<val) (h2:val<2147483648):zcy vs ⟨client,time,1,k,val,sl⟩=(vs.getD k 0,vs.set k val):=by unfold zcy;rw [if_neg (by simp only;omega),if_pos rfl];simp
theorem ap_2 (hk:k<64) (h1: -2147483648<val) (h2:val<2147483648):zcy vs ⟨client,time,2,k,val,sl⟩=(vs.getD k 0,vs):=by unfold zcy;rw [if_neg (by simp only;omega),if_neg (by simp),if_pos rfl];simp
theorem ap_3a (hk:k<64) (h1: -2147483648<val) (h2:val<2147483648) (h3: ¬(-2147483648<vs.getD k 0+val∧vs.getD k 0+val<2147483648)):zcy vs ⟨client,time,3,k,val,sl⟩=(vs.getD k 0,vs):=by
 unfold zcy;rw [if_neg (by simp only;omega),if_neg (by simp),if_neg (by simp),if_pos rfl,if_pos (by simp only [Int.toNat_natCast];omega)];simp
theorem ap_3b (hk:k<64) (h1: -2147483648<val) (h2:val<2147483648) (h3: -2147483648<vs.getD k 0+val∧vs.getD k 0+val<2147483648):zcy vs ⟨client,time,3,k,val,sl⟩=(vs.getD k 0+val,vs.set k (vs.getD k 0+val)):=by
 unfold zcy;rw [if_neg (by simp only;omega),if_neg (by simp),if_neg (by simp),if_pos rfl,if_neg (by simp only [Int.toNat_natCast];omega)];simp
theorem ap_4 (hk:k<64) (h1: -2147483648<val) (h2:val<2147483648):zcy vs ⟨client,time,4,k,val,sl⟩=(vs.getD k 0,vs.set k 0):=by
 unfold zcy;rw [if_neg (by simp only;omega),if_neg (by simp),if_neg (by simp),if_neg (by simp),if_pos rfl];simp
theorem ap_5 (hk:k<64) (h1: -2147483648<val) (h2:val<2147483648):zcy vs ⟨client,time,5,k,val,sl⟩=(sumV vs,vs):=by
 unfold zcy;rw [if_neg (by simp only;omega),if_neg (by simp),if_neg (by simp),if_neg (by simp),if_neg (by simp),if_pos rfl]
theorem ap_6 (hk:k<64) (h1: -2147483648<val) (h2:val<2147483648) (n1:kind≠1) (n2:kind≠2) (n3:kind≠3) (n4:kind≠4) (n5:kind≠5):zcy vs ⟨client,time,kind,k,val,sl⟩=(0,vs):=by
 unfold zcy;rw [if_neg (by simp only;omega),if_neg n1,if_neg n2,if_neg n3,if_neg n4,if_neg n5]
end
section
variable {B:Nat} {w0 w W W':World} {ss rs:List Res} {p s c g cap n:Nat}
end
section
variable {B:Nat} {w0 w W W':World} {ss rs:List Res} {c g cap:Nat} {l:List (Int×Int)} {A:List Nat}
theorem zyr (hc:W.heap[c]?=some (chO g l.length cap)) (k:Nat) (hk:k<l.length):
  Calls Tryz.prog 196 #[.pointer (some ⟨c,0,none⟩),.int .i64 k] W fun e w'=>e= .returned (.bool true)∧w'=W:=by
 have x0:W.cell? ⟨c,0,none⟩=some (.slice (some ⟨g,0,none⟩) l.length cap):=by rw [zac hc];rfl
 have hkI:(k:Int)<(l.length:Int):=by omega
 have hk0:(0:Int)≤(k:Int):=by omega
 clear hc;go_enter Tryz.func196,Tryz.ntmps196
 go_wp2_with fail
 go_ret
 exact ⟨rfl,rfl⟩
theorem zuc (hc:W.heap[c]?=some (chO g l.length cap)) (hr:(rpR g l).At W A) (hcap:l.length≤cap) (k:Nat) (hk:k<l.length):
  Calls Tryz.prog 112 #[.pointer (some ⟨c,0,none⟩),.int .i64 k] W fun e w'=>e= .returned (.int .i64 l[k].1)∧w'=W:=by
 have x0:W.cell? ⟨c,0,none⟩=some (.slice (some ⟨g,0,none⟩) l.length cap):=by rw [zac hc];rfl
 obtain ⟨q1,q2,-⟩:=zdu hr;have r0:W.cell? ⟨g,k*2,none⟩=some (.int .i64 l[k].1):=by
  rw [show k*2=k*2+0 from rfl,q2 _ (by rw [rp_len];omega),flat_get (cells:=zed) (sz:=2) (fun _=>rfl) l k 0 l[k] (by simp) (by omega)];rfl
 have hkI:(k:Int)<(l.length:Int):=by omega
 have hk0:(0:Int)≤(k:Int):=by omega
 have hcI:(l.length:Int)≤(cap:Int):=by omega
 have HH:=zq (zyr hc k hk);clear hc hr q2;generalize l[k].1=t at*;go_enter Tryz.func112,Tryz.ntmps112
 go_wp2_with fail
 refine HH.out.mono ?_;rintro e w1 ⟨rfl,rfl⟩
 go_wp2_with fail
 go_ret
 exact ⟨rfl,rfl⟩
end
theorem znb: ∀(l:List Int) (a:Int),l.foldl (· + ·) a=a+l.sum
 | [],a=>by simp
 | x::l,a=>by rw [List.foldl_cons,znb l,List.sum_cons];omega
theorem sumV_sum (l:List Int):sumV l=l.sum:=by
 unfold sumV;rw [znb];omega
section
variable {client time kind key val sl:Int} {st:List (Bool×Int)} {k:Nat}
theorem ax_bad (h:key<0∨64≤key∨val≤ -2147483648∨2147483648≤val):zbn st ⟨client,time,kind,key,val,sl⟩=(0,st):=by unfold zbn;rw [if_pos h]
theorem zku (hs:k<st.length):(st.getD k (false,0)).2=st[k].2:=by simp [List.getD,hs]
theorem ax_1 (hk:k<64) (hs:k<st.length) (h1: -2147483648<val) (h2:val<2147483648):zbn st ⟨client,time,1,k,val,sl⟩=(st[k].2,st.set k (true,val)):=by unfold zbn;rw [if_neg (by simp only;omega)];simp only [Int.toNat_natCast,zku hs];rw [if_pos trivial]
theorem ax_2 (hk:k<64) (hs:k<st.length) (h1: -2147483648<val) (h2:val<2147483648):zbn st ⟨client,time,2,k,val,sl⟩=(st[k].2,st):=by unfold zbn;rw [if_neg (by simp only;omega)];simp only [Int.toNat_natCast,zku hs];rw [if_neg (by decide),if_pos trivial]
theorem ax_3a (hk:k<64) (hs:k<st.length) (h1: -2147483648<val) (h2:val<2147483648) (h3: ¬(-2147483648<st[k].2+val∧st[k].2+val<2147483648)):zbn st ⟨client,time,3,k,val,sl⟩=(st[k].2,st):=by unfold zbn;rw [if_neg (by simp only;omega)];simp only [Int.toNat_natCast,zku hs];rw [if_neg (by decide),if_neg (by decide),if_pos trivial,if_pos h3]
theorem ax_3b (hk:k<64) (hs:k<st.length) (h1: -2147483648<val) (h2:val<2147483648) (h3: -2147483648<st[k].2+val∧st[k].2+val<2147483648):zbn st ⟨client,time,3,k,val,sl⟩=(st[k].2+val,st.set k (true,st[k].2+val)):=by unfold zbn;rw [if_neg (by simp only;omega)];simp only [Int.toNat_natCast,zku hs];rw [if_neg (by decide),if_neg (by decide),if_pos trivial,if_neg (fun h=>h h3)]
theorem ax_4 (hk:k<64) (hs:k<st.length) (h1: -2147483648<val) (h2:val<2147483648):zbn st ⟨client,time,4,k,val,sl⟩=(st[k].2,st.set k (false,0)):=by unfold zbn;rw [if_neg (by simp only;omega)];simp only [Int.toNat_natCast,zku hs];rw [if_neg (by decide),if_neg (by decide),if_neg (by decide),if_pos trivial]
theorem ax_5 (hk:k<64) (h1: -2147483648<val) (h2:val<2147483648):zbn st ⟨client,time,5,k,val,sl⟩=(sumV (st.map Prod.snd),st):=by unfold zbn;rw [if_neg (by simp only;omega)];simp only;rw [if_neg (by decide),if_neg (by decide),if_neg (by decide),if_neg (by decide),if_pos trivial,sumV_sum]
theorem ax_6 (hk:k<64) (h1: -2147483648<val) (h2:val<2147483648) (n1:kind≠1) (n2:kind≠2) (n3:kind≠3) (n4:kind≠4) (n5:kind≠5):zbn st ⟨client,time,kind,k,val,sl⟩=(0,st):=by unfold zbn;rw [if_neg (by simp only;omega)];simp only;rw [if_neg n1,if_neg n2,if_neg n3,if_neg n4,if_neg n5]
end
theorem zlh {st:List (Bool×Int)} (hl:st.length=64) (r:Rq):(zbn st r).1=(zcy (st.map Prod.snd) r).1∧(zbn st r).2.map Prod.snd=(zcy (st.map Prod.snd) r).2∧(zbn st r).2.length=64:=by
 obtain ⟨client,time,kind,key,val,sl⟩:=r;by_cases hb:key<0∨64≤key∨val≤ -2147483648∨2147483648≤val
 ·rw [ax_bad hb,ap_bad hb];exact ⟨rfl,rfl,hl⟩
 obtain ⟨k,rfl⟩: ∃k:Nat,key=k:=⟨key.toNat,by omega⟩;have hk:k<64:=by omega
 have hs:k<st.length:=by omega
 have v1: -2147483648<val:=by omega
 have v2:val<2147483648:=by omega
 have hx:=zz7 st k hs;by_cases e1:kind=1
 ·subst e1;rw [ax_1 hk hs v1 v2,ap_1 hk v1 v2,hx];exact ⟨rfl,by rw [List.map_set],by simpa using hl⟩
 by_cases e2:kind=2
 ·subst e2;rw [ax_2 hk hs v1 v2,ap_2 hk v1 v2,hx];exact ⟨rfl,rfl,hl⟩
 by_cases e3:kind=3
 ·subst e3
  by_cases h3: -2147483648<st[k].2+val∧st[k].2+val<2147483648
  ·rw [ax_3b hk hs v1 v2 h3,ap_3b hk v1 v2 (by rw [hx];exact h3),hx];exact ⟨rfl,by rw [List.map_set],by simpa using hl⟩
  ·rw [ax_3a hk hs v1 v2 h3,ap_3a hk v1 v2 (by rw [hx];exact h3),hx];exact ⟨rfl,rfl,hl⟩
 by_cases e4:kind=4
 ·subst e4;rw [ax_4 hk hs v1 v2,ap_4 hk v1 v2,hx];exact ⟨rfl,by rw [List.map_set],by simpa using hl⟩
 by_cases e5:kind=5
 ·subst e5;rw [ax_5 hk v1 v2,ap_5 hk v1 v2];exact ⟨rfl,rfl,hl⟩
 rw [ax_6 hk v1 v2 e1 e2 e3 e4 e5,ap_6 hk v1 v2 e1 e2 e3 e4 e5];exact ⟨rfl,rfl,hl⟩
theorem zmy {st:List (Bool×Int)} (hl:st.length=64) (hv:VsOk (st.map Prod.snd)) (r:Rq):VsOk ((zbn st r).2.map Prod.snd):=by
 rw [(zlh hl r).2.1];exact (zt4 hv r).1
section
variable {B:Nat} {w0 w W W':World} {ss rs:List Res} {A:List Nat}
end
structure LxS (n:Nat) (st:List (Bool×Int)) (rp:List (Int×Int)):Prop where
 rl:rp.length=n
 sl:st.length=64
 ok:VsOk (st.map Prod.snd)
theorem LxS.step {n:Nat} {st:List (Bool×Int)} {rp:List (Int×Int)} (h:LxS n st rp) (r:Rq) (q:Nat) (v:Int×Int):LxS n (zbn st r).2 (rp.set q v):=
 ⟨by simpa using h.rl,(zlh h.sl r).2.2,zmy h.sl h.ok r⟩
theorem zwp (rs:List Rq) (b:Lp) (l:List En):rs.foldl (fun q r=>((stepL q.1 r).1,q.2++(stepL q.1 r).2)) (b,l)=((zf6 b rs).1,l++(zf6 b rs).2):=by
 induction rs generalizing b l with
 | nil=>simp [zf6]
 | cons r rs ih=>
  unfold zf6;rw [List.foldl_cons,List.foldl_cons,ih,ih];simp
theorem zh8 (b:Lp) (r:Rq) (rs:List Rq):zf6 b (r::rs)=((zf6 (stepL b r).1 rs).1,(stepL b r).2++(zf6 (stepL b r).1 rs).2):=by
 conv=>lhs;unfold zf6
 rw [List.foldl_cons,zwp];simp
theorem stepL_no {n:Nat} {es:List En} {st:List (Bool×Int)} {rp:List (Int×Int)} {r:Rq} (hl:rp.length=n) (h:r.client<0∨(n:Int)≤r.client∨(∃q:Nat,∃hq:q<rp.length,r.client=q∧r.time≤rp[q].1)):stepL ⟨n,es,st,rp⟩ r=(⟨n,es,st,rp⟩,[]):=by
 unfold stepL;rw [if_pos];rcases h with h | h | ⟨q,hq,h,h2⟩
 ·exact .inl h
 ·exact .inr (.inl h)
 ·refine .inr (.inr ?_)
  unfold lastL;simp only;rw [if_pos (by omega),h,Int.toNat_natCast]
  simpa [List.getD,hq] using h2
theorem zwn {n:Nat} {es:List En} {st:List (Bool×Int)} {rp:List (Int×Int)} {r:Rq} {q:Nat} (hl:rp.length=n) (hq:q<rp.length) (h:r.client=q) (h2:rp[q].1<r.time):stepL ⟨n,es,st,rp⟩ r=(⟨n,es,(zbn st r).2,rp.set q (r.time,(zbn st r).1)⟩,[⟨r,(zbn st r).1⟩]):=by
 unfold stepL;rw [if_neg]
 ·simp only [h,Int.toNat_natCast]
 ·simp only
  unfold lastL;simp only;rw [if_pos (by omega),h,Int.toNat_natCast];simp [List.getD,hq];omega
theorem zwm (b:Lp) (r:Rq):(stepL b r).2.length≤1:=by unfold stepL;split<;>simp
theorem zkv (b:Lp) (rs:List Rq):(zf6 b rs).2.length≤rs.length:=by
 induction rs generalizing b with
 | nil=>simp [zf6]
 | cons r rs ih=>
  rw [zh8,List.length_append,List.length_cons];have:=zwm b r;have:=ih (stepL b r).1;omega
section
variable {B:Nat} {w0 w W W':World} {ss rs:List Res} {p s c g cap n:Nat}
end
theorem znw (s:Ns) (l:Nt) (c t r:Int):zv6 (s,l) c t r=match sealP l (repM s.id c t r) with
 | (none,l')=>(s,l')
 | (some b,l')=>({s with out:=s.out++[(100+c,b)]},l'):=by unfold zv6;simp only;rfl
section
variable {B:Nat} {w0 w W W':World} {ss rs:List Res} {x:Np} {s s':Ns} {l l':Nt}
end
section
variable {B:Nat} {w0 w W W':World} {ss rs:List Res} {x:Np} {s s':Ns} {l l':Nt}
theorem nd_done (h:NdIs B w0 W x s l ss) (k:Nat) (hk:k<s.c.f+1) {i:Nat} (hi:x.is[k]?=some i):Calls Tryz.prog 156 #[ptrV i] W fun e w'=>e= .returned (.int .i64 (doneI (insAt s k)))∧W=w':=by
 have hk':k<s.ins.length:=by rw [h.ok.ins];exact hk
 obtain ⟨j,rr,hj,ha,-⟩:=h.ask k hk';rw [hi] at hj;cases hj
 rw [zbc s k hk'];exact ai_done ha
end
theorem zyy {p:NSt} (ht:p.1.tab=[]) (e:En): ∃o l',zhk p e=({p.1 with out:=p.1.out++o},l')∧o.length≤1∧l'.length≤p.2.length+1:=by
 obtain ⟨s,l⟩:=p;simp only at ht;have hl:=zgf (l:=l) (m:=repM s.id e.rq.client e.rq.time e.res);unfold zhk;simp only;rw [znw];generalize sealP l (repM s.id e.rq.client e.rq.time e.res)=sp at*;obtain ⟨o,l2⟩:=sp;have hd: ∀c t,ztd ([]:List Td) c t=[]:=fun _ _=>rfl;cases o with
 | none=>exact ⟨[],l2,by simp only [List.append_nil];rw [ht,hd,←ht],by simp,hl⟩
 | some b=>exact ⟨[_],l2,by simp only;rw [ht,hd,←ht],by simp,hl⟩
theorem zon {p:NSt} (ht:p.1.tab=[]): ∀es:List En,∃o l',es.foldl zhk p=({p.1 with out:=p.1.out++o},l')∧o.length≤es.length∧l'.length≤p.2.length+es.length:=by
 intro es
 induction es generalizing p with
 | nil=>exact ⟨[],p.2,by simp,by simp,by simp⟩
 | cons e es ih=>
  obtain ⟨o,l',h1,h2,h3⟩:=zyy ht e;obtain ⟨o2,l2,k1,k2,k3⟩:=ih (p:=zhk p e) (by rw [h1];exact ht);rw [h1] at k1 k3;simp only at k1 k3;refine ⟨o++o2,l2,?_,by rw [List.length_append,List.length_cons];omega,by rw [List.length_cons];omega⟩;rw [List.foldl_cons,h1,k1,List.append_assoc]
theorem zkn {n:Nat} {p:NSt} (h:p.1.run<doneI (insAt p.1 0)):runGo (n+1) p=runGo n (zhb p):=by
 conv=>lhs;unfold runGo
 rw [if_pos h]
abbrev runC (s:Ns):Cp:=(zbb (insAt s 0) (s.run+1)).getD noCp
theorem znx (s:Ns) (l:Nt):zhb (s,l)=(runL s.bk (runC s).rs).2.foldl zhk ({s with run:=s.run+1,bk:=(runL s.bk (runC s).rs).1},l):=by
 unfold zhb;rfl
section
variable {B:Nat} {w0 w W W':World} {ss rs:List Res} {x:Np} {s s':Ns} {l l':Nt}
theorem NdIs.tbAt (h:NdIs B w0 W x s l ss): ∃v,TbAt W x.tb s.c.f s.c.cl v s.tab:=by
 obtain ⟨v,rr,cc,d,-⟩:=h.lens 2 (by omega) (by omega);have hok:=h.ok;have d1:Own B w0 W (blk x.tb (tabOb s.c.f s.c.cl v.tv)::tdR v.tv s.tab::(ss++rr)):=Own.open d;refine ⟨v.tv,d1.blk_out,owns_reads (zaj (d1.get 1 rfl)),fun t htm=> ?_⟩;have:=(hok.tab.c t htm).2.2.1;unfold tdC zaf;simp [this]
end
structure RunSt (s0:Ns) (l0:Nt) (m:Nat) (p:NSt):Prop where
 go:runGo 16 (s0,l0)=runGo m p
 fuel:16≤(m:Int)+p.1.run
 tab:p.1.tab=[]
 ln:(p.2.length:Int)≤800000000+4*p.1.run
 on:(p.1.out.length:Int)≤800000000+4*p.1.run
 c:p.1.c=s0.c
theorem zpc (s:Ns) (l:Nt) (ht:s.tab=[]): ∃o l',zhb (s,l)=({s with run:=s.run+1,bk:=(runL s.bk (runC s).rs).1,out:=s.out++o},l')∧o.length≤(runC s).rs.length∧l'.length≤l.length+(runC s).rs.length:=by
 rw [znx];obtain ⟨o,l',h1,h2,h3⟩:=zon (p:=({s with run:=s.run+1,bk:=(runL s.bk (runC s).rs).1},l)) ht (runL s.bk (runC s).rs).2;have h4:(runL s.bk (runC s).rs).2.length≤(runC s).rs.length:=zkv _ _;exact ⟨o,l',h1,by omega,by simp only at h3;omega⟩
theorem RunSt.step {s0 s:Ns} {l0 l:Nt} {m:Nat} (h:RunSt s0 l0 m (s,l)) (h0:s.run<doneI (insAt s 0)) (h1:s.run+1≤16) (hb:(runC s).rs.length≤4): ∃m',m=m'+1∧RunSt s0 l0 m' (zhb (s,l)):=by
 obtain ⟨g1,g2,g3,g4,g5,g6⟩:=h;simp only at g2 g3 g4 g5 g6;obtain ⟨n,rfl⟩: ∃n,m=n+1:=⟨m-1,by omega⟩;obtain ⟨o,l',e1,e2,e3⟩:=zpc s l g3;refine ⟨n,rfl,by rw [g1,zkn h0],?_,?_,?_,?_,?_⟩
 ·rw [e1];simp only;omega
 ·rw [e1];exact g3
 ·rw [e1];simp only;omega
 ·rw [e1];simp only [List.length_append];omega
 ·rw [e1];exact g6
section
variable {B:Nat} {w0 w W W':World} {ss rs:List Res} {x:Np} {s s':Ns} {l l':Nt}
theorem NdIs.putStop (h:NdIs B w0 W x s l ss) (v:Bool):NdIs B w0 (W.setCell ⟨x.p,33,none⟩ (.bool v)) x {s with stop:=v} l ss:=h.put 33 _ (fun _=>rfl) {h.ok with} (fun _ c=> {c with}) (fun _=>rfl)
end
def Px (l l':Nt):Prop:= ∃t,l'=l++t
theorem Px.refl (l:Nt):Px l l:=⟨[],by simp⟩
theorem Px.trans {a b c:Nt} (h:Px a b) (g:Px b c):Px a c:=by
 obtain ⟨t,rfl⟩:=h;obtain ⟨u,rfl⟩:=g;exact ⟨t++u,by rw [List.append_assoc]⟩
theorem znu (l:Nt) (p:Int) (b:Bys):Px l (sealL l p b):=by
 unfold sealL;split
 ·exact .refl l
 ·exact ⟨_,rfl⟩
theorem px_rqSL (l:Nt) (r:Rq):Px l (rqSL l r):=by
 unfold rqSL;split
 ·exact znu _ _ _
 ·exact .refl l
theorem px_sealP (l:Nt) (m:Ms):Px l (sealP l m).2:=by
 unfold sealP;cases bodyP m with
 | none=>exact .refl l
 | some b=>exact znu _ _ _
theorem Px.mem {l l':Nt} (h:Px l l') {x:Int×Bys} (hx:x∈l):x∈l':=by
 obtain ⟨t,rfl⟩:=h;exact List.mem_append_left _ hx
theorem Px.sealN {l l':Nt} (h:Px l l') {p:Int} {b:Bys} (hx:(p,b)∈l):sealN l' p b=sealN l p b:=by
 obtain ⟨t,rfl⟩:=h;unfold Go.Proofs.YtannckelmojkoaaGreat.sealN;rw [List.idxOf_append,if_pos hx]
theorem Px.find {l l':Nt} (h:Px l l') {p:Int} {b:Bys} (hx:(p,b)∈l):findN l' p b=findN l p b:=by
 unfold findN;rw [if_pos hx,if_pos (h.mem hx),h.sealN hx]
theorem Px.len {l l':Nt} (h:Px l l'):l.length≤l'.length:=by
 obtain ⟨t,rfl⟩:=h;simp
theorem Px.sealed {l l':Nt} (h:Px l l') {m:Ms} {sl:Int} (hs:znz l m sl=true):znz l' m sl=true:=by
 unfold znz at hs⊢;cases hb:bodyP m with
 | none=>rw [hb] at hs;simp at hs
 | some b=>
  rw [hb] at hs;simp only [Bool.and_eq_true,decide_eq_true_eq] at hs⊢;exact ⟨h.mem hs.1,by rw [h.find hs.1];exact hs.2⟩
theorem Px.rqSealed {l l':Nt} (h:Px l l') {cl:Int} {r:Rq} (hs:rqSealed l cl r=true):rqSealed l' cl r=true:=by
 unfold Go.Proofs.YtannckelmojkoaaGreat.rqSealed at hs⊢;simp only [Bool.and_eq_true,decide_eq_true_eq] at hs⊢;exact ⟨hs.1,h.mem hs.2.1,by rw [h.find hs.2.1];exact hs.2.2⟩
theorem zmx {n:Nat} {p q:Nat→Bool} (h:allR n p=true) (hq: ∀k,k<n→p k=true→q k=true):allR n q=true:=zc8 (fun k hk=>hq k hk (allR_at h k hk))
theorem Px.batch {l l':Nt} (h:Px l l') {most cl:Int} {rs:List Rq} (hs:zt6 l most cl rs=true):zt6 l' most cl rs=true:=by
 unfold zt6 at hs⊢;simp only [Bool.and_eq_true] at hs⊢;refine ⟨hs.1,zmx hs.2 (fun k _ hk=> ?_)⟩;unfold zxb at hk⊢;rw [Bool.and_eq_true] at hk⊢;exact ⟨h.rqSealed hk.1,hk.2⟩
theorem Px.voted {l l':Nt} (h:Px l l') {kind:Int} {c:Cp} {f:Nat} (hs:zw2 l kind c f=true):zw2 l' kind c f=true:=by
 unfold zw2 at hs⊢;rw [Bool.and_eq_true] at hs⊢;exact ⟨hs.1,zmx hs.2 (fun k _ hk=>h.sealed hk)⟩
theorem Px.certified {l l':Nt} (h:Px l l') {kind:Int} {c:Cp} {f:Nat} {cl:Int} (hs:zey l kind c f cl=true):zey l' kind c f cl=true:=by
 unfold zey at hs⊢;simp only [Bool.and_eq_true] at hs⊢;exact ⟨hs.1,h.batch hs.2.1,h.voted hs.2.2⟩
def crtM (kind view inst seq:Int) (rs:List Rq) (k:Int):Ms:=⟨kind,k,view,inst,seq,0,rs,[],[],[]⟩
theorem zs4 (n:Int):(sgnB n).length≤6:=by have:=(zgo 5 (zigN n)).2;omega
theorem rq_len (r:Rq):(reqB r).length≤36:=by
 have a:=zdn r.client;have b:=zdn r.time;have c:=zdn r.kind;have d:=zs4 r.key;have e:=zs4 r.val;have g:=zdn r.sl;unfold reqB;simp only [List.length_append];omega
theorem zgy {n:Int} (h0:0≤n) (h1:n≤1000000000):numOk n=true:=by unfold numOk;simp;omega
structure RqGood (cl:Int) (r:Rq):Prop where
 ok:okReq r cl=true
 cl4:cl≤4
theorem RqGood.w {cl:Int} {r:Rq} (h:RqGood cl r):reqW r=true:=by
 have h1:=h.ok;have h2:=h.cl4;unfold okReq inW zcr at h1;unfold reqW numOk sgnOk;simp only [Bool.and_eq_true,Bool.or_eq_true,decide_eq_true_eq] at h1⊢;omega
theorem one_len (r:Rq):(listB reqB [r]).length≤42:=by
 have:=rq_len r;have:=zdn ((([r]:List Rq).length:Nat):Int);unfold listB;simp only [List.length_append,List.flatMap_cons,List.flatMap_nil,List.append_nil];omega
theorem rqS_ok {cl:Int} {l:Nt} {r:Rq} (h:RqGood cl r) (hn:l.length≤1000000000):RqGood cl (rqS l r)∧rqSealed (rqSL l r) cl (rqS l r)=true:=by
 have hw:reqW {r with sl:=0}=true:=(zrw h.ok h.cl4).1;have h1:=h.ok;have hs:=zny l (100+r.client) (rqX r);have e1:rqS l r= {r with sl:=sealN l (100+r.client) (rqX r)}:=by unfold rqS;rw [if_pos hw]
 have e2:rqSL l r=sealL l (100+r.client) (rqX r):=by unfold rqSL;rw [if_pos hw]
 have ex:rqX r=rqB0 r:=by unfold rqX;rw [if_pos hw]
 have hok:okReq (rqS l r) cl=true:=by
  rw [e1];unfold okReq inW zcr at h1⊢;simp only [Bool.and_eq_true,Bool.or_eq_true,decide_eq_true_eq] at h1⊢;refine ⟨⟨⟨h1.1.1.1,?_⟩,h1.1.2⟩,h1.2⟩;omega
 refine ⟨⟨hok,h.cl4⟩,?_⟩;unfold rqSealed;rw [hok,e2];have e3:rqB0 (rqS l r)=rqX r:=by rw [e1,ex];rfl
 have e4:(rqS l r).client=r.client:=by rw [e1]
 have e5:(rqS l r).sl=sealN l (100+r.client) (rqX r):=by rw [e1]
 rw [e3,e4,e5,Bool.true_and,Bool.and_eq_true,decide_eq_true_eq,beq_iff_eq];exact ⟨ze4 _ _ _,zgp _ _ _⟩
section
variable {B:Nat} {w0 w W W':World} {ss rs:List Res} {nt nm rn:Nat} {vp:Value} {vt:Rn} {l:Nt}
abbrev balW (kind view inst seq:Int) (vb:Value) (bs:List Rq) (k:Int):Mm:=⟨kind,k,view,inst,seq,0,vb,bs,.slice none 0 0,[],.slice none 0 0,[],.slice none 0 0,[]⟩
end
theorem Tryz.infoRq:(Tryz.prog.info? 38).map (fun i=>(i.zero,i.size,i.bytes))=some (some (.agg #[.int .i64 0,.int .i64 0,.int .i64 0,.int .i64 0,.int .i64 0,.int .i64 0]),6,48):=by kernel_rfl
section
variable {B:Nat} {w0 w W W':World} {ss rs:List Res} {nt nm rn:Nat} {vp:Value} {vt:Rn} {l:Nt}
end
section
variable {f:Nat} {id n u st:Int} {ds:List (Option Cp)} {bk:Lp} {out:List (Int×Bys)} {sp:Bool} {l:Nt}
theorem ad_ins:(newS (stdC f) id).ins.length=f+1:=by unfold newS stdC;simp
end
theorem zrx {l L:Nt} {f:Nat} {cl:Int} {bs:Bys} {m:Ms} {sl:Int} (h:openP l f cl bs=some (m,sl)) (hp:Px l L):openP L f cl bs=some (m,sl):=by
 unfold openP at h⊢;cases h1:takeN bs 0 with
 | none=>rw [h1] at h;simp at h
 | some q=>
  obtain ⟨v,a⟩:=q;rw [h1] at h;simp only at h⊢;cases h2:zen (bs.drop a) with
  | none=>rw [h2] at h;simp at h
  | some m'=>
   rw [h2] at h;simp only at h⊢;split at h
   ·rename_i hc
    simp only [Bool.and_eq_true,decide_eq_true_eq] at hc;rw [if_pos]
    ·exact h
    ·simp only [Bool.and_eq_true,decide_eq_true_eq]
     exact ⟨hc.1,hp.mem hc.2.1,by rw [hp.find hc.2.1];exact hc.2.2⟩
   ·simp at h
structure BkOk (cl:Nat) (b:Lp):Prop where
 c:b.clients=cl
 rp:b.rp.length=cl
 st:b.st.length=64
 vs:VsOk (b.st.map Prod.snd)
def ldg1 (b:Lp) (r:Rq):Lp:=(runL b [r]).1
theorem zx9 (b:Lp) (r:Rq):runL b [r]=({(stepL b r).1 with es:=b.es++(stepL b r).2},(stepL b r).2):=by
 unfold runL;simp only;rw [zh8];simp [zf6]
theorem zmf {cl:Nat} {b:Lp} (h:BkOk cl b) {r:Rq} {c:Nat} (hc:r.client=c) (hlt:c<cl) (ht:(b.rp.getD c (0,0)).1<r.time):
  runL b [r]=(⟨b.clients,b.es++[⟨r,(zbn b.st r).1⟩],(zbn b.st r).2,b.rp.set c (r.time,(zbn b.st r).1)⟩,[⟨r,(zbn b.st r).1⟩]):=by
 obtain ⟨h1,h2,h3,h4⟩:=h;obtain ⟨clients,es,st,rp⟩:=b;simp only at h1 h2 h3 h4 ht;subst h1;have hq:c<rp.length:=by omega
 have e:rp.getD c (0,0)=rp[c]:=by simp [List.getD,hq]
 rw [e] at ht;rw [zx9,zwn h2 hq hc ht]
theorem zya {cl:Nat} {b:Lp} (h:BkOk cl b) {r:Rq} {c:Nat} (hc:r.client=c) (hlt:c<cl) (ht: ¬(b.rp.getD c (0,0)).1<r.time):runL b [r]=(b,[]):=by
 obtain ⟨h1,h2,h3,h4⟩:=h;obtain ⟨clients,es,st,rp⟩:=b;simp only at h1 h2 h3 h4 ht;subst h1;have hq:c<rp.length:=by omega
 have e:rp.getD c (0,0)=rp[c]:=by simp [List.getD,hq]
 rw [e] at ht;rw [zx9,stepL_no h2 (.inr (.inr ⟨c,hq,hc,by omega⟩))];simp
theorem zxr {cl:Nat} {b:Lp} (h:BkOk cl b) {r:Rq} {c:Nat} (hc:r.client=c) (hlt:c<cl):BkOk cl (ldg1 b r):=by
 unfold ldg1;by_cases ht:(b.rp.getD c (0,0)).1<r.time
 ·rw [zmf h hc hlt ht]
  exact ⟨h.c,by simpa using h.rp,(zlh h.st r).2.2,zmy h.st h.vs r⟩
 ·rw [zya h hc hlt ht];exact h
section
variable {f:Nat} {id u st:Int} {ds:List (Option Cp)} {bk:Lp} {out:List (Int×Bys)} {sp:Bool} {l:Nt}
def zyk (f:Nat) (L:Nt) (o:List (Int×Bys)):Prop:= ∀y∈o,∃m sl,openP L f 2 y.2=some (m,sl)∧m.kind=10
theorem zyk.px {L L':Nt} {o:List (Int×Bys)} (h:zyk f L o) (hp:Px L L'):zyk f L' o:=fun y hy=>by
 obtain ⟨m,sl,h1,h2⟩:=h y hy;exact ⟨m,sl,zrx h1 hp,h2⟩
end
def cpL (cps:List Cp) (j:Nat):Cp:=cps.getD j noCp
def rqL (cps:List Cp) (j:Nat):Rq:=reqAt (cpL cps j).rs 0
structure CtGood (f:Nat) (l:Nt) (j:Nat) (c:Cp):Prop where
 inst:c.inst=0
 seq:c.seq=j+1
 rs:c.rs=[reqAt c.rs 0]
 cert:zey l 5 c f 2=true
 ok:zhm f 2 c=true
 vl:c.vs.length=2*f+1
 w:certW c=true
 rc:(reqAt c.rs 0).client=((j%2:Nat):Int)
 rt:(reqAt c.rs 0).time=j+1
 rok:okReq (reqAt c.rs 0) 2=true
theorem CtGood.px {f:Nat} {l l':Nt} {j:Nat} {c:Cp} (h:CtGood f l j c) (hp:Px l l'):CtGood f l' j c:= {h with cert:=hp.certified h.cert}
def zpu (f:Nat) (l:Nt) (cps:List Cp):Prop:= ∀j,j<cps.length→CtGood f l j (cpL cps j)
theorem zpu.px {f:Nat} {l l':Nt} {cps:List Cp} (h:zpu f l cps) (hp:Px l l'):zpu f l' cps:=fun j hj=>(h j hj).px hp
structure BkAd (cps:List Cp) (n:Nat) (b:Lp):Prop where
 ok:BkOk 2 b
 es:b.es.length=n
 rq: ∀j,j<n→(b.es[j]?).map En.rq=some (rqL cps j)
 rp: ∀c,c<2→(b.rp.getD c (0,0)).1≤n
theorem BkAd.step {cps:List Cp} {n:Nat} {b:Lp} (h:BkAd cps n b) (hc:(rqL cps n).client=((n%2:Nat):Int)) (ht:(rqL cps n).time=n+1):BkAd cps (n+1) (ldg1 b (rqL cps n)):=by
 have h2:n%2<2:=by omega
 have hy:=zmf h.ok hc h2 (by have:=h.rp _ h2;omega);have e:ldg1 b (rqL cps n)=⟨b.clients,b.es++[⟨rqL cps n,(zbn b.st (rqL cps n)).1⟩],(zbn b.st (rqL cps n)).2,b.rp.set (n%2) ((rqL cps n).time,(zbn b.st (rqL cps n)).1)⟩:=by unfold ldg1;rw [hy]
 refine ⟨zxr h.ok hc h2,by rw [e];simp [h.es],fun j hj=> ?_,fun c hc2=> ?_⟩
 ·rw [e]
  simp only;by_cases hj2:j<n
  ·rw [List.getElem?_append_left (by rw [h.es];exact hj2)]
   exact h.rq j hj2
  ·have:j=n:=by omega
   subst this;rw [List.getElem?_append_right (by rw [h.es];omega),h.es];simp
 ·rw [e]
  simp only;rw [List.getD_eq_getElem?_getD,List.getElem?_set];have hl:=h.ok.rp;by_cases hcc:n%2=c
  ·rw [if_pos hcc,if_pos (by omega)]
   simp only [Option.getD_some];omega
  ·rw [if_neg hcc]
   have:=h.rp c hc2;rw [List.getD_eq_getElem?_getD] at this;omega
end Go.Proofs.YtannckelmojkoaaGreat
namespace Go.Proofs.YtannckelmojkoaaGreat
open Go.ChangeShapes Go.WideShapes Go.ChangeAt Go.RowKit Go.Deep Go.Heap
structure Op3 where
 kind:Int
 key:Int
 val:Int
def opCells (o:Op3):List Value:=[.int .i64 o.kind,.int .i64 o.key,.int .i64 o.val]
def Opz (w:World) (v:Value) (l:List Op3):Prop:=Reads w v 3 l.length (l.flatMap opCells)
theorem Opz.upd {w w':World} {v:Value} {l:List Op3} (h:Opz w v l) (hu:Upd [] w w'):Opz w' v l:=Reads.upd (M:=[]) h hu (by simp)
section
variable {H:Type} {enc:TypeId×Value→H} {W:World} {base:Nat} {spare:Nat→Bool} {held:Bool}
end
end Go.Proofs.YtannckelmojkoaaGreat
namespace Go.Proofs.YtannckelmojkoaaGreat
open Go.RowKit Go.Heap
theorem NdIs.more {B:Nat} {w0 W:World} {x:Np} {s:Ns} {l l1 l2:Nt} {ss:List Res} {rn:Nat} {vp:Value} {vt:Rn} (h:NdIs B w0 W x s l (rnR rn vp vt l1 ss)) (hl:Px l1 l2):NdIs B w0 W x s l (rnR rn vp vt l2 ss):=by
 obtain ⟨t,rfl⟩:=hl;exact h.onSide (fun r hr=>rn_more (ss:=ss++[r]) hr (fun x hx=>List.mem_append_left _ hx))
section
variable {B:Nat} {w0 W:World} {x:Np} {l:Nt} {ss:List Res} {f:Nat} {id n u st:Int} {ds:List (Option Cp)} {bk:Lp} {o:List (Int×Bys)} {sp:Bool}
end
theorem nd_upd {W w:World} {x:Np} {s:Ns} {l:Nt} {ss:List Res} (h:NdIs W.heap.size W w x s l ss):Upd [] W w:=by
 obtain ⟨r,hs,-⟩:=h.side;exact Upd.of_below hs.below
abbrev stdO (f:Nat):Obj:= .cells (cfA (stdC f)) 30 (0,0)
section
variable {B:Nat} {w0 W:World} {ss:List Res} {y:Lg}
theorem zu5 (h:Own B w0 W (lgL y++ss)) (hy:LgOk y) (k:Nat) (hk:k<y.rp.length):Calls Tryz.prog 58 #[ptrV y.p,.int .i64 k] W fun e w'=>e= .returned (.int .i64 y.rp[k].1)∧w'=W:=by
 obtain ⟨-,-,-,c3⟩:=zzm h;have HS:=zq (zuc (h.blkAt 3 rfl) (h.get 4 rfl) hy.cap.1 k hk);clear h hy;go_enter Tryz.func58,Tryz.ntmps58
 go_wp2_with fail
 refine HS.out.mono ?_;rintro e w1 ⟨rfl,rfl⟩
 go_wp2_with fail
 go_ret
 exact ⟨rfl,rfl⟩
end
def cmtN (s:Ns) (n:Nat):Nat:=(List.range n).countP fun (j:Nat)=>(zbb (insAt s 0) ((j:Int)+1)).isSome
section
variable {B:Nat} {w0 W:World} {ss:List Res} {x:Np} {s:Ns} {l:Nt}
end
structure BkPs (n:Nat) (last:Int) (b:Lp):Prop where
 ok:BkOk 2 b
 es:b.es.length=n
 rp:(b.rp.getD 0 (0,0)).1=last
 st:(b.st.getD 1 (false,0)).2=n
 has:(b.st.getD 1 (false,0)).1=true∨n=0
def addR (k sl:Int):Rq:=⟨0,k,3,1,1,sl⟩
theorem BkPs.get {n:Nat} {last:Int} {b:Lp} (h:BkPs n last b):(if (b.st.getD 1 (false,0)).1 then (b.st.getD 1 (false,0)).2 else 0)=n:=by
 rcases h.has with h1 | h1
 ·rw [h1,if_pos rfl,h.st]
 ·have:=h.st
  split<;>omega
theorem zpw {st:List (Bool×Int)} {k sl:Int} {n:Nat} (h:(st.getD 1 (false,0)).2=n) (hn:n≤1000):zbn st (addR k sl)=((n:Int)+1,st.set 1 (true,(n:Int)+1)):=by
 unfold zbn addR;simp only [show (1:Int).toNat=1 from rfl,h];rw [if_neg (by omega),if_neg (by omega),if_neg (by omega),if_pos trivial,if_neg (by omega)]
theorem BkPs.step {n:Nat} {last k sl:Int} {b:Lp} (h:BkPs n last b) (hn:n≤1000):BkPs (if last<k then n+1 else n) (if last<k then k else last) (ldg1 b (addR k sl)):=by
 have hrp:=h.ok.rp;have hst:=h.ok.st;by_cases hk:last<k
 ·rw [if_pos hk,if_pos hk]
  have hy:=zmf (r:=addR k sl) (c:=0) h.ok rfl (by omega) (by rw [h.rp];exact hk);have e:ldg1 b (addR k sl)=⟨b.clients,b.es++[⟨addR k sl,(zbn b.st (addR k sl)).1⟩],(zbn b.st (addR k sl)).2,b.rp.set 0 (k,(zbn b.st (addR k sl)).1)⟩:=by unfold ldg1;rw [hy];rfl
  have ea:=zpw (k:=k) (sl:=sl) h.st hn;have hok:=zxr (r:=addR k sl) (c:=0) h.ok rfl (by omega);rw [e] at hok⊢;rw [ea] at hok⊢;refine ⟨hok,by simp [h.es],?_,?_,.inl ?_⟩
  ·simp only [List.getD_eq_getElem?_getD,List.getElem?_set]
   rw [if_pos trivial,if_pos (by omega)];rfl
  ·simp only [List.getD_eq_getElem?_getD,List.getElem?_set]
   rw [if_pos trivial,if_pos (by omega)];simp
  ·simp only [List.getD_eq_getElem?_getD,List.getElem?_set]
   rw [if_pos trivial,if_pos (by omega)];rfl
 ·rw [if_neg hk,if_neg hk]
  have hy:=zya (r:=addR k sl) (c:=0) h.ok rfl (by omega) (by rw [h.rp];exact hk);have e:ldg1 b (addR k sl)=b:=by unfold ldg1;rw [hy]
  rw [e];exact h
end Go.Proofs.YtannckelmojkoaaGreat
