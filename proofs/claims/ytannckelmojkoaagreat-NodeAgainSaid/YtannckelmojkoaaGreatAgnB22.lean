/- Parts of the proof, one behind the other. -/
import Derived.Test.YtannckelmojkoaaGreatAgnB21
set_option maxHeartbeats 32000000
set_option maxRecDepth 100000
set_option linter.unusedVariables false
set_option linter.unusedSimpArgs false
namespace Go.Proofs.YtannckelmojkoaaGreat
open Go.RowKit Go.Heap
abbrev pnL (p:Nat) (v:Value) (s:Wr) (l:List Res):List Res:=blk p (.cells #[v,.bool s.bad] 205 (0,0))::bysR v s.out::l
def pSgn (s:Wr) (n:Int):Wr:=wNum ⟨s.out,s.bad || !sgnOk n⟩ (zigX n)
def pLst (s:Wr) (n:Int):Wr:=wNum ⟨s.out,s.bad || decide (256<n)⟩ n
def pReq (s:Wr) (r:Rq):Wr:=wNum (pSgn (pSgn (wNum (wNum (wNum s r.client) r.time) r.kind) r.key) r.val) r.sl
section
variable {B:Nat} {w0 w W W':World} {ss rs:List Res} {p:Nat} {v bv:Value} {s:Wr}
theorem ztt (n:Int) (h:Own B w0 W ss):Calls Tryz.prog 129 #[.int .i64 n] W fun e w'=> ∃v,e= .returned (.tuple #[v,.bool (numOk n)])∧Own B w0 w' (bysR v (numX n)::ss):=by
 obtain ⟨i0,hi,hz0,hz1,hz2⟩:=info_parts Tryz.infoU8;by_cases h1:n<0
 ·have HE:Hid (numOk n=false∧Own B w0 W (bysR (.slice none 0 0) (numX n)::ss)):=zq (by
   have e:numOk n=false:=by unfold numOk;simp;omega
   refine ⟨e,?_⟩;unfold numX;rw [e];exact h.row0)
  clear h;go_enter Tryz.func129,Tryz.ntmps129
  go_wp2_with fail
  go_ret2
  rw [HE.out.1];exact ⟨_,rfl,HE.out.2⟩
 by_cases h2:1099511627776≤n
 ·have h1':decide (n<0)=false:=by simp;omega
  have HE:Hid (numOk n=false∧Own B w0 W (bysR (.slice none 0 0) (numX n)::ss)):=zq (by
   have e:numOk n=false:=by unfold numOk;simp;omega
   refine ⟨e,?_⟩;unfold numX;rw [e];exact h.row0)
  clear h h1;go_enter Tryz.func129,Tryz.ntmps129
  go_wp2_with fail
  go_ret2
  rw [HE.out.1];exact ⟨_,rfl,HE.out.2⟩
 have h1':decide (n<0)=false:=by simp;omega
 have h2':decide (1099511627776≤n)=false:=by simp;omega
 obtain ⟨m0,rfl⟩: ∃m:Nat,n=m:=⟨n.toNat,by omega⟩;have hm0:m0<128^(5+1):=by omega
 have HE:Hid (numOk (m0:Int)=true∧numX (m0:Int)=encN 5 m0):=zq (by
  have e:numOk (m0:Int)=true:=by unfold numOk;simp;omega
  unfold numX;rw [e];exact ⟨rfl,by simp [numB]⟩)
 have H:=zq (h.row0 (E:=5) (sz:=1));clear h h1 h2;go_enter Tryz.func129,Tryz.ntmps129
 go_wp2_with fail
 go_loopw [0,4] (fun nv v wr=> ∃(m f:Nat) (acc:Bys),nv= .int .i64 m∧m<128^(f+1)∧f≤5∧acc.length≤10-f∧acc++encN f m=encN 5 m0∧Hid (Own B w0 wr (bysR v acc::ss))) (fun nv _ _=>(intOf nv).toNat)
 case atStart=>exact ⟨m0,5,[],rfl,hm0,by omega,by simp,rfl,H⟩
 case round=>
  clear H hm0;obtain ⟨m,f,acc,rfl,hm,hf,ha,hacc,H⟩:=hrel;have hmI:(m:Int)<4398046511104:=by
   have:m<128^6:=Nat.lt_of_lt_of_le hm (Nat.pow_le_pow_right (by omega) (by omega));omega
  by_cases hlt:m<128
  ·have hd:decide (128≤(m:Int))=false:=by simp;omega
   have hw:IntKind.u8.wrap (m:Int)=(m:Int):=u8_in (by omega) (by omega);have HA:=zq (H.out.alloc (.cells #[.int .u8 (m:Int)] 5 (0,0)));have HN:=zq (heap_alloc_new wr (.cells #[.int .u8 (m:Int)] 5 (0,0)));have ha2:acc.length≤10:=by omega
   rw [znv hlt] at hacc;have HX:Hid (numX (m0:Int)=acc++[m]):=zq (HE.out.2.trans hacc.symm);have HK:=zq HE.out.1;clear hacc H HE hm ha hmI
   go_wp2_with (first | (at_builtin;refine zbl rfl (.tmp 22) (.tmp 25) 60 rfl 5 i0 (.int .u8 0) 1 1 Tryz.underlying60 hi hz0 hz1 hz2 rfl (by decide) HA.out 0 u4 acc.length (bysC acc) rfl rfl wr.heap.size #[.int .u8 (m:Int)] 5 (0,0) rfl HN.out rfl (by simp [Value.oneCell']) (by unfold maxLen;omega) (by omega) ?_;intro g cap w1 h1) | go_in)
   have H1:=zq h1;clear h1
   go_wp2_with fail
   go_ret2
   rw [HK.out,HX.out];exact ⟨_,rfl,by have:=H1.out;simpa [bysR,bysC] using this⟩
  ·have hd:128≤(m:Int):=by omega
   have e1:(m:Int).tmod 128=((m%128:Nat):Int):=by rw [Int.tmod_eq_emod_of_nonneg (by omega)];omega
   have e2:(m:Int).tdiv 128=((m/128:Nat):Int):=by rw [Int.tdiv_eq_ediv_of_nonneg (by omega)];omega
   have hlo:m%128<128:=by omega
   generalize hr:m%128=r at*;generalize hq:m/128=q at*;have hw:IntKind.u8.wrap (128+(r:Int))=128+(r:Int):=u8_in (by omega) (by omega);have HA:=zq (H.out.alloc (.cells #[.int .u8 (128+(r:Int))] 5 (0,0)));have HN:=zq (heap_alloc_new wr (.cells #[.int .u8 (128+(r:Int))] 5 (0,0)));have ha2:acc.length≤10:=by omega
   go_wp2_with (first | (at_builtin;refine zbl rfl (.tmp 13) (.tmp 18) 60 rfl 5 i0 (.int .u8 0) 1 1 Tryz.underlying60 hi hz0 hz1 hz2 rfl (by decide) HA.out 0 u4 acc.length (bysC acc) rfl rfl wr.heap.size #[.int .u8 (128+(r:Int))] 5 (0,0) rfl HN.out rfl (by simp [Value.oneCell']) (by unfold maxLen;omega) (by omega) ?_;intro g cap w1 h1) | go_in)
   have H1:=zq h1;clear h1 HA HN H
   go_wp2_with fail
   go_roundw
   case rel=>
    obtain ⟨f',rfl⟩: ∃f',f=f'+1:=by
     cases f with
     | zero=>simp at hm;omega
     | succ f=>exact ⟨f,rfl⟩
    refine ⟨q,f',acc++[r+128],rfl,?_,by omega,by simp;omega,?_,zq ?_⟩
    ·rw [Nat.pow_succ] at hm;rw [←hq];exact (Nat.div_lt_iff_lt_mul (by omega)).2 hm
    ·rw [←hacc,znw (by omega:128≤m),hr,hq];simp
    ·have:=H1.out
     simpa [bysR,bysC,Int.add_comm] using this
   case measure=>simp [intOf];omega
theorem zjx (n:Int):Calls Tryz.prog 198 #[.int .i64 n] W fun e w'=>e= .returned (.int .i64 (zigX n))∧W=w':=by
 by_cases h1:n< -549755813888
 ·have HE:Hid (zigX n=0):=zq (by unfold zigX;rw [show sgnOk n=false by unfold sgnOk;simp;omega];rfl)
  go_enter Tryz.func198,Tryz.ntmps198
  go_wp2_with fail
  go_ret
  rw [HE.out];exact ⟨rfl,rfl⟩
 have h1':decide (n< -549755813888)=false:=by simp;omega
 by_cases h2:549755813888≤n
 ·have HE:Hid (zigX n=0):=zq (by unfold zigX;rw [show sgnOk n=false by unfold sgnOk;simp;omega];rfl)
  go_enter Tryz.func198,Tryz.ntmps198
  go_wp2_with fail
  go_ret
  rw [HE.out];exact ⟨rfl,rfl⟩
 have h2':decide (549755813888≤n)=false:=by simp;omega
 have hk:sgnOk n=true:=by unfold sgnOk;simp;omega
 by_cases h3:n<0
 ·have HE:Hid (zigX n= -2*n-1):=zq (by unfold zigX zigN;rw [hk,if_pos rfl,if_pos h3];omega)
  clear hk;go_enter Tryz.func198,Tryz.ntmps198
  go_wp2_with fail
  go_ret
  rw [HE.out];exact ⟨rfl,rfl⟩
 ·have h3':decide (n<0)=false:=by simp;omega
  have HE:Hid (zigX n=2*n):=zq (by unfold zigX zigN;rw [hk,if_pos rfl,if_neg h3];omega);clear hk;go_enter Tryz.func198,Tryz.ntmps198
  go_wp2_with fail
  go_ret
  rw [HE.out];exact ⟨rfl,rfl⟩
theorem zba (n:Int) (h:Own B w0 W (pnL p v s ss)) (hl:s.out.length≤1000000000000):
  Calls Tryz.prog 122 #[.pointer (some ⟨p,0,none⟩),.int .i64 n] W fun e w'=>e= .returned (.tuple #[])∧ ∃v',Own B w0 w' (pnL p v' (wNum s n) ss):=by
 obtain ⟨i0,hi,hz0,hz1,hz2⟩:=info_parts Tryz.infoU8;have HN:=zq (ztt n h);have hx:=zdg n;have HW:Hid (wNum s n=⟨s.out++numX n,s.bad || !numOk n⟩):=zq rfl;generalize wNum s n=s' at*;generalize numX n=bs at*;generalize numOk n=ok at*;obtain ⟨out,bad⟩:=s;simp only at hl h HW;obtain ⟨ao,cap,rfl,-,-⟩:=zat (k:=1) h rfl;have hone:=zfn bs;clear h;go_enter Tryz.func122,Tryz.ntmps122
 go_wp2_with fail
 refine HN.out.mono ?_;rintro e w1 ⟨v2,rfl,h0⟩;have h:=h0.rot';obtain ⟨bo,bcap,rfl,-,-⟩:=zat (k:=2) h rfl;have x0:w1.cell? ⟨p,0,none⟩=some (.slice ao out.length cap):=zaa h.blk_out 0 rfl;have x1:w1.cell? ⟨p,1,none⟩=some (.bool bad):=zaa h.blk_out 1 rfl;have z1:=zac h.blk_out 1;have HS: ∀b:Bool,Hid (Own B w0 (w1.setCell ⟨p,1,none⟩ (.bool b)) (pnL p (.slice ao out.length cap) ⟨out,b⟩ (bysR (.slice bo bs.length bcap) bs::ss))):=fun b=>zq (Own.storeTo h 1 (.bool b) rfl);have H1:=HS (bad || !ok);have H1b:=zq (zat (k:=2) H1.out rfl);have x2:(w1.setCell ⟨p,1,none⟩ (.bool (bad || !ok))).cell? ⟨p,0,none⟩=some (.slice ao out.length cap):=zaa H1.out.blk_out 0 rfl;clear h h0 HS HN;cases bad<;>cases ok<;>(
  simp only [Bool.true_or,Bool.false_or,Bool.or_false,Bool.or_true,Bool.not_true,Bool.not_false] at*
  go_wp2_with (at_builtin;refine zcg rfl (.tmp 26) (.tmp 27) 60 rfl 5 i0 (.int .u8 0) 1 1 Tryz.underlying60 hi hz0 hz1 hz2 rfl (by decide) H1.out 1 (.slice ao out.length cap) out.length (bysC out) rfl rfl (.slice bo bs.length bcap) bs.length (bysC bs) rfl H1b.out hone (by unfold maxLen;omega) (by omega) ?_)
  intro ao' cap' w2 h2;have h3:Own B w0 w2 (blk p (.cells #[.slice ao out.length cap,.bool _] 205 (0,0))::ownR 5 1 (.slice ao' (out.length+bs.length) cap') (out.length+bs.length) (bysC out++bysC bs)::bysR (.slice bo bs.length bcap) bs::ss):=h2;have x3:w2.cell? ⟨p,0,none⟩=some (.slice ao out.length cap):=zaa (h3.blkAt 0 rfl) 0 rfl;have z3:=zac (h3.blkAt 0 rfl) 0;have H3:=zq ((Own.storeTo h3 0 (.slice ao' (out.length+bs.length) cap') rfl).dropAt 2 (by simp));clear h2 h3 H1 H1b
  go_wp2_with fail
  refine bodyPost_end (results_none rfl _ _ _) rfl ?_;rw [HW.out];refine ⟨rfl,.slice ao' (out.length+bs.length) cap',?_⟩;have:=H3.out
  simpa [pnL,bysR,bysC,setIn] using this)
theorem zjn (n:Int) (h:Own B w0 W (pnL p v s ss)) (hl:s.out.length≤1000000000000):
  Calls Tryz.prog 199 #[.pointer (some ⟨p,0,none⟩),.int .i64 n] W fun e w'=>e= .returned (.tuple #[])∧ ∃v',Own B w0 w' (pnL p v' (pLst s n) ss):=by
 obtain ⟨out,bad⟩:=s;simp only at hl h;have x1:W.cell? ⟨p,1,none⟩=some (.bool bad):=zaa h.blk_out 1 rfl;have z1:=zac h.blk_out 1;have HS:Hid (∀b:Bool,Own B w0 (W.setCell ⟨p,1,none⟩ (.bool b)) (pnL p v ⟨out,b⟩ ss)):=zq (fun b=>Own.storeTo h 1 (.bool b) rfl);clear h;cases bad with
 | true=>
  have HE:Hid (pLst ⟨out,true⟩ n=wNum ⟨out,true⟩ n):=zq (by unfold pLst;simp);have HC:=zq (zba (n) (HS.out true) hl);clear HS;go_enter Tryz.func199,Tryz.ntmps199
  go_wp2_with fail
  refine HC.out.mono ?_;rintro e w1 ⟨rfl,v1,h2⟩;have H2:=zq h2;clear h2 HC
  go_wp2_with fail
  refine bodyPost_end (results_none rfl _ _ _) rfl ?_;rw [HE.out];exact ⟨rfl,v1,H2.out⟩
 | false=>
  by_cases hb:256<n
  ·have HE:Hid (pLst ⟨out,false⟩ n=wNum ⟨out,true⟩ n):=zq (by unfold pLst;simp [hb])
   have HC:=zq (zba (n) (HS.out true) hl);clear HS;go_enter Tryz.func199,Tryz.ntmps199
   go_wp2_with fail
   refine HC.out.mono ?_;rintro e w1 ⟨rfl,v1,h2⟩;have H2:=zq h2;clear h2 HC
   go_wp2_with fail
   refine bodyPost_end (results_none rfl _ _ _) rfl ?_;rw [HE.out];exact ⟨rfl,v1,H2.out⟩
  ·have hb':decide (256<n)=false:=by simp;omega
   have HE:Hid (pLst ⟨out,false⟩ n=wNum ⟨out,false⟩ n):=zq (by unfold pLst;simp [hb']);clear hb;have HC:=zq (zba (n) (HS.out false) hl);clear HS;go_enter Tryz.func199,Tryz.ntmps199
   go_wp2_with fail
   refine HC.out.mono ?_;rintro e w1 ⟨rfl,v1,h2⟩;have H2:=zq h2;clear h2 HC
   go_wp2_with fail
   refine bodyPost_end (results_none rfl _ _ _) rfl ?_;rw [HE.out];exact ⟨rfl,v1,H2.out⟩
theorem zm1 (n:Int) (h:Own B w0 W (pnL p v s ss)) (hl:s.out.length≤1000000000000):
  Calls Tryz.prog 123 #[.pointer (some ⟨p,0,none⟩),.int .i64 n] W fun e w'=>e= .returned (.tuple #[])∧ ∃v',Own B w0 w' (pnL p v' (pSgn s n) ss):=by
 obtain ⟨out,bad⟩:=s;simp only at hl h;have x1:W.cell? ⟨p,1,none⟩=some (.bool bad):=zaa h.blk_out 1 rfl;have z1:=zac h.blk_out 1;have HS:Hid (∀b:Bool,Own B w0 (W.setCell ⟨p,1,none⟩ (.bool b)) (pnL p v ⟨out,b⟩ ss)):=zq (fun b=>Own.storeTo h 1 (.bool b) rfl);clear h;cases bad with
 | true=>
  have HE:Hid (pSgn ⟨out,true⟩ n=wNum ⟨out,true⟩ (zigX n)):=zq (by unfold pSgn;simp);have HC:=zq (zba (zigX n) (HS.out true) hl);have HZ:=zq (fun w=>zjx (W:=w) n);clear HS;go_enter Tryz.func123,Tryz.ntmps123
  go_wp2_with fail
  refine (HZ.out _).mono ?_;rintro e w1 ⟨rfl,rfl⟩
  go_wp2_with fail
  refine HC.out.mono ?_;rintro e w1 ⟨rfl,v1,h2⟩;have H2:=zq h2;clear h2 HC
  go_wp2_with fail
  refine bodyPost_end (results_none rfl _ _ _) rfl ?_;rw [HE.out];exact ⟨rfl,v1,H2.out⟩
 | false=>
  by_cases hb:n< -549755813888
  ·have HE:Hid (pSgn ⟨out,false⟩ n=wNum ⟨out,true⟩ (zigX n)):=zq (by unfold pSgn;rw [show sgnOk n=false by unfold sgnOk;simp;omega];rfl)
   have HC:=zq (zba (zigX n) (HS.out true) hl);have HZ:=zq (fun w=>zjx (W:=w) n);clear HS;go_enter Tryz.func123,Tryz.ntmps123
   go_wp2_with fail
   refine (HZ.out _).mono ?_;rintro e w1 ⟨rfl,rfl⟩
   go_wp2_with fail
   refine HC.out.mono ?_;rintro e w1 ⟨rfl,v1,h2⟩;have H2:=zq h2;clear h2 HC
   go_wp2_with fail
   refine bodyPost_end (results_none rfl _ _ _) rfl ?_;rw [HE.out];exact ⟨rfl,v1,H2.out⟩
  ·have hb':decide (n< -549755813888)=false:=by simp;omega
   by_cases hc:549755813888≤n
   ·have HE:Hid (pSgn ⟨out,false⟩ n=wNum ⟨out,true⟩ (zigX n)):=zq (by unfold pSgn;rw [show sgnOk n=false by unfold sgnOk;simp;omega];rfl)
    clear hb;have HC:=zq (zba (zigX n) (HS.out true) hl);have HZ:=zq (fun w=>zjx (W:=w) n);clear HS;go_enter Tryz.func123,Tryz.ntmps123
    go_wp2_with fail
    refine (HZ.out _).mono ?_;rintro e w1 ⟨rfl,rfl⟩
    go_wp2_with fail
    refine HC.out.mono ?_;rintro e w1 ⟨rfl,v1,h2⟩;have H2:=zq h2;clear h2 HC
    go_wp2_with fail
    refine bodyPost_end (results_none rfl _ _ _) rfl ?_;rw [HE.out];exact ⟨rfl,v1,H2.out⟩
   ·have hc':decide (549755813888≤n)=false:=by simp;omega
    have HE:Hid (pSgn ⟨out,false⟩ n=wNum ⟨out,false⟩ (zigX n)):=zq (by unfold pSgn;rw [show sgnOk n=true by unfold sgnOk;simp;omega];rfl);clear hb hc;have HC:=zq (zba (zigX n) (HS.out false) hl);have HZ:=zq (fun w=>zjx (W:=w) n);clear HS;go_enter Tryz.func123,Tryz.ntmps123
    go_wp2_with fail
    refine (HZ.out _).mono ?_;rintro e w1 ⟨rfl,rfl⟩
    go_wp2_with fail
    refine HC.out.mono ?_;rintro e w1 ⟨rfl,v1,h2⟩;have H2:=zq h2;clear h2 HC
    go_wp2_with fail
    refine bodyPost_end (results_none rfl _ _ _) rfl ?_;rw [HE.out];exact ⟨rfl,v1,H2.out⟩
end
def pGo {α:Type} (one:Wr→α→Wr):Wr→List α→Wr
 | s,[]=>s
 | s,x::l=>if s.bad then s else pGo one (one s x) l
def pLs {α:Type} (one:Wr→α→Wr) (s:Wr) (l:List α):Wr:=pGo one (pLst s l.length) l
def pCert (s:Wr) (c:Cp):Wr:=pLs wVote (pLs pReq (wNum (wNum (wNum s c.view) c.inst) c.seq) c.rs) c.vs
def pPart (s:Wr) (p:Pa):Wr:=wNum (pLs pCert (pLs wVote (wNum s p.fm) p.vs) p.cs) p.sl
theorem zhl (s:Wr) (n:Int):(pSgn s n).out.length≤s.out.length+6:=zaz ⟨s.out,_⟩ _
theorem zhk (s:Wr) (n:Int):(pLst s n).out.length≤s.out.length+6:=zaz ⟨s.out,_⟩ _
theorem zjk (s:Wr) (r:Rq):(pReq s r).out.length≤s.out.length+36:=by
 have h1:=zaz s r.client;have h2:=zaz (wNum s r.client) r.time;have h3:=zaz (wNum (wNum s r.client) r.time) r.kind;have h4:=zhl (wNum (wNum (wNum s r.client) r.time) r.kind) r.key;have h5:=zhl (pSgn (wNum (wNum (wNum s r.client) r.time) r.kind) r.key) r.val;have h6:=zaz (pSgn (pSgn (wNum (wNum (wNum s r.client) r.time) r.kind) r.key) r.val) r.sl;unfold pReq;omega
theorem zhj {α:Type} (one:Wr→α→Wr) {s:Wr} (h:s.bad=true): ∀l:List α,pGo one s l=s
 | []=>rfl
 | x::l=>by unfold pGo;rw [if_pos h]
theorem zjj {α:Type} (one:Wr→α→Wr) {s:Wr} (h:s.bad=false) (l:List α) (k:Nat) (hk:k<l.length):pGo one s (l.drop k)=pGo one (one s l[k]) (l.drop (k+1)):=by
 rw [←List.getElem_cons_drop hk];conv=>lhs;unfold pGo
 rw [if_neg (by simp [h])]
theorem zy0 {α:Type} (one:Wr→α→Wr) (K:Nat) (h: ∀s x,(one s x).out.length≤s.out.length+K): ∀(l:List α) (s:Wr),(pGo one s l).out.length≤s.out.length+K*l.length
 | [],s=>by simp [pGo]
 | x::l,s=>by
  unfold pGo;split
  ·omega
  ·have h1:=zy0 one K h l (one s x);have h2:=h s x;rw [List.length_cons,Nat.mul_add];omega
theorem zej {α:Type} (one:Wr→α→Wr) (K:Nat) (h: ∀s x,(one s x).out.length≤s.out.length+K) (s:Wr) (l:List α):(pLs one s l).out.length≤s.out.length+6+K*256:=by
 have h2:=zhk s l.length;unfold pLs;by_cases hb:256<l.length
 ·rw [zhj one (by unfold pLst wNum wPut;simp;omega)];omega
 ·have h1:=zy0 one K h l (pLst s l.length)
  have h3:K*l.length≤K*256:=Nat.mul_le_mul_left _ (by omega);omega
theorem zgl (s:Wr) (c:Cp):(pCert s c).out.length≤s.out.length+12318:=by
 have h3:=zcr [c.view,c.inst,c.seq] s;simp only [List.foldl_cons,List.foldl_nil,List.length_cons,List.length_nil] at h3;have h2:=zej pReq 36 zjk (wNum (wNum (wNum s c.view) c.inst) c.seq) c.rs;have h1:=zej wVote 12 zcs (pLs pReq (wNum (wNum (wNum s c.view) c.inst) c.seq) c.rs) c.vs;unfold pCert;omega
theorem zog (s:Wr) (p:Pa):(pPart s p).out.length≤s.out.length+3156510:=by
 have h0:=zaz s p.fm;have h1:=zej wVote 12 zcs (wNum s p.fm) p.vs;have h2:=zej pCert 12318 zgl (pLs wVote (wNum s p.fm) p.vs) p.cs;have h3:=zaz (pLs pCert (pLs wVote (wNum s p.fm) p.vs) p.cs) p.sl;unfold pPart;omega
section
variable {B:Nat} {w0 w W W':World} {ss rs:List Res} {p:Nat} {v bv:Value} {s:Wr}
theorem zhr {α:Type} {cells:α→List Value} {sz:Nat} {l:List α} {b o cap i:Nat} (h:Own B w0 W rs) (e:rs[i]?=some (redR (.slice (some ⟨b,o,none⟩) l.length cap) sz l.length (l.flatMap cells))) (hl: ∀x,(cells x).length=sz) (k:Nat) (hk:k<l.length) (j:Nat) (hj:j<sz):
  W.cell? ⟨b,o+k*sz+j,none⟩=(cells l[k])[j]?:=by
 obtain ⟨ao',cap',e0,-,-,-,-,h5⟩:=zae h e;simp only [Value.slice.injEq,true_and] at e0;obtain ⟨rfl,-⟩:=e0;obtain ⟨b',o',e1,-,hc⟩:=h5 (by omega);simp only [Option.some.injEq,Addr.mk.injEq,and_true] at e1;obtain ⟨rfl,rfl⟩:=e1;have hlt:k*sz+j<l.length*sz:=by
  have:=Nat.mul_le_mul_right sz (show k+1≤l.length from hk);rw [Nat.add_mul,Nat.one_mul] at this;omega
 rw [Nat.add_assoc,hc _ hlt,zea cells sz hl l k j hk hj]
theorem zti (r:Rq) (h:Own B w0 W (pnL p v s ss)) (hl:s.out.length≤100000000000):
  Calls Tryz.prog 200 #[.pointer (some ⟨p,0,none⟩),.agg #[.int .i64 r.client,.int .i64 r.time,.int .i64 r.kind,.int .i64 r.key,.int .i64 r.val,.int .i64 r.sl]] W fun e w'=>e= .returned (.tuple #[])∧ ∃v',Own B w0 w' (pnL p v' (pReq s r) ss):=by
 have h1:Own B w0 (W.alloc (rqO r)) (pnL p v s (blk W.heap.size (rqO r)::ss)):=(h.box (rqO r)).rot';have x:=zaa (h1.blkAt 2 rfl) 0 rfl;have HE:Hid (pReq s r=wNum (pSgn (pSgn (wNum (wNum (wNum s r.client) r.time) r.kind) r.key) r.val) r.sl):=zq rfl;have HC:=zq (zba r.client h1 (by omega));have g1:=zaz s r.client;generalize hs1:wNum s r.client=s1 at*;clear h h1 hs1;unfold rqO at*;go_enter Tryz.func200,Tryz.ntmps200
 go_wp2_with fail
 refine HC.out.mono ?_;rintro e w1 ⟨rfl,v1,h2⟩;clear HC x;have x:=zaa (h2.blkAt 2 rfl) 1 rfl;have HC:=zq (zba r.time h2 (by omega));have g2:=zaz s1 r.time;generalize hs1:wNum s1 r.time=s2 at*;clear h2 hs1
 go_wp2_with fail
 refine HC.out.mono ?_;rintro e w1 ⟨rfl,v1,h2⟩;clear HC x;have x:=zaa (h2.blkAt 2 rfl) 2 rfl;have HC:=zq (zba r.kind h2 (by omega));have g3:=zaz s2 r.kind;generalize hs1:wNum s2 r.kind=s3 at*;clear h2 hs1
 go_wp2_with fail
 refine HC.out.mono ?_;rintro e w1 ⟨rfl,v1,h2⟩;clear HC x;have x:=zaa (h2.blkAt 2 rfl) 3 rfl;have HC:=zq (zm1 r.key h2 (by omega));have g4:=zhl s3 r.key;generalize hs1:pSgn s3 r.key=s4 at*;clear h2 hs1
 go_wp2_with fail
 refine HC.out.mono ?_;rintro e w1 ⟨rfl,v1,h2⟩;clear HC x;have x:=zaa (h2.blkAt 2 rfl) 4 rfl;have HC:=zq (zm1 r.val h2 (by omega));have g5:=zhl s4 r.val;generalize hs1:pSgn s4 r.val=s5 at*;clear h2 hs1
 go_wp2_with fail
 refine HC.out.mono ?_;rintro e w1 ⟨rfl,v1,h2⟩;clear HC x;have x:=zaa (h2.blkAt 2 rfl) 5 rfl;have HC:=zq (zba r.sl h2 (by omega));have g6:=zaz s5 r.sl;generalize hs1:wNum s5 r.sl=s6 at*;clear h2 hs1
 go_wp2_with fail
 refine HC.out.mono ?_;rintro e w1 ⟨rfl,v1,h2⟩;clear HC x;have H2:=zq h2;clear h2
 go_wp2_with fail
 refine bodyPost_end (results_none rfl _ _ _) rfl ?_;rw [HE.out];exact ⟨rfl,v1,H2.out.dropAt 2 (by simp)⟩
theorem zk6 {l:List (Rq)} {lv:Value} (h:Own B w0 W (pnL p v s (redR lv 6 l.length (l.flatMap zas)::ss))) (hn:l.length≤100000) (hl:s.out.length≤50000000000):
  Calls Tryz.prog 124 #[.pointer (some ⟨p,0,none⟩),lv] W fun e w'=>e= .returned (.tuple #[])∧ ∃v',Own B w0 w' (pnL p v' (pLs pReq s l) (redR lv 6 l.length (l.flatMap zas)::ss)):=by
 have HL:=zq (zjn (l.length:Int) h (by omega));have hg:=zhk s (l.length:Int);obtain ⟨res,HR⟩: ∃res,Hid (pGo pReq (pLst s (l.length:Int)) l=res):=⟨_,zq rfl⟩;have HE:Hid (pLs pReq s l=res):=zq (by rw [←HR.out];unfold pLs;simp);have hbig:256<l.length→(pLst s (l.length:Int)).bad=true:=fun hb=>by unfold pLst wNum wPut;simp;omega
 generalize pLst s (l.length:Int)=s1 at*;obtain ⟨ao,cap,rfl,hcap,-⟩:=zae (k:=2) h rfl;clear h;go_enter Tryz.func124,Tryz.ntmps124
 go_wp2_with fail
 refine HL.out.mono ?_;rintro e w1 ⟨rfl,v1,h2⟩;have H:=zq h2;clear h2 HL
 go_wp2_with fail
 go_loopw [4] (fun i wr=> ∃(k:Nat) (v:Value) (s':Wr),i= .int .i64 k∧k≤l.length∧(s'.bad=false→k≤256)∧(s'.bad=false→l.length≤256)∧s'.out.length≤s1.out.length+36*k∧Hid (pGo pReq s' (l.drop k)=res)∧Hid (Own B w0 wr (pnL p v s' (redR (.slice ao l.length cap) 6 l.length (l.flatMap zas)::ss)))) (fun i _=>l.length-(intOf i).toNat)
 case atStart=>exact ⟨0,v1,s1,rfl,by omega,fun _=>by omega,fun hb=>Nat.le_of_not_lt (fun h9=>by rw [hbig h9] at hb;cases hb),by omega,zq (by simpa using HR.out),H⟩
 case round=>
  clear H HR hbig;obtain ⟨k,v,s',rfl,hk2,hk256,hl256,hlen,HG,H⟩:=hrel;have x1:wr.cell? ⟨p,1,none⟩=some (.bool s'.bad):=zaa (H.out.blkAt 0 rfl) 1 rfl;by_cases hlt:k<l.length
  ·have hkI:(k:Int)<(l.length:Int):=by omega
   cases hbad:s'.bad with
   | true=>
    have HF:Hid (s'=res):=zq ((zhj _ hbad _).symm.trans HG.out);rw [hbad] at x1
    go_wp2_with fail
    refine bodyPost_end (results_none rfl _ _ _) rfl ?_;rw [HE.out,←HF.out];exact ⟨rfl,v,H.out⟩
   | false=>
    have hk9:=hk256 hbad;have hl9:=hl256 hbad;have hK9:=Nat.mul_le_mul_left 36 hk9;have hb9: ∀x,x≤s'.out.length+36→x≤s1.out.length+36*(k+1):=fun x hx=>by rw [Nat.mul_succ];exact Nat.le_trans hx (by rw [←Nat.add_assoc];exact Nat.add_le_add_right hlen _)
    have HM:=zq ((zjj pReq hbad l k (by simpa using hlt)).symm.trans HG.out);rw [hbad] at x1;have hk0:(0:Int)≤(k:Int):=by omega
    have hcI:(l.length:Int)≤(cap:Int):=by omega
    obtain ⟨ao',cap',e0,-,-,-,-,h5⟩:=zae (k:=2) H.out rfl;simp only [Value.slice.injEq,true_and] at e0;obtain ⟨rfl,-⟩:=e0;obtain ⟨b,o,rfl,-,-⟩:=h5 (by omega);clear h5 HG hk256 hl256;have q:=fun j hj=>zhr (i:=2) H.out rfl (fun _=>rfl) k hlt j hj;have q0:wr.cell? ⟨b,o+k*6,none⟩=some (.int .i64 l[k].client):=q 0 (by omega);have q1:wr.cell? ⟨b,o+k*6+1,none⟩=some (.int .i64 l[k].time):=q 1 (by omega);have q2:wr.cell? ⟨b,o+k*6+2,none⟩=some (.int .i64 l[k].kind):=q 2 (by omega);have q3:wr.cell? ⟨b,o+k*6+3,none⟩=some (.int .i64 l[k].key):=q 3 (by omega);have q4:wr.cell? ⟨b,o+k*6+4,none⟩=some (.int .i64 l[k].val):=q 4 (by omega);have q5:wr.cell? ⟨b,o+k*6+5,none⟩=some (.int .i64 l[k].sl):=q 5 (by omega);have HC:=zq (zti l[k] H.out (by omega));have g9:=zjk s' l[k];clear q H;generalize l[k]=x at*
    go_wp2_with fail
    refine HC.out.mono ?_;rintro e w9 ⟨rfl,v9,h9⟩;have H9:=zq h9;clear h9 HC
    go_wp2_with fail
    go_roundw
    case rel=>exact ⟨k+1,v9,_,by go_num,by omega,fun _=>by omega,fun _=>hl9,hb9 _ g9,HM,H9⟩
    case measure=>simp [intOf];omega
  ·have hkI:decide ((k:Int)<(l.length:Int))=false:=by simp;omega
   have HF:Hid (s'=res):=zq (by
    have:=HG.out;rw [List.drop_eq_nil_of_le (by first | omega | (simp;omega))] at this
    exact this)
   go_wp2_with fail
   refine bodyPost_end (results_none rfl _ _ _) rfl ?_;rw [HE.out,←HF.out];exact ⟨rfl,v,H.out⟩
theorem zho {l:List (Int×Int)} {lv:Value} (h:Own B w0 W (pnL p v s (redR lv 2 l.length (l.flatMap za5)::ss))) (hn:l.length≤100000) (hl:s.out.length≤50000000000):
  Calls Tryz.prog 125 #[.pointer (some ⟨p,0,none⟩),lv] W fun e w'=>e= .returned (.tuple #[])∧ ∃v',Own B w0 w' (pnL p v' (pLs wVote s l) (redR lv 2 l.length (l.flatMap za5)::ss)):=by
 have HL:=zq (zjn (l.length:Int) h (by omega));have hg:=zhk s (l.length:Int);obtain ⟨res,HR⟩: ∃res,Hid (pGo wVote (pLst s (l.length:Int)) l=res):=⟨_,zq rfl⟩;have HE:Hid (pLs wVote s l=res):=zq (by rw [←HR.out];unfold pLs;simp);have hbig:256<l.length→(pLst s (l.length:Int)).bad=true:=fun hb=>by unfold pLst wNum wPut;simp;omega
 generalize pLst s (l.length:Int)=s1 at*;obtain ⟨ao,cap,rfl,hcap,-⟩:=zae (k:=2) h rfl;clear h;go_enter Tryz.func125,Tryz.ntmps125
 go_wp2_with fail
 refine HL.out.mono ?_;rintro e w1 ⟨rfl,v1,h2⟩;have H:=zq h2;clear h2 HL
 go_wp2_with fail
 go_loopw [4] (fun i wr=> ∃(k:Nat) (v:Value) (s':Wr),i= .int .i64 k∧k≤l.length∧(s'.bad=false→k≤256)∧(s'.bad=false→l.length≤256)∧s'.out.length≤s1.out.length+12*k∧Hid (pGo wVote s' (l.drop k)=res)∧Hid (Own B w0 wr (pnL p v s' (redR (.slice ao l.length cap) 2 l.length (l.flatMap za5)::ss)))) (fun i _=>l.length-(intOf i).toNat)
 case atStart=>exact ⟨0,v1,s1,rfl,by omega,fun _=>by omega,fun hb=>Nat.le_of_not_lt (fun h9=>by rw [hbig h9] at hb;cases hb),by omega,zq (by simpa using HR.out),H⟩
 case round=>
  clear H HR hbig;obtain ⟨k,v,s',rfl,hk2,hk256,hl256,hlen,HG,H⟩:=hrel;have x1:wr.cell? ⟨p,1,none⟩=some (.bool s'.bad):=zaa (H.out.blkAt 0 rfl) 1 rfl;by_cases hlt:k<l.length
  ·have hkI:(k:Int)<(l.length:Int):=by omega
   cases hbad:s'.bad with
   | true=>
    have HF:Hid (s'=res):=zq ((zhj _ hbad _).symm.trans HG.out);rw [hbad] at x1
    go_wp2_with fail
    refine bodyPost_end (results_none rfl _ _ _) rfl ?_;rw [HE.out,←HF.out];exact ⟨rfl,v,H.out⟩
   | false=>
    have hk9:=hk256 hbad;have hl9:=hl256 hbad;have hK9:=Nat.mul_le_mul_left 12 hk9;have hb9: ∀x,x≤s'.out.length+12→x≤s1.out.length+12*(k+1):=fun x hx=>by rw [Nat.mul_succ];exact Nat.le_trans hx (by rw [←Nat.add_assoc];exact Nat.add_le_add_right hlen _)
    have HM:=zq ((zjj wVote hbad l k (by simpa using hlt)).symm.trans HG.out);rw [hbad] at x1;have hk0:(0:Int)≤(k:Int):=by omega
    have hcI:(l.length:Int)≤(cap:Int):=by omega
    obtain ⟨ao',cap',e0,-,-,-,-,h5⟩:=zae (k:=2) H.out rfl;simp only [Value.slice.injEq,true_and] at e0;obtain ⟨rfl,-⟩:=e0;obtain ⟨b,o,rfl,-,-⟩:=h5 (by omega);clear h5 HG hk256 hl256;have q:=fun j hj=>zhr (i:=2) H.out rfl (fun _=>rfl) k hlt j hj;have q0:wr.cell? ⟨b,o+k*2,none⟩=some (.int .i64 l[k].1):=q 0 (by omega);have q1:wr.cell? ⟨b,o+k*2+1,none⟩=some (.int .i64 l[k].2):=q 1 (by omega);have HC:=zq (zba l[k].1 H.out (by omega));have g8:=zaz s' l[k].1;have g9:=zcs s' l[k];have HQ:Hid (∀w' v' s'',Own B w0 w' (pnL p v' s'' (redR (.slice (some ⟨b,o,none⟩) l.length cap) 2 l.length (l.flatMap za5)::ss))→w'.cell? ⟨b,o+k*2+1,none⟩=some (.int .i64 l[k].2)):=zq (fun w' v' s'' h'=>zhr (i:=2) h' rfl (fun _=>rfl) k hlt 1 (by omega));have HV:Hid (wVote s' l[k]=wNum (wNum s' l[k].1) l[k].2):=zq rfl;rw [HV.out] at HM g9;clear q H HV;generalize l[k]=x at*
    go_wp2_with fail
    refine HC.out.mono ?_;rintro e w8 ⟨rfl,v8,h8⟩;have q1:=HQ.out _ _ _ h8;have HC:=zq (zba x.2 h8 (by omega));clear h8 q0 x1
    go_wp2_with fail
    refine HC.out.mono ?_;rintro e w9 ⟨rfl,v9,h9⟩;have H9:=zq h9;clear h9 HC
    go_wp2_with fail
    go_roundw
    case rel=>exact ⟨k+1,v9,_,by go_num,by omega,fun _=>by omega,fun _=>hl9,hb9 _ g9,HM,H9⟩
    case measure=>simp [intOf];omega
  ·have hkI:decide ((k:Int)<(l.length:Int))=false:=by simp;omega
   have HF:Hid (s'=res):=zq (by
    have:=HG.out;rw [List.drop_eq_nil_of_le (by first | omega | (simp;omega))] at this
    exact this)
   go_wp2_with fail
   refine bodyPost_end (results_none rfl _ _ _) rfl ?_;rw [HE.out,←HF.out];exact ⟨rfl,v,H.out⟩
theorem zk7 {l:List (Ct)} {lv:Value} (h:Own B w0 W (pnL p v s (redR lv 5 l.length (l.flatMap zar)::ctsR l::ss))) (hn:l.length≤100000) (hl:s.out.length≤30000000000):
  Calls Tryz.prog 126 #[.pointer (some ⟨p,0,none⟩),lv] W fun e w'=>e= .returned (.tuple #[])∧ ∃v',Own B w0 w' (pnL p v' (pLs pCert s (l.map Ct.cp)) (redR lv 5 l.length (l.flatMap zar)::ctsR l::ss)):=by
 have HL:=zq (zjn (l.length:Int) h (by omega));have hg:=zhk s (l.length:Int);obtain ⟨res,HR⟩: ∃res,Hid (pGo pCert (pLst s (l.length:Int)) (l.map Ct.cp)=res):=⟨_,zq rfl⟩;have HE:Hid (pLs pCert s (l.map Ct.cp)=res):=zq (by rw [←HR.out];unfold pLs;simp);have hbig:256<l.length→(pLst s (l.length:Int)).bad=true:=fun hb=>by unfold pLst wNum wPut;simp;omega
 generalize pLst s (l.length:Int)=s1 at*;obtain ⟨ao,cap,rfl,hcap,-⟩:=zae (k:=2) h rfl;clear h;go_enter Tryz.func126,Tryz.ntmps126
 go_wp2_with fail
 refine HL.out.mono ?_;rintro e w1 ⟨rfl,v1,h2⟩;have H:=zq h2;clear h2 HL
 go_wp2_with fail
 go_loopw [4] (fun i wr=> ∃(k:Nat) (v:Value) (s':Wr),i= .int .i64 k∧k≤l.length∧(s'.bad=false→k≤256)∧(s'.bad=false→l.length≤256)∧s'.out.length≤s1.out.length+12318*k∧Hid (pGo pCert s' ((l.map Ct.cp).drop k)=res)∧Hid (Own B w0 wr (pnL p v s' (redR (.slice ao l.length cap) 5 l.length (l.flatMap zar)::ctsR l::ss)))) (fun i _=>l.length-(intOf i).toNat)
 case atStart=>exact ⟨0,v1,s1,rfl,by omega,fun _=>by omega,fun hb=>Nat.le_of_not_lt (fun h9=>by rw [hbig h9] at hb;cases hb),by omega,zq (by simpa using HR.out),H⟩
 case round=>
  clear H HR hbig;obtain ⟨k,v,s',rfl,hk2,hk256,hl256,hlen,HG,H⟩:=hrel;have x1:wr.cell? ⟨p,1,none⟩=some (.bool s'.bad):=zaa (H.out.blkAt 0 rfl) 1 rfl;by_cases hlt:k<l.length
  ·have hkI:(k:Int)<(l.length:Int):=by omega
   cases hbad:s'.bad with
   | true=>
    have HF:Hid (s'=res):=zq ((zhj _ hbad _).symm.trans HG.out);rw [hbad] at x1
    go_wp2_with fail
    refine bodyPost_end (results_none rfl _ _ _) rfl ?_;rw [HE.out,←HF.out];exact ⟨rfl,v,H.out⟩
   | false=>
    have hk9:=hk256 hbad;have hl9:=hl256 hbad;have hK9:=Nat.mul_le_mul_left 12318 hk9;have hb9: ∀x,x≤s'.out.length+12318→x≤s1.out.length+12318*(k+1):=fun x hx=>by rw [Nat.mul_succ];exact Nat.le_trans hx (by rw [←Nat.add_assoc];exact Nat.add_le_add_right hlen _)
    have HM:=zq ((zjj pCert hbad (l.map Ct.cp) k (by simpa using hlt)).symm.trans HG.out);rw [hbad] at x1;have hk0:(0:Int)≤(k:Int):=by omega
    have hcI:(l.length:Int)≤(cap:Int):=by omega
    obtain ⟨ao',cap',e0,-,-,-,-,h5⟩:=zae (k:=2) H.out rfl;simp only [Value.slice.injEq,true_and] at e0;obtain ⟨rfl,-⟩:=e0;obtain ⟨b,o,rfl,-,-⟩:=h5 (by omega);clear h5 HG hk256 hl256;have hp:Own B w0 wr (pnL p v s' (redR l[k].vb 6 l[k].rs.length (zaq l[k].rs)::redR l[k].vv 2 l[k].vs.length (zan l[k].vs)::redR (.slice (some ⟨b,o,none⟩) l.length cap) 5 l.length (l.flatMap zar)::ctsR l::ss)):=zir (zrn H.out 3 rfl (List.getElem_mem hlt));have hle:=zrm H.out 3 rfl (List.getElem_mem hlt);have HQ:Hid (∀w' v' s'' (a b':Res),Own B w0 w' (pnL p v' s'' (a::b'::redR (.slice (some ⟨b,o,none⟩) l.length cap) 5 l.length (l.flatMap zar)::ctsR l::ss))→ ∀j,j<5→w'.cell? ⟨b,o+k*5+j,none⟩=(zar l[k])[j]?):=zq (fun w' v' s'' a b' h' j hj=>zhr (i:=4) h' rfl (fun _=>rfl) k hlt j hj);rw [show (l.map Ct.cp)[k]'(by simpa using hlt)=l[k].cp by simp] at HM;have g9:=zgl s' l[k].cp;clear H;generalize l[k]=x at*;obtain ⟨xview,xinst,xseq,xvb,xvv,xrs,xvs⟩:=x;simp only [Ct.cp] at HM hp hle g9;obtain ⟨a1,c1,e1⟩: ∃a c,xvb= .slice a xrs.length c:=let ⟨a,c,e,_⟩:=zae (k:=2) hp rfl;⟨a,c,e⟩;obtain ⟨a2,c2,e2⟩: ∃a c,xvv= .slice a xvs.length c:=let ⟨a,c,e,_⟩:=zae (k:=3) hp rfl;⟨a,c,e⟩;subst e1 e2;have HV:Hid (pCert s' ⟨xview,xinst,xseq,xrs,xvs⟩=pLs wVote (pLs pReq (wNum (wNum (wNum s' xview) xinst) xseq) xrs) xvs):=zq rfl;rw [HV.out] at HM g9;have k1:=zaz s' xview;have k2:=zaz (wNum s' xview) xinst;have k3:=zaz (wNum (wNum s' xview) xinst) xseq;have k4:=zej pReq 36 zjk (wNum (wNum (wNum s' xview) xinst) xseq) xrs;have q:wr.cell? ⟨b,o+k*5,none⟩=some (.int .i64 xview):=HQ.out _ _ _ _ _ hp 0 (by omega);have HC:=zq (zba xview hp (by omega));clear hp
    go_wp2_with fail
    refine HC.out.mono ?_;rintro e w2 ⟨rfl,v2,h2⟩;clear HC q;have q:w2.cell? ⟨b,o+k*5+1,none⟩=some (.int .i64 xinst):=HQ.out _ _ _ _ _ h2 1 (by omega);have HC:=zq (zba xinst h2 (by omega));clear h2 x1
    go_wp2_with fail
    refine HC.out.mono ?_;rintro e w3 ⟨rfl,v3,h3⟩;clear HC q;have q:w3.cell? ⟨b,o+k*5+2,none⟩=some (.int .i64 xseq):=HQ.out _ _ _ _ _ h3 2 (by omega);have HC:=zq (zba xseq h3 (by omega));clear h3
    go_wp2_with fail
    refine HC.out.mono ?_;rintro e w4 ⟨rfl,v4,h4⟩;clear HC q;have q:w4.cell? ⟨b,o+k*5+3,none⟩=some (.slice a1 xrs.length c1):=HQ.out _ _ _ _ _ h4 3 (by omega);have HC:=zq (zk6 h4 hle.1 (by omega));clear h4
    go_wp2_with fail
    refine HC.out.mono ?_;rintro e w5 ⟨rfl,v5,h5⟩;clear HC q;have q:w5.cell? ⟨b,o+k*5+4,none⟩=some (.slice a2 xvs.length c2):=HQ.out _ _ _ _ _ h5 4 (by omega);have HC:=zq (zho ((h5.front 3 rfl rfl).rot') hle.2 (by omega));clear h5
    go_wp2_with fail
    refine HC.out.mono ?_;rintro e w9 ⟨rfl,v9,h9⟩;clear HC q;have H9:=zq ((h9.dropAt 2 (by simp)).dropAt 2 (by simp));clear h9
    go_wp2_with fail
    go_roundw
    case rel=>exact ⟨k+1,v9,_,by go_num,by omega,fun _=>by omega,fun _=>hl9,hb9 _ g9,HM,H9⟩
    case measure=>simp [intOf];omega
  ·have hkI:decide ((k:Int)<(l.length:Int))=false:=by simp;omega
   have HF:Hid (s'=res):=zq (by
    have:=HG.out;rw [List.drop_eq_nil_of_le (by first | omega | (simp;omega))] at this
    exact this)
   go_wp2_with fail
   refine bodyPost_end (results_none rfl _ _ _) rfl ?_;rw [HE.out,←HF.out];exact ⟨rfl,v,H.out⟩
theorem ztf {l:List (Pt)} {lv:Value} (h:Own B w0 W (pnL p v s (redR lv 4 l.length (l.flatMap za1)::ptsR l::ss))) (hn:l.length≤100000) (hl:s.out.length≤10000000000):
  Calls Tryz.prog 127 #[.pointer (some ⟨p,0,none⟩),lv] W fun e w'=>e= .returned (.tuple #[])∧ ∃v',Own B w0 w' (pnL p v' (pLs pPart s (l.map Pt.pa)) (redR lv 4 l.length (l.flatMap za1)::ptsR l::ss)):=by
 have HL:=zq (zjn (l.length:Int) h (by omega));have hg:=zhk s (l.length:Int);obtain ⟨res,HR⟩: ∃res,Hid (pGo pPart (pLst s (l.length:Int)) (l.map Pt.pa)=res):=⟨_,zq rfl⟩;have HE:Hid (pLs pPart s (l.map Pt.pa)=res):=zq (by rw [←HR.out];unfold pLs;simp);have hbig:256<l.length→(pLst s (l.length:Int)).bad=true:=fun hb=>by unfold pLst wNum wPut;simp;omega
 generalize pLst s (l.length:Int)=s1 at*;obtain ⟨ao,cap,rfl,hcap,-⟩:=zae (k:=2) h rfl;clear h;go_enter Tryz.func127,Tryz.ntmps127
 go_wp2_with fail
 refine HL.out.mono ?_;rintro e w1 ⟨rfl,v1,h2⟩;have H:=zq h2;clear h2 HL
 go_wp2_with fail
 go_loopw [4] (fun i wr=> ∃(k:Nat) (v:Value) (s':Wr),i= .int .i64 k∧k≤l.length∧(s'.bad=false→k≤256)∧(s'.bad=false→l.length≤256)∧s'.out.length≤s1.out.length+3156510*k∧Hid (pGo pPart s' ((l.map Pt.pa).drop k)=res)∧Hid (Own B w0 wr (pnL p v s' (redR (.slice ao l.length cap) 4 l.length (l.flatMap za1)::ptsR l::ss)))) (fun i _=>l.length-(intOf i).toNat)
 case atStart=>exact ⟨0,v1,s1,rfl,by omega,fun _=>by omega,fun hb=>Nat.le_of_not_lt (fun h9=>by rw [hbig h9] at hb;cases hb),by omega,zq (by simpa using HR.out),H⟩
 case round=>
  clear H HR hbig;obtain ⟨k,v,s',rfl,hk2,hk256,hl256,hlen,HG,H⟩:=hrel;have x1:wr.cell? ⟨p,1,none⟩=some (.bool s'.bad):=zaa (H.out.blkAt 0 rfl) 1 rfl;by_cases hlt:k<l.length
  ·have hkI:(k:Int)<(l.length:Int):=by omega
   cases hbad:s'.bad with
   | true=>
    have HF:Hid (s'=res):=zq ((zhj _ hbad _).symm.trans HG.out);rw [hbad] at x1
    go_wp2_with fail
    refine bodyPost_end (results_none rfl _ _ _) rfl ?_;rw [HE.out,←HF.out];exact ⟨rfl,v,H.out⟩
   | false=>
    have hk9:=hk256 hbad;have hl9:=hl256 hbad;have hK9:=Nat.mul_le_mul_left 3156510 hk9;have hb9: ∀x,x≤s'.out.length+3156510→x≤s1.out.length+3156510*(k+1):=fun x hx=>by rw [Nat.mul_succ];exact Nat.le_trans hx (by rw [←Nat.add_assoc];exact Nat.add_le_add_right hlen _)
    have HM:=zq ((zjj pPart hbad (l.map Pt.pa) k (by simpa using hlt)).symm.trans HG.out);rw [hbad] at x1;have hk0:(0:Int)≤(k:Int):=by omega
    have hcI:(l.length:Int)≤(cap:Int):=by omega
    obtain ⟨ao',cap',e0,-,-,-,-,h5⟩:=zae (k:=2) H.out rfl;simp only [Value.slice.injEq,true_and] at e0;obtain ⟨rfl,-⟩:=e0;obtain ⟨b,o,rfl,-,-⟩:=h5 (by omega);clear h5 HG hk256 hl256;have hp:Own B w0 wr (pnL p v s' (redR l[k].vv 2 l[k].vs.length (zan l[k].vs)::redR l[k].cv 5 l[k].cts.length (l[k].cts.flatMap zar)::ctsR l[k].cts::redR (.slice (some ⟨b,o,none⟩) l.length cap) 4 l.length (l.flatMap za1)::ptsR l::ss)):=zof (ztm H.out 3 rfl (List.getElem_mem hlt));have hle:=ztl H.out 3 rfl (List.getElem_mem hlt);have HQ:Hid (∀w' v' s'' (a b' c':Res),Own B w0 w' (pnL p v' s'' (a::b'::c'::redR (.slice (some ⟨b,o,none⟩) l.length cap) 4 l.length (l.flatMap za1)::ptsR l::ss))→ ∀j,j<4→w'.cell? ⟨b,o+k*4+j,none⟩=(za1 l[k])[j]?):=zq (fun w' v' s'' a b' c' h' j hj=>zhr (i:=5) h' rfl (fun _=>rfl) k hlt j hj);rw [show (l.map Pt.pa)[k]'(by simpa using hlt)=l[k].pa by simp] at HM;have g9:=zog s' l[k].pa;clear H;generalize l[k]=x at*;obtain ⟨xfm,xvv,xvs,xcv,xcts,xsl⟩:=x;simp only [Pt.pa] at HM hp hle g9;obtain ⟨a1,c1,e1⟩: ∃a c,xvv= .slice a xvs.length c:=let ⟨a,c,e,_⟩:=zae (k:=2) hp rfl;⟨a,c,e⟩;obtain ⟨a2,c2,e2⟩: ∃a c,xcv= .slice a xcts.length c:=let ⟨a,c,e,_⟩:=zae (k:=3) hp rfl;⟨a,c,e⟩;subst e1 e2;have HV:Hid (pPart s' ⟨xfm,xvs,xcts.map Ct.cp,xsl⟩=wNum (pLs pCert (pLs wVote (wNum s' xfm) xvs) (xcts.map Ct.cp)) xsl):=zq rfl;rw [HV.out] at HM g9;have k1:=zaz s' xfm;have k2:=zej wVote 12 zcs (wNum s' xfm) xvs;have k3:=zej pCert 12318 zgl (pLs wVote (wNum s' xfm) xvs) (xcts.map Ct.cp);have q:wr.cell? ⟨b,o+k*4,none⟩=some (.int .i64 xfm):=HQ.out _ _ _ _ _ _ hp 0 (by omega);have HC:=zq (zba xfm hp (by omega));clear hp
    go_wp2_with fail
    refine HC.out.mono ?_;rintro e w2 ⟨rfl,v2,h2⟩;clear HC q;have q:w2.cell? ⟨b,o+k*4+1,none⟩=some (.slice a1 xvs.length c1):=HQ.out _ _ _ _ _ _ h2 1 (by omega);have HC:=zq (zho h2 hle.1 (by omega));clear h2 x1
    go_wp2_with fail
    refine HC.out.mono ?_;rintro e w3 ⟨rfl,v3,h3⟩;clear HC q;have q:w3.cell? ⟨b,o+k*4+2,none⟩=some (.slice a2 xcts.length c2):=HQ.out _ _ _ _ _ _ h3 2 (by omega);have HC:=zq (zk7 (zir ((h3.front 4 rfl rfl).front 4 rfl rfl)) hle.2 (by omega));clear h3
    go_wp2_with fail
    refine HC.out.mono ?_;rintro e w4 ⟨rfl,v4,h4⟩;clear HC q;have q:w4.cell? ⟨b,o+k*4+3,none⟩=some (.int .i64 xsl):=HQ.out _ _ _ _ _ _ h4 3 (by omega);have HC:=zq (zba xsl h4 (by omega));clear h4
    go_wp2_with fail
    refine HC.out.mono ?_;rintro e w9 ⟨rfl,v9,h9⟩;clear HC q;have H9:=zq (((h9.dropAt 2 (by simp)).dropAt 2 (by simp)).dropAt 2 (by simp));clear h9
    go_wp2_with fail
    go_roundw
    case rel=>exact ⟨k+1,v9,_,by go_num,by omega,fun _=>by omega,fun _=>hl9,hb9 _ g9,HM,H9⟩
    case measure=>simp [intOf];omega
  ·have hkI:decide ((k:Int)<(l.length:Int))=false:=by simp;omega
   have HF:Hid (s'=res):=zq (by
    have:=HG.out;rw [List.drop_eq_nil_of_le (by first | omega | (simp;omega))] at this
    exact this)
   go_wp2_with fail
   refine bodyPost_end (results_none rfl _ _ _) rfl ?_;rw [HE.out,←HF.out];exact ⟨rfl,v,H.out⟩
end
end Go.Proofs.YtannckelmojkoaaGreat
