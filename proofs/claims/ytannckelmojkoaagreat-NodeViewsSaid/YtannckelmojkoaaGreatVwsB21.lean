/- Parts of the proof, one behind the other. -/
import Derived.Test.YtannckelmojkoaaGreatVwsB20
set_option maxHeartbeats 32000000
set_option maxRecDepth 100000
set_option linter.unusedVariables false
set_option linter.unusedSimpArgs false
namespace Go.Proofs.YtannckelmojkoaaGreat
open Go.RowKit Go.Heap
def pGo {α:Type} (one:Wr→α→Wr):Wr→List α→Wr
 | s,[]=>s
 | s,x::l=>if s.bad then s else pGo one (one s x) l
def pLs {α:Type} (one:Wr→α→Wr) (s:Wr) (l:List α):Wr:=pGo one (pLst s l.length) l
def pCert (s:Wr) (c:Cp):Wr:=pLs wVote (pLs pReq (wNum (wNum (wNum s c.view) c.inst) c.seq) c.rs) c.vs
def pPart (s:Wr) (p:Pa):Wr:=wNum (pLs pCert (pLs wVote (wNum s p.fm) p.vs) p.cs) p.sl
theorem zhi (s:Wr) (n:Int):(pSgn s n).out.length≤s.out.length+6:=zau ⟨s.out,_⟩ _
theorem zhh (s:Wr) (n:Int):(pLst s n).out.length≤s.out.length+6:=zau ⟨s.out,_⟩ _
theorem zji (s:Wr) (r:Rq):(pReq s r).out.length≤s.out.length+36:=by
 have h1:=zau s r.client;have h2:=zau (wNum s r.client) r.time;have h3:=zau (wNum (wNum s r.client) r.time) r.kind;have h4:=zhi (wNum (wNum (wNum s r.client) r.time) r.kind) r.key;have h5:=zhi (pSgn (wNum (wNum (wNum s r.client) r.time) r.kind) r.key) r.val;have h6:=zau (pSgn (pSgn (wNum (wNum (wNum s r.client) r.time) r.kind) r.key) r.val) r.sl;unfold pReq;omega
theorem zhg {α:Type} (one:Wr→α→Wr) {s:Wr} (h:s.bad=true): ∀l:List α,pGo one s l=s
 | []=>rfl
 | x::l=>by unfold pGo;rw [if_pos h]
theorem zjh {α:Type} (one:Wr→α→Wr) {s:Wr} (h:s.bad=false) (l:List α) (k:Nat) (hk:k<l.length):pGo one s (l.drop k)=pGo one (one s l[k]) (l.drop (k+1)):=by
 rw [←List.getElem_cons_drop hk];conv=>lhs;unfold pGo
 rw [if_neg (by simp [h])]
theorem zxt {α:Type} (one:Wr→α→Wr) (K:Nat) (h: ∀s x,(one s x).out.length≤s.out.length+K): ∀(l:List α) (s:Wr),(pGo one s l).out.length≤s.out.length+K*l.length
 | [],s=>by simp [pGo]
 | x::l,s=>by
  unfold pGo;split
  ·omega
  ·have h1:=zxt one K h l (one s x);have h2:=h s x;rw [List.length_cons,Nat.mul_add];omega
theorem zei {α:Type} (one:Wr→α→Wr) (K:Nat) (h: ∀s x,(one s x).out.length≤s.out.length+K) (s:Wr) (l:List α):(pLs one s l).out.length≤s.out.length+6+K*256:=by
 have h2:=zhh s l.length;unfold pLs;by_cases hb:256<l.length
 ·rw [zhg one (by unfold pLst wNum wPut;simp;omega)];omega
 ·have h1:=zxt one K h l (pLst s l.length)
  have h3:K*l.length≤K*256:=Nat.mul_le_mul_left _ (by omega);omega
theorem zgm (s:Wr) (c:Cp):(pCert s c).out.length≤s.out.length+12318:=by
 have h3:=zcu [c.view,c.inst,c.seq] s;simp only [List.foldl_cons,List.foldl_nil,List.length_cons,List.length_nil] at h3;have h2:=zei pReq 36 zji (wNum (wNum (wNum s c.view) c.inst) c.seq) c.rs;have h1:=zei wVote 12 zcv (pLs pReq (wNum (wNum (wNum s c.view) c.inst) c.seq) c.rs) c.vs;unfold pCert;omega
theorem zn6 (s:Wr) (p:Pa):(pPart s p).out.length≤s.out.length+3156510:=by
 have h0:=zau s p.fm;have h1:=zei wVote 12 zcv (wNum s p.fm) p.vs;have h2:=zei pCert 12318 zgm (pLs wVote (wNum s p.fm) p.vs) p.cs;have h3:=zau (pLs pCert (pLs wVote (wNum s p.fm) p.vs) p.cs) p.sl;unfold pPart;omega
section
variable {B:Nat} {w0 w W W':World} {ss rs:List Res} {p:Nat} {v bv:Value} {s:Wr}
theorem zhp {α:Type} {cells:α→List Value} {sz:Nat} {l:List α} {b o cap i:Nat} (h:Own B w0 W rs) (e:rs[i]?=some (redR (.slice (some ⟨b,o,none⟩) l.length cap) sz l.length (l.flatMap cells))) (hl: ∀x,(cells x).length=sz) (k:Nat) (hk:k<l.length) (j:Nat) (hj:j<sz):
  W.cell? ⟨b,o+k*sz+j,none⟩=(cells l[k])[j]?:=by
 obtain ⟨ao',cap',e0,-,-,-,-,h5⟩:=zad h e;simp only [Value.slice.injEq,true_and] at e0;obtain ⟨rfl,-⟩:=e0;obtain ⟨b',o',e1,-,hc⟩:=h5 (by omega);simp only [Option.some.injEq,Addr.mk.injEq,and_true] at e1;obtain ⟨rfl,rfl⟩:=e1;have hlt:k*sz+j<l.length*sz:=by
  have:=Nat.mul_le_mul_right sz (show k+1≤l.length from hk);rw [Nat.add_mul,Nat.one_mul] at this;omega
 rw [Nat.add_assoc,hc _ hlt,zd4 cells sz hl l k j hk hj]
theorem zsk (r:Rq) (h:Own B w0 W (pnL p v s ss)) (hl:s.out.length≤100000000000):
  Calls Tryz.prog 200 #[.pointer (some ⟨p,0,none⟩),.agg #[.int .i64 r.client,.int .i64 r.time,.int .i64 r.kind,.int .i64 r.key,.int .i64 r.val,.int .i64 r.sl]] W fun e w'=>e= .returned (.tuple #[])∧ ∃v',Own B w0 w' (pnL p v' (pReq s r) ss):=by
 have h1:Own B w0 (W.alloc (rqO r)) (pnL p v s (blk W.heap.size (rqO r)::ss)):=(h.box (rqO r)).rot';have x:=zaa (h1.blkAt 2 rfl) 0 rfl;have HE:Hid (pReq s r=wNum (pSgn (pSgn (wNum (wNum (wNum s r.client) r.time) r.kind) r.key) r.val) r.sl):=zq rfl;have HC:=zq (zba r.client h1 (by omega));have g1:=zau s r.client;generalize hs1:wNum s r.client=s1 at*;clear h h1 hs1;unfold rqO at*;go_enter Tryz.func200,Tryz.ntmps200
 go_wp2_with fail
 refine HC.out.mono ?_;rintro e w1 ⟨rfl,v1,h2⟩;clear HC x;have x:=zaa (h2.blkAt 2 rfl) 1 rfl;have HC:=zq (zba r.time h2 (by omega));have g2:=zau s1 r.time;generalize hs1:wNum s1 r.time=s2 at*;clear h2 hs1
 go_wp2_with fail
 refine HC.out.mono ?_;rintro e w1 ⟨rfl,v1,h2⟩;clear HC x;have x:=zaa (h2.blkAt 2 rfl) 2 rfl;have HC:=zq (zba r.kind h2 (by omega));have g3:=zau s2 r.kind;generalize hs1:wNum s2 r.kind=s3 at*;clear h2 hs1
 go_wp2_with fail
 refine HC.out.mono ?_;rintro e w1 ⟨rfl,v1,h2⟩;clear HC x;have x:=zaa (h2.blkAt 2 rfl) 3 rfl;have HC:=zq (zmk r.key h2 (by omega));have g4:=zhi s3 r.key;generalize hs1:pSgn s3 r.key=s4 at*;clear h2 hs1
 go_wp2_with fail
 refine HC.out.mono ?_;rintro e w1 ⟨rfl,v1,h2⟩;clear HC x;have x:=zaa (h2.blkAt 2 rfl) 4 rfl;have HC:=zq (zmk r.val h2 (by omega));have g5:=zhi s4 r.val;generalize hs1:pSgn s4 r.val=s5 at*;clear h2 hs1
 go_wp2_with fail
 refine HC.out.mono ?_;rintro e w1 ⟨rfl,v1,h2⟩;clear HC x;have x:=zaa (h2.blkAt 2 rfl) 5 rfl;have HC:=zq (zba r.sl h2 (by omega));have g6:=zau s5 r.sl;generalize hs1:wNum s5 r.sl=s6 at*;clear h2 hs1
 go_wp2_with fail
 refine HC.out.mono ?_;rintro e w1 ⟨rfl,v1,h2⟩;clear HC x;have H2:=zq h2;clear h2
 go_wp2_with fail
 refine bodyPost_end (results_none rfl _ _ _) rfl ?_;rw [HE.out];exact ⟨rfl,v1,H2.out.dropAt 2 (by simp)⟩
theorem zku {l:List (Rq)} {lv:Value} (h:Own B w0 W (pnL p v s (redR lv 6 l.length (l.flatMap zbh)::ss))) (hn:l.length≤100000) (hl:s.out.length≤50000000000):
  Calls Tryz.prog 124 #[.pointer (some ⟨p,0,none⟩),lv] W fun e w'=>e= .returned (.tuple #[])∧ ∃v',Own B w0 w' (pnL p v' (pLs pReq s l) (redR lv 6 l.length (l.flatMap zbh)::ss)):=by
 have HL:=zq (zjl (l.length:Int) h (by omega));have hg:=zhh s (l.length:Int);obtain ⟨res,HR⟩: ∃res,Hid (pGo pReq (pLst s (l.length:Int)) l=res):=⟨_,zq rfl⟩;have HE:Hid (pLs pReq s l=res):=zq (by rw [←HR.out];unfold pLs;simp);have hbig:256<l.length→(pLst s (l.length:Int)).bad=true:=fun hb=>by unfold pLst wNum wPut;simp;omega
 generalize pLst s (l.length:Int)=s1 at*;obtain ⟨ao,cap,rfl,hcap,-⟩:=zad (k:=2) h rfl;clear h;go_enter Tryz.func124,Tryz.ntmps124
 go_wp2_with fail
 refine HL.out.mono ?_;rintro e w1 ⟨rfl,v1,h2⟩;have H:=zq h2;clear h2 HL
 go_wp2_with fail
 go_loopw [4] (fun i wr=> ∃(k:Nat) (v:Value) (s':Wr),i= .int .i64 k∧k≤l.length∧(s'.bad=false→k≤256)∧(s'.bad=false→l.length≤256)∧s'.out.length≤s1.out.length+36*k∧Hid (pGo pReq s' (l.drop k)=res)∧Hid (Own B w0 wr (pnL p v s' (redR (.slice ao l.length cap) 6 l.length (l.flatMap zbh)::ss)))) (fun i _=>l.length-(intOf i).toNat)
 case atStart=>exact ⟨0,v1,s1,rfl,by omega,fun _=>by omega,fun hb=>Nat.le_of_not_lt (fun h9=>by rw [hbig h9] at hb;cases hb),by omega,zq (by simpa using HR.out),H⟩
 case round=>
  clear H HR hbig;obtain ⟨k,v,s',rfl,hk2,hk256,hl256,hlen,HG,H⟩:=hrel;have x1:wr.cell? ⟨p,1,none⟩=some (.bool s'.bad):=zaa (H.out.blkAt 0 rfl) 1 rfl;by_cases hlt:k<l.length
  ·have hkI:(k:Int)<(l.length:Int):=by omega
   cases hbad:s'.bad with
   | true=>
    have HF:Hid (s'=res):=zq ((zhg _ hbad _).symm.trans HG.out);rw [hbad] at x1
    go_wp2_with fail
    refine bodyPost_end (results_none rfl _ _ _) rfl ?_;rw [HE.out,←HF.out];exact ⟨rfl,v,H.out⟩
   | false=>
    have hk9:=hk256 hbad;have hl9:=hl256 hbad;have hK9:=Nat.mul_le_mul_left 36 hk9;have hb9: ∀x,x≤s'.out.length+36→x≤s1.out.length+36*(k+1):=fun x hx=>by rw [Nat.mul_succ];exact Nat.le_trans hx (by rw [←Nat.add_assoc];exact Nat.add_le_add_right hlen _)
    have HM:=zq ((zjh pReq hbad l k (by simpa using hlt)).symm.trans HG.out);rw [hbad] at x1;have hk0:(0:Int)≤(k:Int):=by omega
    have hcI:(l.length:Int)≤(cap:Int):=by omega
    obtain ⟨ao',cap',e0,-,-,-,-,h5⟩:=zad (k:=2) H.out rfl;simp only [Value.slice.injEq,true_and] at e0;obtain ⟨rfl,-⟩:=e0;obtain ⟨b,o,rfl,-,-⟩:=h5 (by omega);clear h5 HG hk256 hl256;have q:=fun j hj=>zhp (i:=2) H.out rfl (fun _=>rfl) k hlt j hj;have q0:wr.cell? ⟨b,o+k*6,none⟩=some (.int .i64 l[k].client):=q 0 (by omega);have q1:wr.cell? ⟨b,o+k*6+1,none⟩=some (.int .i64 l[k].time):=q 1 (by omega);have q2:wr.cell? ⟨b,o+k*6+2,none⟩=some (.int .i64 l[k].kind):=q 2 (by omega);have q3:wr.cell? ⟨b,o+k*6+3,none⟩=some (.int .i64 l[k].key):=q 3 (by omega);have q4:wr.cell? ⟨b,o+k*6+4,none⟩=some (.int .i64 l[k].val):=q 4 (by omega);have q5:wr.cell? ⟨b,o+k*6+5,none⟩=some (.int .i64 l[k].sl):=q 5 (by omega);have HC:=zq (zsk l[k] H.out (by omega));have g9:=zji s' l[k];clear q H;generalize l[k]=x at*
    go_wp2_with fail
    refine HC.out.mono ?_;rintro e w9 ⟨rfl,v9,h9⟩;have H9:=zq h9;clear h9 HC
    go_wp2_with fail
    go_roundw
    case rel=>exact ⟨k+1,v9,_,by go_num,by omega,fun _=>by omega,fun _=>hl9,hb9 _ g9,HM,H9⟩
    case measure=>simp [intOf];omega
  ·have hkI:decide ((k:Int)<(l.length:Int))=false:=by simp;omega
   have HF:Hid (s'=res):=zq (by
    have:=HG.out;rw [List.drop_eq_nil_of_le (by first | omega | (simp;omega))] at this
    exact this)
   go_wp2_with fail
   refine bodyPost_end (results_none rfl _ _ _) rfl ?_;rw [HE.out,←HF.out];exact ⟨rfl,v,H.out⟩
theorem zhm {l:List (Int×Int)} {lv:Value} (h:Own B w0 W (pnL p v s (redR lv 2 l.length (l.flatMap za2)::ss))) (hn:l.length≤100000) (hl:s.out.length≤50000000000):
  Calls Tryz.prog 125 #[.pointer (some ⟨p,0,none⟩),lv] W fun e w'=>e= .returned (.tuple #[])∧ ∃v',Own B w0 w' (pnL p v' (pLs wVote s l) (redR lv 2 l.length (l.flatMap za2)::ss)):=by
 have HL:=zq (zjl (l.length:Int) h (by omega));have hg:=zhh s (l.length:Int);obtain ⟨res,HR⟩: ∃res,Hid (pGo wVote (pLst s (l.length:Int)) l=res):=⟨_,zq rfl⟩;have HE:Hid (pLs wVote s l=res):=zq (by rw [←HR.out];unfold pLs;simp);have hbig:256<l.length→(pLst s (l.length:Int)).bad=true:=fun hb=>by unfold pLst wNum wPut;simp;omega
 generalize pLst s (l.length:Int)=s1 at*;obtain ⟨ao,cap,rfl,hcap,-⟩:=zad (k:=2) h rfl;clear h;go_enter Tryz.func125,Tryz.ntmps125
 go_wp2_with fail
 refine HL.out.mono ?_;rintro e w1 ⟨rfl,v1,h2⟩;have H:=zq h2;clear h2 HL
 go_wp2_with fail
 go_loopw [4] (fun i wr=> ∃(k:Nat) (v:Value) (s':Wr),i= .int .i64 k∧k≤l.length∧(s'.bad=false→k≤256)∧(s'.bad=false→l.length≤256)∧s'.out.length≤s1.out.length+12*k∧Hid (pGo wVote s' (l.drop k)=res)∧Hid (Own B w0 wr (pnL p v s' (redR (.slice ao l.length cap) 2 l.length (l.flatMap za2)::ss)))) (fun i _=>l.length-(intOf i).toNat)
 case atStart=>exact ⟨0,v1,s1,rfl,by omega,fun _=>by omega,fun hb=>Nat.le_of_not_lt (fun h9=>by rw [hbig h9] at hb;cases hb),by omega,zq (by simpa using HR.out),H⟩
 case round=>
  clear H HR hbig;obtain ⟨k,v,s',rfl,hk2,hk256,hl256,hlen,HG,H⟩:=hrel;have x1:wr.cell? ⟨p,1,none⟩=some (.bool s'.bad):=zaa (H.out.blkAt 0 rfl) 1 rfl;by_cases hlt:k<l.length
  ·have hkI:(k:Int)<(l.length:Int):=by omega
   cases hbad:s'.bad with
   | true=>
    have HF:Hid (s'=res):=zq ((zhg _ hbad _).symm.trans HG.out);rw [hbad] at x1
    go_wp2_with fail
    refine bodyPost_end (results_none rfl _ _ _) rfl ?_;rw [HE.out,←HF.out];exact ⟨rfl,v,H.out⟩
   | false=>
    have hk9:=hk256 hbad;have hl9:=hl256 hbad;have hK9:=Nat.mul_le_mul_left 12 hk9;have hb9: ∀x,x≤s'.out.length+12→x≤s1.out.length+12*(k+1):=fun x hx=>by rw [Nat.mul_succ];exact Nat.le_trans hx (by rw [←Nat.add_assoc];exact Nat.add_le_add_right hlen _)
    have HM:=zq ((zjh wVote hbad l k (by simpa using hlt)).symm.trans HG.out);rw [hbad] at x1;have hk0:(0:Int)≤(k:Int):=by omega
    have hcI:(l.length:Int)≤(cap:Int):=by omega
    obtain ⟨ao',cap',e0,-,-,-,-,h5⟩:=zad (k:=2) H.out rfl;simp only [Value.slice.injEq,true_and] at e0;obtain ⟨rfl,-⟩:=e0;obtain ⟨b,o,rfl,-,-⟩:=h5 (by omega);clear h5 HG hk256 hl256;have q:=fun j hj=>zhp (i:=2) H.out rfl (fun _=>rfl) k hlt j hj;have q0:wr.cell? ⟨b,o+k*2,none⟩=some (.int .i64 l[k].1):=q 0 (by omega);have q1:wr.cell? ⟨b,o+k*2+1,none⟩=some (.int .i64 l[k].2):=q 1 (by omega);have HC:=zq (zba l[k].1 H.out (by omega));have g8:=zau s' l[k].1;have g9:=zcv s' l[k];have HQ:Hid (∀w' v' s'',Own B w0 w' (pnL p v' s'' (redR (.slice (some ⟨b,o,none⟩) l.length cap) 2 l.length (l.flatMap za2)::ss))→w'.cell? ⟨b,o+k*2+1,none⟩=some (.int .i64 l[k].2)):=zq (fun w' v' s'' h'=>zhp (i:=2) h' rfl (fun _=>rfl) k hlt 1 (by omega));have HV:Hid (wVote s' l[k]=wNum (wNum s' l[k].1) l[k].2):=zq rfl;rw [HV.out] at HM g9;clear q H HV;generalize l[k]=x at*
    go_wp2_with fail
    refine HC.out.mono ?_;rintro e w8 ⟨rfl,v8,h8⟩;have q1:=HQ.out _ _ _ h8;have HC:=zq (zba x.2 h8 (by omega));clear h8 q0 x1
    go_wp2_with fail
    refine HC.out.mono ?_;rintro e w9 ⟨rfl,v9,h9⟩;have H9:=zq h9;clear h9 HC
    go_wp2_with fail
    go_roundw
    case rel=>exact ⟨k+1,v9,_,by go_num,by omega,fun _=>by omega,fun _=>hl9,hb9 _ g9,HM,H9⟩
    case measure=>simp [intOf];omega
  ·have hkI:decide ((k:Int)<(l.length:Int))=false:=by simp;omega
   have HF:Hid (s'=res):=zq (by
    have:=HG.out;rw [List.drop_eq_nil_of_le (by first | omega | (simp;omega))] at this
    exact this)
   go_wp2_with fail
   refine bodyPost_end (results_none rfl _ _ _) rfl ?_;rw [HE.out,←HF.out];exact ⟨rfl,v,H.out⟩
theorem zkv {l:List (Ct)} {lv:Value} (h:Own B w0 W (pnL p v s (redR lv 5 l.length (l.flatMap zag)::ctsR l::ss))) (hn:l.length≤100000) (hl:s.out.length≤30000000000):
  Calls Tryz.prog 126 #[.pointer (some ⟨p,0,none⟩),lv] W fun e w'=>e= .returned (.tuple #[])∧ ∃v',Own B w0 w' (pnL p v' (pLs pCert s (l.map Ct.cp)) (redR lv 5 l.length (l.flatMap zag)::ctsR l::ss)):=by
 have HL:=zq (zjl (l.length:Int) h (by omega));have hg:=zhh s (l.length:Int);obtain ⟨res,HR⟩: ∃res,Hid (pGo pCert (pLst s (l.length:Int)) (l.map Ct.cp)=res):=⟨_,zq rfl⟩;have HE:Hid (pLs pCert s (l.map Ct.cp)=res):=zq (by rw [←HR.out];unfold pLs;simp);have hbig:256<l.length→(pLst s (l.length:Int)).bad=true:=fun hb=>by unfold pLst wNum wPut;simp;omega
 generalize pLst s (l.length:Int)=s1 at*;obtain ⟨ao,cap,rfl,hcap,-⟩:=zad (k:=2) h rfl;clear h;go_enter Tryz.func126,Tryz.ntmps126
 go_wp2_with fail
 refine HL.out.mono ?_;rintro e w1 ⟨rfl,v1,h2⟩;have H:=zq h2;clear h2 HL
 go_wp2_with fail
 go_loopw [4] (fun i wr=> ∃(k:Nat) (v:Value) (s':Wr),i= .int .i64 k∧k≤l.length∧(s'.bad=false→k≤256)∧(s'.bad=false→l.length≤256)∧s'.out.length≤s1.out.length+12318*k∧Hid (pGo pCert s' ((l.map Ct.cp).drop k)=res)∧Hid (Own B w0 wr (pnL p v s' (redR (.slice ao l.length cap) 5 l.length (l.flatMap zag)::ctsR l::ss)))) (fun i _=>l.length-(intOf i).toNat)
 case atStart=>exact ⟨0,v1,s1,rfl,by omega,fun _=>by omega,fun hb=>Nat.le_of_not_lt (fun h9=>by rw [hbig h9] at hb;cases hb),by omega,zq (by simpa using HR.out),H⟩
 case round=>
  clear H HR hbig;obtain ⟨k,v,s',rfl,hk2,hk256,hl256,hlen,HG,H⟩:=hrel;have x1:wr.cell? ⟨p,1,none⟩=some (.bool s'.bad):=zaa (H.out.blkAt 0 rfl) 1 rfl;by_cases hlt:k<l.length
  ·have hkI:(k:Int)<(l.length:Int):=by omega
   cases hbad:s'.bad with
   | true=>
    have HF:Hid (s'=res):=zq ((zhg _ hbad _).symm.trans HG.out);rw [hbad] at x1
    go_wp2_with fail
    refine bodyPost_end (results_none rfl _ _ _) rfl ?_;rw [HE.out,←HF.out];exact ⟨rfl,v,H.out⟩
   | false=>
    have hk9:=hk256 hbad;have hl9:=hl256 hbad;have hK9:=Nat.mul_le_mul_left 12318 hk9;have hb9: ∀x,x≤s'.out.length+12318→x≤s1.out.length+12318*(k+1):=fun x hx=>by rw [Nat.mul_succ];exact Nat.le_trans hx (by rw [←Nat.add_assoc];exact Nat.add_le_add_right hlen _)
    have HM:=zq ((zjh pCert hbad (l.map Ct.cp) k (by simpa using hlt)).symm.trans HG.out);rw [hbad] at x1;have hk0:(0:Int)≤(k:Int):=by omega
    have hcI:(l.length:Int)≤(cap:Int):=by omega
    obtain ⟨ao',cap',e0,-,-,-,-,h5⟩:=zad (k:=2) H.out rfl;simp only [Value.slice.injEq,true_and] at e0;obtain ⟨rfl,-⟩:=e0;obtain ⟨b,o,rfl,-,-⟩:=h5 (by omega);clear h5 HG hk256 hl256;have hp:Own B w0 wr (pnL p v s' (redR l[k].vb 6 l[k].rs.length (zak l[k].rs)::redR l[k].vv 2 l[k].vs.length (zaf l[k].vs)::redR (.slice (some ⟨b,o,none⟩) l.length cap) 5 l.length (l.flatMap zag)::ctsR l::ss)):=zig (zqr H.out 3 rfl (List.getElem_mem hlt));have hle:=zqq H.out 3 rfl (List.getElem_mem hlt);have HQ:Hid (∀w' v' s'' (a b':Res),Own B w0 w' (pnL p v' s'' (a::b'::redR (.slice (some ⟨b,o,none⟩) l.length cap) 5 l.length (l.flatMap zag)::ctsR l::ss))→ ∀j,j<5→w'.cell? ⟨b,o+k*5+j,none⟩=(zag l[k])[j]?):=zq (fun w' v' s'' a b' h' j hj=>zhp (i:=4) h' rfl (fun _=>rfl) k hlt j hj);rw [show (l.map Ct.cp)[k]'(by simpa using hlt)=l[k].cp by simp] at HM;have g9:=zgm s' l[k].cp;clear H;generalize l[k]=x at*;obtain ⟨xview,xinst,xseq,xvb,xvv,xrs,xvs⟩:=x;simp only [Ct.cp] at HM hp hle g9;obtain ⟨a1,c1,e1⟩: ∃a c,xvb= .slice a xrs.length c:=let ⟨a,c,e,_⟩:=zad (k:=2) hp rfl;⟨a,c,e⟩;obtain ⟨a2,c2,e2⟩: ∃a c,xvv= .slice a xvs.length c:=let ⟨a,c,e,_⟩:=zad (k:=3) hp rfl;⟨a,c,e⟩;subst e1 e2;have HV:Hid (pCert s' ⟨xview,xinst,xseq,xrs,xvs⟩=pLs wVote (pLs pReq (wNum (wNum (wNum s' xview) xinst) xseq) xrs) xvs):=zq rfl;rw [HV.out] at HM g9;have k1:=zau s' xview;have k2:=zau (wNum s' xview) xinst;have k3:=zau (wNum (wNum s' xview) xinst) xseq;have k4:=zei pReq 36 zji (wNum (wNum (wNum s' xview) xinst) xseq) xrs;have q:wr.cell? ⟨b,o+k*5,none⟩=some (.int .i64 xview):=HQ.out _ _ _ _ _ hp 0 (by omega);have HC:=zq (zba xview hp (by omega));clear hp
    go_wp2_with fail
    refine HC.out.mono ?_;rintro e w2 ⟨rfl,v2,h2⟩;clear HC q;have q:w2.cell? ⟨b,o+k*5+1,none⟩=some (.int .i64 xinst):=HQ.out _ _ _ _ _ h2 1 (by omega);have HC:=zq (zba xinst h2 (by omega));clear h2 x1
    go_wp2_with fail
    refine HC.out.mono ?_;rintro e w3 ⟨rfl,v3,h3⟩;clear HC q;have q:w3.cell? ⟨b,o+k*5+2,none⟩=some (.int .i64 xseq):=HQ.out _ _ _ _ _ h3 2 (by omega);have HC:=zq (zba xseq h3 (by omega));clear h3
    go_wp2_with fail
    refine HC.out.mono ?_;rintro e w4 ⟨rfl,v4,h4⟩;clear HC q;have q:w4.cell? ⟨b,o+k*5+3,none⟩=some (.slice a1 xrs.length c1):=HQ.out _ _ _ _ _ h4 3 (by omega);have HC:=zq (zku h4 hle.1 (by omega));clear h4
    go_wp2_with fail
    refine HC.out.mono ?_;rintro e w5 ⟨rfl,v5,h5⟩;clear HC q;have q:w5.cell? ⟨b,o+k*5+4,none⟩=some (.slice a2 xvs.length c2):=HQ.out _ _ _ _ _ h5 4 (by omega);have HC:=zq (zhm ((h5.front 3 rfl rfl).rot') hle.2 (by omega));clear h5
    go_wp2_with fail
    refine HC.out.mono ?_;rintro e w9 ⟨rfl,v9,h9⟩;clear HC q;have H9:=zq ((h9.dropAt 2 (by simp)).dropAt 2 (by simp));clear h9
    go_wp2_with fail
    go_roundw
    case rel=>exact ⟨k+1,v9,_,by go_num,by omega,fun _=>by omega,fun _=>hl9,hb9 _ g9,HM,H9⟩
    case measure=>simp [intOf];omega
  ·have hkI:decide ((k:Int)<(l.length:Int))=false:=by simp;omega
   have HF:Hid (s'=res):=zq (by
    have:=HG.out;rw [List.drop_eq_nil_of_le (by first | omega | (simp;omega))] at this
    exact this)
   go_wp2_with fail
   refine bodyPost_end (results_none rfl _ _ _) rfl ?_;rw [HE.out,←HF.out];exact ⟨rfl,v,H.out⟩
theorem zsi {l:List (Pt)} {lv:Value} (h:Own B w0 W (pnL p v s (redR lv 4 l.length (l.flatMap zaj)::ptsR l::ss))) (hn:l.length≤100000) (hl:s.out.length≤10000000000):
  Calls Tryz.prog 127 #[.pointer (some ⟨p,0,none⟩),lv] W fun e w'=>e= .returned (.tuple #[])∧ ∃v',Own B w0 w' (pnL p v' (pLs pPart s (l.map Pt.pa)) (redR lv 4 l.length (l.flatMap zaj)::ptsR l::ss)):=by
 have HL:=zq (zjl (l.length:Int) h (by omega));have hg:=zhh s (l.length:Int);obtain ⟨res,HR⟩: ∃res,Hid (pGo pPart (pLst s (l.length:Int)) (l.map Pt.pa)=res):=⟨_,zq rfl⟩;have HE:Hid (pLs pPart s (l.map Pt.pa)=res):=zq (by rw [←HR.out];unfold pLs;simp);have hbig:256<l.length→(pLst s (l.length:Int)).bad=true:=fun hb=>by unfold pLst wNum wPut;simp;omega
 generalize pLst s (l.length:Int)=s1 at*;obtain ⟨ao,cap,rfl,hcap,-⟩:=zad (k:=2) h rfl;clear h;go_enter Tryz.func127,Tryz.ntmps127
 go_wp2_with fail
 refine HL.out.mono ?_;rintro e w1 ⟨rfl,v1,h2⟩;have H:=zq h2;clear h2 HL
 go_wp2_with fail
 go_loopw [4] (fun i wr=> ∃(k:Nat) (v:Value) (s':Wr),i= .int .i64 k∧k≤l.length∧(s'.bad=false→k≤256)∧(s'.bad=false→l.length≤256)∧s'.out.length≤s1.out.length+3156510*k∧Hid (pGo pPart s' ((l.map Pt.pa).drop k)=res)∧Hid (Own B w0 wr (pnL p v s' (redR (.slice ao l.length cap) 4 l.length (l.flatMap zaj)::ptsR l::ss)))) (fun i _=>l.length-(intOf i).toNat)
 case atStart=>exact ⟨0,v1,s1,rfl,by omega,fun _=>by omega,fun hb=>Nat.le_of_not_lt (fun h9=>by rw [hbig h9] at hb;cases hb),by omega,zq (by simpa using HR.out),H⟩
 case round=>
  clear H HR hbig;obtain ⟨k,v,s',rfl,hk2,hk256,hl256,hlen,HG,H⟩:=hrel;have x1:wr.cell? ⟨p,1,none⟩=some (.bool s'.bad):=zaa (H.out.blkAt 0 rfl) 1 rfl;by_cases hlt:k<l.length
  ·have hkI:(k:Int)<(l.length:Int):=by omega
   cases hbad:s'.bad with
   | true=>
    have HF:Hid (s'=res):=zq ((zhg _ hbad _).symm.trans HG.out);rw [hbad] at x1
    go_wp2_with fail
    refine bodyPost_end (results_none rfl _ _ _) rfl ?_;rw [HE.out,←HF.out];exact ⟨rfl,v,H.out⟩
   | false=>
    have hk9:=hk256 hbad;have hl9:=hl256 hbad;have hK9:=Nat.mul_le_mul_left 3156510 hk9;have hb9: ∀x,x≤s'.out.length+3156510→x≤s1.out.length+3156510*(k+1):=fun x hx=>by rw [Nat.mul_succ];exact Nat.le_trans hx (by rw [←Nat.add_assoc];exact Nat.add_le_add_right hlen _)
    have HM:=zq ((zjh pPart hbad (l.map Pt.pa) k (by simpa using hlt)).symm.trans HG.out);rw [hbad] at x1;have hk0:(0:Int)≤(k:Int):=by omega
    have hcI:(l.length:Int)≤(cap:Int):=by omega
    obtain ⟨ao',cap',e0,-,-,-,-,h5⟩:=zad (k:=2) H.out rfl;simp only [Value.slice.injEq,true_and] at e0;obtain ⟨rfl,-⟩:=e0;obtain ⟨b,o,rfl,-,-⟩:=h5 (by omega);clear h5 HG hk256 hl256;have hp:Own B w0 wr (pnL p v s' (redR l[k].vv 2 l[k].vs.length (zaf l[k].vs)::redR l[k].cv 5 l[k].cts.length (l[k].cts.flatMap zag)::ctsR l[k].cts::redR (.slice (some ⟨b,o,none⟩) l.length cap) 4 l.length (l.flatMap zaj)::ptsR l::ss)):=zn5 (zsn H.out 3 rfl (List.getElem_mem hlt));have hle:=zsm H.out 3 rfl (List.getElem_mem hlt);have HQ:Hid (∀w' v' s'' (a b' c':Res),Own B w0 w' (pnL p v' s'' (a::b'::c'::redR (.slice (some ⟨b,o,none⟩) l.length cap) 4 l.length (l.flatMap zaj)::ptsR l::ss))→ ∀j,j<4→w'.cell? ⟨b,o+k*4+j,none⟩=(zaj l[k])[j]?):=zq (fun w' v' s'' a b' c' h' j hj=>zhp (i:=5) h' rfl (fun _=>rfl) k hlt j hj);rw [show (l.map Pt.pa)[k]'(by simpa using hlt)=l[k].pa by simp] at HM;have g9:=zn6 s' l[k].pa;clear H;generalize l[k]=x at*;obtain ⟨xfm,xvv,xvs,xcv,xcts,xsl⟩:=x;simp only [Pt.pa] at HM hp hle g9;obtain ⟨a1,c1,e1⟩: ∃a c,xvv= .slice a xvs.length c:=let ⟨a,c,e,_⟩:=zad (k:=2) hp rfl;⟨a,c,e⟩;obtain ⟨a2,c2,e2⟩: ∃a c,xcv= .slice a xcts.length c:=let ⟨a,c,e,_⟩:=zad (k:=3) hp rfl;⟨a,c,e⟩;subst e1 e2;have HV:Hid (pPart s' ⟨xfm,xvs,xcts.map Ct.cp,xsl⟩=wNum (pLs pCert (pLs wVote (wNum s' xfm) xvs) (xcts.map Ct.cp)) xsl):=zq rfl;rw [HV.out] at HM g9;have k1:=zau s' xfm;have k2:=zei wVote 12 zcv (wNum s' xfm) xvs;have k3:=zei pCert 12318 zgm (pLs wVote (wNum s' xfm) xvs) (xcts.map Ct.cp);have q:wr.cell? ⟨b,o+k*4,none⟩=some (.int .i64 xfm):=HQ.out _ _ _ _ _ _ hp 0 (by omega);have HC:=zq (zba xfm hp (by omega));clear hp
    go_wp2_with fail
    refine HC.out.mono ?_;rintro e w2 ⟨rfl,v2,h2⟩;clear HC q;have q:w2.cell? ⟨b,o+k*4+1,none⟩=some (.slice a1 xvs.length c1):=HQ.out _ _ _ _ _ _ h2 1 (by omega);have HC:=zq (zhm h2 hle.1 (by omega));clear h2 x1
    go_wp2_with fail
    refine HC.out.mono ?_;rintro e w3 ⟨rfl,v3,h3⟩;clear HC q;have q:w3.cell? ⟨b,o+k*4+2,none⟩=some (.slice a2 xcts.length c2):=HQ.out _ _ _ _ _ _ h3 2 (by omega);have HC:=zq (zkv (zig ((h3.front 4 rfl rfl).front 4 rfl rfl)) hle.2 (by omega));clear h3
    go_wp2_with fail
    refine HC.out.mono ?_;rintro e w4 ⟨rfl,v4,h4⟩;clear HC q;have q:w4.cell? ⟨b,o+k*4+3,none⟩=some (.int .i64 xsl):=HQ.out _ _ _ _ _ _ h4 3 (by omega);have HC:=zq (zba xsl h4 (by omega));clear h4
    go_wp2_with fail
    refine HC.out.mono ?_;rintro e w9 ⟨rfl,v9,h9⟩;clear HC q;have H9:=zq (((h9.dropAt 2 (by simp)).dropAt 2 (by simp)).dropAt 2 (by simp));clear h9
    go_wp2_with fail
    go_roundw
    case rel=>exact ⟨k+1,v9,_,by go_num,by omega,fun _=>by omega,fun _=>hl9,hb9 _ g9,HM,H9⟩
    case measure=>simp [intOf];omega
  ·have hkI:decide ((k:Int)<(l.length:Int))=false:=by simp;omega
   have HF:Hid (s'=res):=zq (by
    have:=HG.out;rw [List.drop_eq_nil_of_le (by first | omega | (simp;omega))] at this
    exact this)
   go_wp2_with fail
   refine bodyPost_end (results_none rfl _ _ _) rfl ?_;rw [HE.out,←HF.out];exact ⟨rfl,v,H.out⟩
end
def Pn (f:Wr→Wr) (ok:Bool) (e:Bys):Prop:= ∀s,(f s).bad=(s.bad || !ok)∧(s.bad=false→ok=true→(f s).out=s.out++e)
theorem Wrt.pn {f:Wr→Wr} {ok:Bool} {e:Bys} (h:Wrt f ok e):Pn f ok e:=fun s=>⟨(h s).1,fun _=>(h s).2⟩
theorem Pn.then {f g:Wr→Wr} {o1 o2:Bool} {e1 e2:Bys} (h:Pn f o1 e1) (k:Pn g o2 e2):Pn (fun s=>g (f s)) (o1&&o2) (e1++e2):=fun s=>by
 obtain ⟨a1,a2⟩:=h s;obtain ⟨b1,b2⟩:=k (f s);refine ⟨?_,fun hs ho=> ?_⟩
 ·simp only [b1,a1];cases s.bad<;>cases o1<;>cases o2<;>rfl
 ·simp only [Bool.and_eq_true] at ho
  have hb:(f s).bad=false:=by rw [a1,hs,ho.1];rfl
  simp only [b2 hb ho.2,a2 hs ho.1,List.append_assoc]
theorem pn_sgn (n:Int):Pn (fun s=>pSgn s n) (sgnOk n) (sgnB n):=fun s=>by
 have hz:numOk (zigX n)=true:=by
  unfold zigX;cases h:sgnOk n with
  | true=>rw [if_pos rfl];have:=(zlk h).2;unfold numOk;simp;omega
  | false=>rfl
 refine ⟨?_,fun _ ho=> ?_⟩
 ·simp [pSgn,wNum,wPut,hz]
 ·simp [pSgn,wNum,wPut,numX,hz]
  unfold zigX;rw [ho,if_pos rfl];simp [numB,sgnB]
theorem pn_req (r:Rq):Pn (fun s=>pReq s r) (reqW r) (reqB r):=by
 have h:=((((((za6 r.client).pn).then (za6 r.time).pn).then (za6 r.kind).pn).then (pn_sgn r.key)).then (pn_sgn r.val)).then (za6 r.sl).pn;have e1:reqW r=(((((numOk r.client&&numOk r.time)&&numOk r.kind)&&sgnOk r.key)&&sgnOk r.val)&&numOk r.sl):=by unfold reqW;simp only [Bool.and_assoc]
 have e2:reqB r=(((((numB r.client++numB r.time)++numB r.kind)++sgnB r.key)++sgnB r.val)++numB r.sl):=by unfold reqB;simp only [List.append_assoc]
 rw [e1,e2];exact h
theorem pn_go {α:Type} {one:Wr→α→Wr} {ok:α→Bool} {enc:α→Bys} (h: ∀x,Pn (fun s=>one s x) (ok x) (enc x)): ∀l:List α,Pn (fun s=>pGo one s l) (l.all ok) (l.flatMap enc)
 | []=>fun s=>⟨by simp [pGo],fun _ _=>by simp [pGo]⟩
 | x::l=>fun s=>by
  by_cases hs:s.bad=true
  ·have e:pGo one s (x::l)=s:=zhg one hs _
   simp only [e,hs];exact ⟨by simp,fun h=>by cases h⟩
  ·have hs:s.bad=false:=by simpa using hs
   have e:pGo one s (x::l)=pGo one (one s x) l:=by
    conv=>lhs;unfold pGo
    rw [if_neg (by simp [hs])]
   have:=(h x).then (pn_go h l) s;simp only [e,List.all_cons,List.flatMap_cons];exact this
theorem zga {α:Type} {one:Wr→α→Wr} {ok:α→Bool} {enc:α→Bys} (h: ∀x,Pn (fun s=>one s x) (ok x) (enc x)) (l:List α):Pn (fun s=>pLs one s l) (listW ok l) (listB enc l):=fun s=>by
 by_cases hb:256<l.length
 ·have e:listW ok l=false:=by unfold listW;rw [decide_eq_false (by omega)];rfl
  have hbad:(pLst s (l.length:Int)).bad=true:=by unfold pLst wNum wPut;simp;omega
  rw [e];refine ⟨?_,fun _ h=>by cases h⟩;show (pLs one s l).bad=_;unfold pLs;rw [zhg one hbad,hbad];simp
 ·have hn:numOk (l.length:Int)=true:=by unfold numOk;simp;omega
  have e:listW ok l=(numOk (l.length:Int)&&l.all ok):=by unfold listW;rw [decide_eq_true (by omega),hn]
  have e2:pLst s (l.length:Int)=wNum s (l.length:Int):=by
   unfold pLst;rw [decide_eq_false (by omega),Bool.or_false]
  have:=((za6 (l.length:Int)).pn).then (pn_go h l) s;rw [e];show (pLs one s l).bad=_∧(_→_→(pLs one s l).out=_);unfold pLs;rw [e2];exact this
theorem zxu (c:Cp):Pn (fun s=>pCert s c) (certW c) (certB c):=by
 have h:=(((((za6 c.view).pn).then (za6 c.inst).pn).then (za6 c.seq).pn).then (zga pn_req c.rs)).then (zga (fun x=>(zf4 x).pn) c.vs);have e1:certW c=((((numOk c.view&&numOk c.inst)&&numOk c.seq)&&listW reqW c.rs)&&listW vtW c.vs):=by unfold certW;simp only [Bool.and_assoc]
 have e2:certB c=((((numB c.view++numB c.inst)++numB c.seq)++listB reqB c.rs)++listB vtB c.vs):=by unfold certB;simp only [List.append_assoc]
 rw [e1,e2];exact h
theorem pn_part (p:Pa):Pn (fun s=>pPart s p) (partW p) (partB p):=by
 have h:=((((za6 p.fm).pn).then (zga (fun x=>(zf4 x).pn) p.vs)).then (zga zxu p.cs)).then (za6 p.sl).pn;have e1:partW p=(((numOk p.fm&&listW vtW p.vs)&&listW certW p.cs)&&numOk p.sl):=by unfold partW;simp only [Bool.and_assoc]
 have e2:partB p=(((numB p.fm++listB vtB p.vs)++listB certB p.cs)++numB p.sl):=by unfold partB;simp only [List.append_assoc]
 rw [e1,e2];exact h
def pMs (m:Ms):Wr:=pLs pPart (pLs pCert (pLs wVote (pLs pReq (pSgn (wNum (wNum (wNum (wNum (wNum w00 m.kind) m.fm) m.view) m.inst) m.seq) m.res) m.rs) m.vs) m.cs) m.ps
theorem zz6 (m:Ms):(if (pMs m).bad || decide (65536<(pMs m).out.length) then none else some (pMs m).out)=bodyP m:=by
 have h:=((((((((((za6 m.kind).pn.then (za6 m.fm).pn).then (za6 m.view).pn).then (za6 m.inst).pn).then (za6 m.seq).pn).then (pn_sgn m.res)).then (zga pn_req m.rs)).then (zga (fun x=>(zf4 x).pn) m.vs)).then (zga zxu m.cs)).then (zga pn_part m.ps)) w00;have e1:msW m=(((((((((numOk m.kind&&numOk m.fm)&&numOk m.view)&&numOk m.inst)&&numOk m.seq)&&sgnOk m.res)&&listW reqW m.rs)&&listW vtW m.vs)&&listW certW m.cs)&&listW partW m.ps):=by unfold msW;simp only [Bool.and_assoc]
 have e2:msB m=(((((((((numB m.kind++numB m.fm)++numB m.view)++numB m.inst)++numB m.seq)++sgnB m.res)++listB reqB m.rs)++listB vtB m.vs)++listB certB m.cs)++listB partB m.ps):=by unfold msB;simp only [List.append_assoc]
 rw [←e1,←e2] at h;obtain ⟨h1,h2⟩:=h;have h1:(pMs m).bad=(w00.bad || !msW m):=h1;simp only [Bool.false_or] at h1;have h2:w00.bad=false→msW m=true→(pMs m).out=w00.out++msB m:=h2;have h2:=h2 rfl;simp only [List.nil_append] at h2;unfold bodyP;rw [h1];cases ho:msW m with
 | false=>simp
 | true=>
  rw [h2 ho];by_cases hl:(msB m).length≤65536
  ·simp [hl,show¬65536<(msB m).length by omega]
  ·simp [hl,show 65536<(msB m).length by omega]
section
variable {B:Nat} {w0 w W W':World} {ss rs:List Res} {p:Nat} {v bv:Value} {s:Wr}
theorem zn8 (h:Own B w0 W (pnL p v s ss)):Calls Tryz.prog 128 #[.pointer (some ⟨p,0,none⟩)] W fun e w'=> ∃v',e= .returned (.tuple #[v',.bool (!s.bad)])∧Own B w0 w' (bysR v' (doneX s)::ss):=by
 have H:=zq h;obtain ⟨out,bad⟩:=s;obtain ⟨ao,cap,rfl,-,-⟩:=zao (k:=1) h rfl;have x0:W.cell? ⟨p,0,none⟩=some (.slice ao out.length cap):=zaa h.blk_out 0 rfl;have x1:W.cell? ⟨p,1,none⟩=some (.bool bad):=zaa h.blk_out 1 rfl;clear h;cases bad with
 | true=>
  have HE:=zq ((H.out.drop.drop).row0 (E:=5) (sz:=1));clear H;go_enter Tryz.func128,Tryz.ntmps128
  go_wp2_with fail
  go_ret2
  exact ⟨_,rfl,HE.out⟩
 | false=>
  have HE:=zq (H.out.drop);clear H;go_enter Tryz.func128,Tryz.ntmps128
  go_wp2_with fail
  go_ret2
  exact ⟨_,rfl,HE.out⟩
theorem zoe {m:Mm} (h:Own B w0 W (mmR m ss)) (hm:MmOk m):
  Calls Tryz.prog 70 #[.agg (mmA m)] W fun e w'=> ∃v',e= .returned (.tuple #[v',.bool (bodyP m.ms).isSome])∧Own B w0 w' (bysR v' (bysO (bodyP m.ms))::mmR m ss):=by
 obtain ⟨kind,fm,view,inst,seq,res,vb,rs,vv,vs,vc,cts,vp,pts⟩:=m;obtain ⟨hr,hv,hc,hp⟩:=hm;simp only [Mm.ms] at hr hv hc hp⊢;obtain ⟨sf,HW,HE⟩: ∃sf:Wr,Hid (sf=pLs pPart (pLs pCert (pLs wVote (pLs pReq (pSgn (wNum (wNum (wNum (wNum (wNum w00 kind) fm) view) inst) seq) res) rs) vs) (cts.map Ct.cp)) (pts.map Pt.pa))∧
  Hid ((if sf.bad || decide (65536<sf.out.length) then none else some sf.out)=bodyP ⟨kind,fm,view,inst,seq,res,rs,vs,cts.map Ct.cp,pts.map Pt.pa⟩):=⟨pMs ⟨kind,fm,view,inst,seq,res,rs,vs,cts.map Ct.cp,pts.map Pt.pa⟩,zq rfl,zq (zz6 _)⟩
 generalize bodyP ⟨kind,fm,view,inst,seq,res,rs,vs,cts.map Ct.cp,pts.map Pt.pa⟩=ob at*;obtain ⟨a1,c1,rfl⟩: ∃a c,vb= .slice a rs.length c:=let ⟨a,c,e,_⟩:=zad (k:=5) h rfl;⟨a,c,e⟩;obtain ⟨a2,c2,rfl⟩: ∃a c,vv= .slice a vs.length c:=let ⟨a,c,e,_⟩:=zad (k:=4) h rfl;⟨a,c,e⟩;obtain ⟨a3,c3,rfl⟩: ∃a c,vc= .slice a cts.length c:=let ⟨a,c,e,_⟩:=zad (k:=2) h rfl;⟨a,c,e⟩;obtain ⟨a4,c4,rfl⟩: ∃a c,vp= .slice a pts.length c:=let ⟨a,c,e,_⟩:=zad (k:=0) h rfl;⟨a,c,e⟩;have h1:=((h.box (.cells #[.int .i64 kind,.int .i64 fm,.int .i64 view,.int .i64 inst,.int .i64 seq,.int .i64 res,.slice a1 rs.length c1,.slice a2 vs.length c2,.slice a3 cts.length c3,.slice a4 pts.length c4] 47 (0,0))).row0 (E:=5) (sz:=1)).box (.cells #[.slice none 0 0,.bool false] 205 (0,0));simp only [zav] at h1;have h2:Own B w0 _ (pnL (W.heap.size+1) (.slice none 0 0) w00 _):=h1;clear h h1;go_enter Tryz.func70,Tryz.ntmps70
 have hb0:w00.out.length≤0:=by simp
 have x:=zaa (h2.blkAt 2 rfl) 0 rfl;have HC:=zq (zba kind h2 (by omega));have g:=zau w00 kind;obtain ⟨s1,hs⟩: ∃s,s=wNum w00 kind:=⟨_,rfl⟩;rw [←hs] at HC g HW;have hb1:s1.out.length≤6:=by omega
 clear h2 g hs
 go_wp2_with fail
 refine HC.out.mono ?_;rintro e w1 ⟨rfl,v1,h2⟩;clear HC x;have x:=zaa (h2.blkAt 2 rfl) 1 rfl;have HC:=zq (zba fm h2 (by omega));have g:=zau s1 fm;obtain ⟨s2,hs⟩: ∃s,s=wNum s1 fm:=⟨_,rfl⟩;rw [←hs] at HC g HW;have hb2:s2.out.length≤12:=by omega
 clear h2 g hs
 go_wp2_with fail
 refine HC.out.mono ?_;rintro e w2 ⟨rfl,v2,h2⟩;clear HC x;have x:=zaa (h2.blkAt 2 rfl) 2 rfl;have HC:=zq (zba view h2 (by omega));have g:=zau s2 view;obtain ⟨s3,hs⟩: ∃s,s=wNum s2 view:=⟨_,rfl⟩;rw [←hs] at HC g HW;have hb3:s3.out.length≤18:=by omega
 clear h2 g hs
 go_wp2_with fail
 refine HC.out.mono ?_;rintro e w3 ⟨rfl,v3,h2⟩;clear HC x;have x:=zaa (h2.blkAt 2 rfl) 3 rfl;have HC:=zq (zba inst h2 (by omega));have g:=zau s3 inst;obtain ⟨s4,hs⟩: ∃s,s=wNum s3 inst:=⟨_,rfl⟩;rw [←hs] at HC g HW;have hb4:s4.out.length≤24:=by omega
 clear h2 g hs
 go_wp2_with fail
 refine HC.out.mono ?_;rintro e w4 ⟨rfl,v4,h2⟩;clear HC x;have x:=zaa (h2.blkAt 2 rfl) 4 rfl;have HC:=zq (zba seq h2 (by omega));have g:=zau s4 seq;obtain ⟨s5,hs⟩: ∃s,s=wNum s4 seq:=⟨_,rfl⟩;rw [←hs] at HC g HW;have hb5:s5.out.length≤30:=by omega
 clear h2 g hs
 go_wp2_with fail
 refine HC.out.mono ?_;rintro e w5 ⟨rfl,v5,h2⟩;clear HC x;have x:=zaa (h2.blkAt 2 rfl) 5 rfl;have HC:=zq (zmk res h2 (by omega));have g:=zhi s5 res;obtain ⟨s6,hs⟩: ∃s,s=pSgn s5 res:=⟨_,rfl⟩;rw [←hs] at HC g HW;have hb6:s6.out.length≤36:=by omega
 clear h2 g hs
 go_wp2_with fail
 refine HC.out.mono ?_;rintro e w6 ⟨rfl,v6,h2⟩;clear HC x;have x:=zaa (h2.blkAt 2 rfl) 6 rfl;have HC:=zq (zku ((h2.front 8 rfl rfl).rot') hr (by omega));have g:=zei pReq 36 zji s6 rs;obtain ⟨s7,hs⟩: ∃s,s=pLs pReq s6 rs:=⟨_,rfl⟩;rw [←hs] at HC g HW;have hb7:s7.out.length≤9258:=by omega
 clear h2 g hs
 go_wp2_with fail
 refine HC.out.mono ?_;rintro e w7 ⟨rfl,v7,h2⟩;clear HC x;have x:=zaa (h2.blkAt 3 rfl) 7 rfl;have HC:=zq (zhm ((h2.front 8 rfl rfl).rot') hv (by omega));have g:=zei wVote 12 zcv s7 vs;obtain ⟨s8,hs⟩: ∃s,s=pLs wVote s7 vs:=⟨_,rfl⟩;rw [←hs] at HC g HW;have hb8:s8.out.length≤12336:=by omega
 clear h2 g hs
 go_wp2_with fail
 refine HC.out.mono ?_;rintro e w8 ⟨rfl,v8,h2⟩;clear HC x;have x:=zaa (h2.blkAt 4 rfl) 8 rfl;have HC:=zq (zkv (zig ((h2.front 8 rfl rfl).front 8 rfl rfl)) hc (by omega));have g:=zei pCert 12318 zgm s8 (cts.map Ct.cp);obtain ⟨s9,hs⟩: ∃s,s=pLs pCert s8 (cts.map Ct.cp):=⟨_,rfl⟩;rw [←hs] at HC g HW;have hb9:s9.out.length≤3165750:=by omega
 clear h2 g hs
 go_wp2_with fail
 refine HC.out.mono ?_;rintro e w9 ⟨rfl,v9,h2⟩;clear HC x;have x:=zaa (h2.blkAt 6 rfl) 9 rfl;have HC:=zq (zsi (zig ((h2.front 8 rfl rfl).front 8 rfl rfl)) hp (by omega));have g:=zei pPart 3156510 zn6 s9 (pts.map Pt.pa);obtain ⟨s10,hs⟩: ∃s,s=pLs pPart s9 (pts.map Pt.pa):=⟨_,rfl⟩;rw [←hs] at HC g HW;have hb10:s10.out.length≤811232316:=by omega
 clear h2 g hs
 go_wp2_with fail
 refine HC.out.mono ?_;rintro e w10 ⟨rfl,v10,h2⟩;clear HC x;have HS:=zq HW.out;have HC:=zq (zn8 h2);rw [←HS.out] at HC;have hl9:sf.out.length≤2000000000:=by rw [HS.out];omega
 clear h2 HW HS
 go_wp2_with fail
 refine HC.out.mono ?_;rintro e w20 ⟨v20,rfl,h3⟩;clear HC;obtain ⟨out,bad⟩:=sf;have HE:=HE.out;simp only at HE hl9;cases bad with
 | true=>
  simp only [Bool.true_or,if_true] at HE;subst HE;have HR:=zq (h3.dropAt 7 (by simp));obtain ⟨ao,cap,rfl,-,-⟩:=zao (k:=0) h3 rfl;have HR0:=zq ((HR.out.drop).row0 (E:=5) (sz:=1));clear h3 HR
  go_wp2_with fail
  go_ret2
  exact ⟨_,rfl,HR0.out⟩
 | false=>
  have HR:=zq (h3.dropAt 7 (by simp));obtain ⟨ao,cap,rfl,-,-⟩:=zao (k:=0) h3 rfl;have HR0:=zq ((HR.out.drop).row0 (E:=5) (sz:=1));have hd:doneX ⟨out,false⟩=out:=rfl;rw [hd] at HR;clear h3;by_cases hbig:65536<out.length
  ·simp only [Bool.false_or,hbig,decide_true,if_true] at HE
   subst HE;have hI:(65536:Int)<((doneX ⟨out,false⟩).length:Int):=by rw [hd];omega
   clear hd
   go_wp2_with fail
   go_ret2
   exact ⟨_,rfl,HR0.out⟩
  ·simp only [Bool.false_or,hbig,decide_false,Bool.false_eq_true,if_false] at HE
   subst HE;have hI:decide ((65536:Int)<((doneX ⟨out,false⟩).length:Int))=false:=by rw [hd];simp;omega
   clear hd
   go_wp2_with fail
   go_ret2
   exact ⟨_,rfl,HR.out⟩
end
section
variable {B:Nat} {w0 w W W':World} {ss rs:List Res} {v bv:Value}
theorem renv_any {b:Bys} (sl:Int) (h:Own B w0 W (bysR bv b::ss)) (hb:b.length≤65536):
  Calls Tryz.prog 71 #[.int .i64 sl,bv] W fun e w'=> ∃v',e= .returned (.tuple #[v',.bool (envP sl b).isSome])∧Own B w0 w' (bysR v' (bysO (envP sl b))::bysR bv b::ss):=by
 obtain ⟨i0,hi,hz0,hz1,hz2⟩:=info_parts Tryz.infoU8;have HN:=zq (zsu sl h);have hx:=zdf sl;obtain ⟨bo,bcap,rfl,-,-⟩:=zao (k:=0) h rfl;have HE:Hid (envP sl b=if numOk sl&&decide ((numB sl).length+b.length≤65536) then some (numB sl++b) else none):=zq rfl;have HB:Hid (numOk sl=true→numX sl=numB sl):=zq (fun h=>by unfold numX;rw [if_pos h]);generalize envP sl b=en at*;generalize numX sl=x at*;generalize numOk sl=ok at*;clear h;go_enter Tryz.func71,Tryz.ntmps71
 go_wp2_with fail
 refine HN.out.mono ?_;rintro e w1 ⟨v1,rfl,h2⟩;obtain ⟨xo,xcap,rfl,-,-⟩:=zao (k:=0) h2 rfl;have H2:=zq h2;have HR:=zq (zao (k:=1) h2 rfl);have hone:=zfs b;clear h2 HN;cases ok with
 | false=>
  have HE:=HE.out;simp only [Bool.false_and,Bool.false_eq_true,if_false] at HE;subst HE;have HF:=zq (H2.out.drop.row0 (E:=5) (sz:=1));clear H2 HR
  go_wp2_with fail
  go_ret2
  exact ⟨_,rfl,HF.out⟩
 | true=>
  have HE:=HE.out;rw [←HB.out rfl] at HE;clear HB;by_cases hbig:x.length+b.length≤65536
  ·simp only [Bool.true_and,hbig,decide_true,if_true] at HE
   subst HE;have hI:decide ((65536:Int)<(x.length:Int)+(b.length:Int))=false:=by simp;omega
   have h0:(0:Int)≤(x.length:Int):=by omega
   have h7:(x.length:Int)≤6:=by omega
   have h8:(b.length:Int)≤65536:=by omega
   go_wp2_with (at_builtin;refine zbx rfl (.tmp 23) (.tmp 24) 60 rfl 5 i0 (.int .u8 0) 1 1 Tryz.underlying60 hi hz0 hz1 hz2 rfl (by decide) H2.out 0 (.slice xo x.length xcap) x.length (bysC x) rfl rfl (.slice bo b.length bcap) b.length (bysC b) rfl HR.out hone (by unfold maxLen;omega) (by omega) ?_)
   intro ao' cap' w2 h3;have H3:Hid (Own B w0 w2 (bysR (.slice ao' (x.length+b.length) cap') (x++b)::bysR (.slice bo b.length bcap) b::ss)):=zq (by simpa [bysR,bysC] using h3);clear h3 H2 HR
   go_wp2_with fail
   go_ret2
   exact ⟨_,rfl,H3.out⟩
  ·simp only [Bool.true_and,hbig,decide_false,Bool.false_eq_true,if_false] at HE
   subst HE;have hI:(65536:Int)<(x.length:Int)+(b.length:Int):=by omega
   have h0:(0:Int)≤(x.length:Int):=by omega
   have h7:(x.length:Int)≤6:=by omega
   have h8:(b.length:Int)≤65536:=by omega
   have HF:=zq (H2.out.drop.row0 (E:=5) (sz:=1));clear H2 HR
   go_wp2_with fail
   go_ret2
   exact ⟨_,rfl,HF.out⟩
theorem done_pn {f:Wr→Wr} {ok:Bool} {e:Bys} (h:Pn f ok e):(f w00).bad= !ok∧doneX (f w00)=if ok then e else []:=by
 obtain ⟨h1,h2⟩:=h w00;have h1:(f w00).bad= !ok:=by rw [h1];rfl
 refine ⟨h1,?_⟩;unfold doneX;rw [h1];cases ok with
 | false=>rfl
 | true=>rw [h2 rfl rfl];rfl
theorem rreq_any (r:Rq) (h:Own B w0 W ss):Calls Tryz.prog 191 #[.agg #[.int .i64 r.client,.int .i64 r.time,.int .i64 r.kind,.int .i64 r.key,.int .i64 r.val,.int .i64 r.sl]] W fun e w'=> ∃v',e= .returned (.tuple #[v',.bool (reqW r)])∧Own B w0 w' (bysR v' (if reqW r then reqB r else [])::ss):=by
 have h1:=((h.alloc (rqO r)).row0 (E:=5) (sz:=1)).box (.cells #[.slice none 0 0,.bool false] 205 (0,0));simp only [zav] at h1;have h2:Own B w0 _ (pnL (W.heap.size+1) (.slice none 0 0) w00 _):=h1;have HC:=zq (zsk r h2 (by decide));obtain ⟨e1,e2⟩:=done_pn (pn_req r);have e3:reqW r= !(pReq w00 r).bad:=by rw [show (pReq w00 r).bad= !reqW r from e1];simp
 rw [←e2,e3];clear e1 e2 e3 h h1 h2;generalize pReq w00 r=s1 at*;go_enter Tryz.func191,Tryz.ntmps191
 go_wp2_with fail
 refine HC.out.mono ?_;rintro e w1 ⟨rfl,v1,h2⟩;have HD:=zq (zn8 h2);clear h2 HC
 go_wp2_with fail
 refine HD.out.mono ?_;rintro e w2 ⟨v2,rfl,h3⟩;have H3:=zq h3;clear h3 HD
 go_wp2_with fail
 go_ret2
 exact ⟨_,rfl,H3.out⟩
theorem zmq (r:Rq) (h:Own B w0 W ss):Calls Tryz.prog 104 #[.agg #[.int .i64 r.client,.int .i64 r.time,.int .i64 r.kind,.int .i64 r.key,.int .i64 r.val,.int .i64 r.sl]] W fun e w'=> ∃v',e= .returned (.tuple #[v',.bool (reqW {r with sl:=0})])∧Own B w0 w' (bysR v' (rqX r)::ss):=by
 have h1:=h.alloc (rqO {r with sl:=0});have HC:=zq (rreq_any {r with sl:=0} h1);rw [show (if reqW {r with sl:=0} then reqB {r with sl:=0} else [])=rqX r from rfl] at HC;clear h1;generalize reqW {r with sl:=0}=ok at*;generalize rqX r=b at*;go_enter Tryz.func104,Tryz.ntmps104
 go_wp2_with fail
 refine HC.out.mono ?_;rintro e w1 ⟨v1,rfl,h2⟩;have H2:=zq h2;clear h2 HC
 go_wp2_with fail
 go_ret2
 exact ⟨_,rfl,H2.out⟩
end
end Go.Proofs.YtannckelmojkoaaGreat
