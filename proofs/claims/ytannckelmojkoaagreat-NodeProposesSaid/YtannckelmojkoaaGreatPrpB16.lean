/- Parts of the proof, one behind the other. -/
import Derived.Test.YtannckelmojkoaaGreatPrpB15
set_option maxHeartbeats 32000000
set_option maxRecDepth 100000
set_option linter.unusedVariables false
set_option linter.unusedSimpArgs false
namespace Go.Proofs.YtannckelmojkoaaGreat
open Go.RowKit Go.Heap
structure Wr where
 out:Bys
 bad:Bool
def wPut (s:Wr) (b:Bys) (ok:Bool):Wr:=⟨s.out++b,s.bad || !ok⟩
def wNum (s:Wr) (n:Int):Wr:=wPut s (numX n) (numOk n)
def wSgn (s:Wr) (n:Int):Wr:=wPut s (sgnX n) (sgnOk n)
def wReq (s:Wr) (r:Rq):Wr:=wNum (wSgn (wSgn (wNum (wNum (wNum s r.client) r.time) r.kind) r.key) r.val) r.sl
def wVote (s:Wr) (v:Int×Int):Wr:=wNum (wNum s v.1) v.2
abbrev wB (p:Nat) (v:Value) (bad:Bool):Res:=blk p (.cells #[v,.bool bad] 377 (0,0))
abbrev wrL (p:Nat) (v:Value) (s:Wr) (l:List Res):List Res:=wB p v s.bad::bysR v s.out::l
abbrev intC (l:List Int):List Value:=l.map fun n=>Value.int .i64 n
theorem zc5 (n:Int):(numX n).length≤6:=by
 unfold numX numB;split
 ·exact (zgo 5 _).2
 ·simp
theorem zmm (n:Int):(sgnX n).length≤6:=by
 unfold sgnX sgnB;split
 ·exact (zgo 5 _).2
 ·simp
theorem zau (s:Wr) (n:Int):(wNum s n).out.length≤s.out.length+6:=by
 have:=zc5 n;simp [wNum,wPut];omega
theorem ztq (s:Wr) (n:Int):(wSgn s n).out.length≤s.out.length+6:=by
 have:=zmm n;simp [wSgn,wPut];omega
theorem zcf (l:List Int): ∀s:Wr,(l.foldl wNum s).out.length≤s.out.length+6*l.length:=by
 induction l with
 | nil=>intro s;simp
 | cons n l ih=>intro s;have h1:=ih (wNum s n);have h2:=zau s n;simp only [List.foldl_cons,List.length_cons];omega
theorem zjm (l:List Int): ∀s:Wr,(l.foldl wSgn s).out.length≤s.out.length+6*l.length:=by
 induction l with
 | nil=>intro s;simp
 | cons n l ih=>intro s;have h1:=ih (wSgn s n);have h2:=ztq s n;simp only [List.foldl_cons,List.length_cons];omega
section
variable {B:Nat} {w0 w W W':World} {ss rs:List Res} {p:Nat} {v bv:Value} {s:Wr}
theorem zae {v:Value} {sz n k:Nat} {xs:List Value} (h:Own B w0 W rs) (e:rs[k]?=some (redR v sz n xs)):Reads W v sz n xs:=zfo (h.get k e)
theorem zao {v:Value} {b:Bys} {k:Nat} (h:Own B w0 W rs) (e:rs[k]?=some (bysR v b)):Reads W v 1 b.length (bysC b):=owns_reads (zaj (h.get k e))
theorem zx7 {bs:Bys} {ok:Bool} (h:Own B w0 W (wrL p v s (bysR bv bs::ss))) (hl:s.out.length≤1000000000000) (hb:bs.length≤100000):
  Calls Tryz.prog 310 #[.pointer (some ⟨p,0,none⟩),bv,.bool ok] W fun e w'=>e= .returned (.tuple #[])∧ ∃v',Own B w0 w' (wrL p v' (wPut s bs ok) (bysR bv bs::ss)):=by
 obtain ⟨i0,hi,hz0,hz1,hz2⟩:=info_parts Tryz.infoU8;obtain ⟨out,bad⟩:=s;simp only at hl h;obtain ⟨ao,cap,rfl,-,-⟩:=zao (k:=1) h rfl;obtain ⟨bo,bcap,rfl,-,-⟩:=zao (k:=2) h rfl;have x0:W.cell? ⟨p,0,none⟩=some (.slice ao out.length cap):=zaa h.blk_out 0 rfl;have x1:W.cell? ⟨p,1,none⟩=some (.bool bad):=zaa h.blk_out 1 rfl;have z1:=zab h.blk_out 1;have HS: ∀b:Bool,Hid (Own B w0 (W.setCell ⟨p,1,none⟩ (.bool b)) (wrL p (.slice ao out.length cap) ⟨out,b⟩ (bysR (.slice bo bs.length bcap) bs::ss))):=fun b=>zq (Own.storeTo h 1 (.bool b) rfl);have HF:Hid (∀v' w',Own B w0 w' (wrL p (.slice ao out.length cap) ⟨out++bs,bad || !ok⟩ (bysR (.slice bo bs.length bcap) bs::ss))→Own B w0 (w'.setCell ⟨p,0,none⟩ v') (wB p v' (bad || !ok)::bysR (.slice ao out.length cap) (out++bs)::bysR (.slice bo bs.length bcap) bs::ss)):=zq (fun v' w' h'=>Own.storeTo h' 0 v' rfl);have H1:=HS (bad || !ok);have hone:=zfg bs;have H1b:=zq (zao (k:=2) H1.out rfl);have HW:Hid (wPut ⟨out,bad⟩ bs ok=⟨out++bs,bad || !ok⟩):=zq rfl;have x2:(W.setCell ⟨p,1,none⟩ (.bool (bad || !ok))).cell? ⟨p,0,none⟩=some (.slice ao out.length cap):=zaa H1.out.blk_out 0 rfl;clear h HS;cases bad<;>cases ok<;>(
  simp only [Bool.true_or,Bool.false_or,Bool.or_false,Bool.or_true,Bool.not_true,Bool.not_false] at*;go_enter Tryz.func310,Tryz.ntmps310
  go_wp2_with (at_builtin;refine zbe rfl (.tmp 21) (.tmp 22) 60 rfl 5 i0 (.int .u8 0) 1 1 Tryz.underlying60 hi hz0 hz1 hz2 rfl (by decide) H1.out 1 (.slice ao out.length cap) out.length (bysC out) rfl rfl (.slice bo bs.length bcap) bs.length (bysC bs) rfl H1b.out hone (by unfold maxLen;omega) (by omega) ?_)
  intro ao' cap' w2 h2;have x3:w2.cell? ⟨p,0,none⟩=some (.slice ao out.length cap):=zaa (h2.blkAt 0 rfl) 0 rfl;have z3:=zab (h2.blkAt 0 rfl) 0;have h3:Own B w0 w2 (wB p (.slice ao out.length cap) _::ownR 5 1 (.slice ao' (out.length+bs.length) cap') (out.length+bs.length) (bysC out++bysC bs)::bysR (.slice bo bs.length bcap) bs::ss):=h2;have H3:=zq (Own.storeTo h3 0 (.slice ao' (out.length+bs.length) cap') rfl);clear h2 h3 H1 H1b
  go_wp2_with fail
  refine bodyPost_end (results_none rfl _ _ _) rfl ?_;rw [HW.out];refine ⟨rfl,.slice ao' (out.length+bs.length) cap',?_⟩;have:=H3.out
  simpa [wrL,bysR,bysC,setIn] using this)
theorem zc3 {α β:Type} (f:β→α→β): ∀(l:List α) (k:Nat) (hk:k<l.length) (s:β),(l.take (k+1)).foldl f s=f ((l.take k).foldl f s) l[k]
 | a::l,0,_,s=>rfl
 | a::l,k+1,h,s=>by simpa using zc3 f l k (by simpa using h) (f s a)
theorem zo3 {l:List Int} {lv:Value} (h:Own B w0 W (wrL p v s (redR lv 1 l.length (intC l)::ss))) (hl:s.out.length+6*l.length≤1000000000000) (hll:l.length≤1000):
  Calls Tryz.prog 307 #[.pointer (some ⟨p,0,none⟩),lv] W fun e w'=>e= .returned (.tuple #[])∧ ∃v',Own B w0 w' (wrL p v' (l.foldl wNum s) (redR lv 1 l.length (intC l)::ss)):=by
 have H:=zq h;obtain ⟨ao,cap,rfl,hcap,-⟩:=zae (k:=2) h rfl;clear h;go_enter Tryz.func307,Tryz.ntmps307
 go_wp2_with fail
 go_loopw [8] (fun i wr=> ∃(k:Nat) (v:Value),i= .int .i64 k∧k≤l.length∧Hid (Own B w0 wr (wrL p v ((l.take k).foldl wNum s) (redR (.slice ao l.length cap) 1 l.length (intC l)::ss)))) (fun i _=>l.length-(intOf i).toNat)
 case atStart=>exact ⟨0,v,rfl,by omega,H⟩
 case round=>
  clear H;obtain ⟨k,v,rfl,hk,H⟩:=hrel;by_cases hlt:k<l.length
  ·have hkI:(k:Int)<(l.length:Int):=by omega
   have hk0:(0:Int)≤(k:Int):=by omega
   have hcI:(l.length:Int)≤(cap:Int):=by omega
   obtain ⟨ao',cap',e0,-,-,-,-,h5⟩:=zae (k:=2) H.out rfl;simp only [Value.slice.injEq,true_and] at e0;obtain ⟨rfl,-⟩:=e0;obtain ⟨b,o,rfl,-,hc⟩:=h5 (by omega);have r0:wr.cell? ⟨b,o+k,none⟩=some (.int .i64 l[k]):=by rw [hc k (by omega)];simp [hlt]
   have HN:=zq (zdz l[k] H.out);have hlen:=zcf (l.take k) s;have hl2:((l.take k).foldl wNum s).out.length≤1000000000000:=by simp at hlen;omega
   have HP:Hid (∀v2 w2,Own B w0 w2 (bysR v2 (numX l[k])::wrL p v ((l.take k).foldl wNum s) (redR (.slice (some ⟨b,o,none⟩) l.length cap) 1 l.length (intC l)::ss))→Calls Tryz.prog 310 #[.pointer (some ⟨p,0,none⟩),v2,.bool (numOk l[k])] w2 fun e w'=>e= .returned (.tuple #[])∧ ∃v',Own B w0 w' (wrL p v' ((l.take (k+1)).foldl wNum s) (redR (.slice (some ⟨b,o,none⟩) l.length cap) 1 l.length (intC l)::ss))):=
    zq (fun v2 w2 h2=>(zx7 h2.rot' hl2 (by have:=zc5 l[k];omega)).mono (by
     rintro e w' ⟨rfl,v',h3⟩;refine ⟨rfl,v',?_⟩;rw [zc3 _ _ _ hlt];exact h3.dropAt 2 (by simp)))
   clear hc h5 hl2 hlen H hk;generalize l[k]=n at*;generalize numOk n=ok at*
   go_wp2_with fail
   refine HN.out.mono ?_;rintro e w1 ⟨v2,rfl,h2⟩;have HP2:=zq (HP.out v2 w1 h2);clear h2 HN HP
   go_wp2_with fail
   refine HP2.out.mono ?_;rintro e w2 ⟨rfl,v3,h3⟩;have H3:=zq h3;clear h3 HP2 r0
   go_wp2_with fail
   go_roundw
   case rel=>exact ⟨k+1,v3,by go_num,by omega,H3⟩
   case measure=>simp [intOf];omega
  ·have hkI:decide ((k:Int)<(l.length:Int))=false:=by simp;omega
   have e:k=l.length:=by omega
   subst e
   go_wp2_with fail
   refine bodyPost_end (results_none rfl _ _ _) rfl ?_;have:=H.out;rw [List.take_length] at this;exact ⟨rfl,v,this⟩
theorem zpe {l:List Int} {lv:Value} (h:Own B w0 W (wrL p v s (redR lv 1 l.length (intC l)::ss))) (hl:s.out.length+6*l.length≤1000000000000) (hll:l.length≤1000):
  Calls Tryz.prog 308 #[.pointer (some ⟨p,0,none⟩),lv] W fun e w'=>e= .returned (.tuple #[])∧ ∃v',Own B w0 w' (wrL p v' (l.foldl wSgn s) (redR lv 1 l.length (intC l)::ss)):=by
 have H:=zq h;obtain ⟨ao,cap,rfl,hcap,-⟩:=zae (k:=2) h rfl;clear h;go_enter Tryz.func308,Tryz.ntmps308
 go_wp2_with fail
 go_loopw [8] (fun i wr=> ∃(k:Nat) (v:Value),i= .int .i64 k∧k≤l.length∧Hid (Own B w0 wr (wrL p v ((l.take k).foldl wSgn s) (redR (.slice ao l.length cap) 1 l.length (intC l)::ss)))) (fun i _=>l.length-(intOf i).toNat)
 case atStart=>exact ⟨0,v,rfl,by omega,H⟩
 case round=>
  clear H;obtain ⟨k,v,rfl,hk,H⟩:=hrel;by_cases hlt:k<l.length
  ·have hkI:(k:Int)<(l.length:Int):=by omega
   have hk0:(0:Int)≤(k:Int):=by omega
   have hcI:(l.length:Int)≤(cap:Int):=by omega
   obtain ⟨ao',cap',e0,-,-,-,-,h5⟩:=zae (k:=2) H.out rfl;simp only [Value.slice.injEq,true_and] at e0;obtain ⟨rfl,-⟩:=e0;obtain ⟨b,o,rfl,-,hc⟩:=h5 (by omega);have r0:wr.cell? ⟨b,o+k,none⟩=some (.int .i64 l[k]):=by rw [hc k (by omega)];simp [hlt]
   have HN:=zq (zqe l[k] H.out);have hlen:=zjm (l.take k) s;have hl2:((l.take k).foldl wSgn s).out.length≤1000000000000:=by simp at hlen;omega
   have HP:Hid (∀v2 w2,Own B w0 w2 (bysR v2 (sgnX l[k])::wrL p v ((l.take k).foldl wSgn s) (redR (.slice (some ⟨b,o,none⟩) l.length cap) 1 l.length (intC l)::ss))→Calls Tryz.prog 310 #[.pointer (some ⟨p,0,none⟩),v2,.bool (sgnOk l[k])] w2 fun e w'=>e= .returned (.tuple #[])∧ ∃v',Own B w0 w' (wrL p v' ((l.take (k+1)).foldl wSgn s) (redR (.slice (some ⟨b,o,none⟩) l.length cap) 1 l.length (intC l)::ss))):=
    zq (fun v2 w2 h2=>(zx7 h2.rot' hl2 (by have:=zmm l[k];omega)).mono (by
     rintro e w' ⟨rfl,v',h3⟩;refine ⟨rfl,v',?_⟩;rw [zc3 _ _ _ hlt];exact h3.dropAt 2 (by simp)))
   clear hc h5 hl2 hlen H hk;generalize l[k]=n at*;generalize sgnOk n=ok at*
   go_wp2_with fail
   refine HN.out.mono ?_;rintro e w1 ⟨v2,rfl,h2⟩;have HP2:=zq (HP.out v2 w1 h2);clear h2 HN HP
   go_wp2_with fail
   refine HP2.out.mono ?_;rintro e w2 ⟨rfl,v3,h3⟩;have H3:=zq h3;clear h3 HP2 r0
   go_wp2_with fail
   go_roundw
   case rel=>exact ⟨k+1,v3,by go_num,by omega,H3⟩
   case measure=>simp [intOf];omega
  ·have hkI:decide ((k:Int)<(l.length:Int))=false:=by simp;omega
   have e:k=l.length:=by omega
   subst e
   go_wp2_with fail
   refine bodyPost_end (results_none rfl _ _ _) rfl ?_;have:=H.out;rw [List.take_length] at this;exact ⟨rfl,v,this⟩
end
abbrev rqO (r:Rq):Obj:= .cells #[.int .i64 r.client,.int .i64 r.time,.int .i64 r.kind,.int .i64 r.key,.int .i64 r.val,.int .i64 r.sl] 38 (0,0)
section
variable {B:Nat} {w0 w W W':World} {ss rs:List Res} {p:Nat} {v bv:Value} {s:Wr}
theorem zr1 (h:Own B w0 W rs) (cs:Array Value) (T:TypeId) (n:Nat) (hn:cs.size=n) (hm:n≤1000):Own B w0 (W.alloc (.cells cs T (0,0))) (redR (.slice (some ⟨W.heap.size,0,none⟩) n n) 1 n cs.toList::rs):=by
 refine (h.alloc (.cells cs T (0,0))).red (v:= .slice (some ⟨W.heap.size,0,none⟩) n n) ?_ (fun k hk=> ?_)
 ·refine ⟨_,n,rfl,Nat.le_refl _,by unfold maxLen;omega,by simp [hn],(fun e=>by cases e),fun _=>⟨W.heap.size,0,rfl,by simp,fun j hj=> ?_⟩⟩
  rw [zac (heap_alloc_new W _)];simp
 ·have:=zdr hk
  simp [blkOf] at this;subst this;exact h.fresh (Nat.le_refl _)
theorem zbm (l:List Int) (cs:Array Value) (n:Nat) (h:Own B w0 W (wrL p v s ss)) (b:Nat) (hb:W.heap.size=b) (e:cs.toList=intC l) (hn:l.length=n) (hl:s.out.length+6*l.length≤1000000000000) (hll:l.length≤1000):
  Calls Tryz.prog 307 #[.pointer (some ⟨p,0,none⟩),.slice (some ⟨b,0,none⟩) n n] (W.alloc (.cells cs 3 (0,0))) fun e w'=>e= .returned (.tuple #[])∧ ∃v',Own B w0 w' (wrL p v' (l.foldl wNum s) ss):=by
 subst hn;subst hb;have hs:cs.size=l.length:=by rw [←Array.length_toList,e];simp
 have h1:=zr1 h cs 3 l.length hs hll;rw [e] at h1;refine (zo3 h1.rot' hl hll).mono ?_;rintro e w' ⟨rfl,v',h2⟩;exact ⟨rfl,v',h2.dropAt 2 (by simp)⟩
theorem zs5 (l:List Int) (cs:Array Value) (n:Nat) (h:Own B w0 W (wrL p v s ss)) (b:Nat) (hb:W.heap.size=b) (e:cs.toList=intC l) (hn:l.length=n) (hl:s.out.length+6*l.length≤1000000000000) (hll:l.length≤1000):
  Calls Tryz.prog 308 #[.pointer (some ⟨p,0,none⟩),.slice (some ⟨b,0,none⟩) n n] (W.alloc (.cells cs 3 (0,0))) fun e w'=>e= .returned (.tuple #[])∧ ∃v',Own B w0 w' (wrL p v' (l.foldl wSgn s) ss):=by
 subst hn;subst hb;have hs:cs.size=l.length:=by rw [←Array.length_toList,e];simp
 have h1:=zr1 h cs 3 l.length hs hll;rw [e] at h1;refine (zpe h1.rot' hl hll).mono ?_;rintro e w' ⟨rfl,v',h2⟩;exact ⟨rfl,v',h2.dropAt 2 (by simp)⟩
theorem zfr (s:Wr) (r:Rq):(wReq s r).out.length≤s.out.length+36:=by
 have h1:=zcf [r.client,r.time,r.kind] s;have h2:=zjm [r.key,r.val] ([r.client,r.time,r.kind].foldl wNum s);have h3:=zcf [r.sl] ([r.key,r.val].foldl wSgn ([r.client,r.time,r.kind].foldl wNum s));simp only [List.length_cons,List.length_nil] at h1 h2 h3;have e:wReq s r=[r.sl].foldl wNum ([r.key,r.val].foldl wSgn ([r.client,r.time,r.kind].foldl wNum s)):=rfl;rw [e];omega
theorem zcg (s:Wr) (x:Int×Int):(wVote s x).out.length≤s.out.length+12:=zcf [x.1,x.2] s
theorem ztt (r:Rq) (h:Own B w0 W (wrL p v s ss)) (hl:s.out.length≤100000000000):
  Calls Tryz.prog 296 #[.pointer (some ⟨p,0,none⟩),.agg #[.int .i64 r.client,.int .i64 r.time,.int .i64 r.kind,.int .i64 r.key,.int .i64 r.val,.int .i64 r.sl]] W fun e w'=>e= .returned (.tuple #[])∧ ∃v',Own B w0 w' (wrL p v' (wReq s r) ss):=by
 have h1:Own B w0 (W.alloc (rqO r)) (wrL p v s (blk W.heap.size (rqO r)::ss)):=(h.box (rqO r)).rot';have H1:=zq h1;have hb:=h1.blkAt 2 rfl;have x0:=zaa hb 0 rfl;have x1:=zaa hb 1 rfl;have x2:=zaa hb 2 rfl;have HE:Hid (wReq s r=[r.sl].foldl wNum ([r.key,r.val].foldl wSgn ([r.client,r.time,r.kind].foldl wNum s))):=zq rfl;have g1:=zcf [r.client,r.time,r.kind] s;have g2:=zjm [r.key,r.val] ([r.client,r.time,r.kind].foldl wNum s);have HN:=zq (zbm [r.client,r.time,r.kind] #[.int .i64 r.client,.int .i64 r.time,.int .i64 r.kind] 3 h1 (W.heap.size+1) zbf rfl rfl (by simp;omega) (by simp));simp only [List.length_cons,List.length_nil] at g1 g2;generalize [r.client,r.time,r.kind].foldl wNum s=s1 at*;clear h h1 hb;unfold rqO at*;go_enter Tryz.func296,Tryz.ntmps296
 go_wp2_with fail
 refine HN.out.mono ?_;rintro e w1 ⟨rfl,v1,h2⟩;have hb:=h2.blkAt 2 rfl;have y3:=zaa hb 3 rfl;have y4:=zaa hb 4 rfl;have HN2:=zq (zs5 [r.key,r.val] #[.int .i64 r.key,.int .i64 r.val] 2 h2 w1.heap.size rfl rfl rfl (by simp;omega) (by simp));generalize [r.key,r.val].foldl wSgn s1=s2 at*;clear h2 hb HN H1 x0 x1 x2
 go_wp2_with fail
 refine HN2.out.mono ?_;rintro e w2 ⟨rfl,v2,h3⟩;have hb:=h3.blkAt 2 rfl;have y5:=zaa hb 5 rfl;have HN3:=zq (zbm [r.sl] #[.int .i64 r.sl] 1 h3 w2.heap.size rfl rfl rfl (by simp;omega) (by simp));clear h3 hb HN2 y3 y4
 go_wp2_with fail
 refine HN3.out.mono ?_;rintro e w3 ⟨rfl,v3,h4⟩;have H4:=zq h4;clear h4 HN3
 go_wp2_with fail
 refine bodyPost_end (results_none rfl _ _ _) rfl ?_;rw [HE.out];exact ⟨rfl,v3,H4.out.dropAt 2 (by simp)⟩
theorem zw5 (x:Int×Int) (h:Own B w0 W (wrL p v s ss)) (hl:s.out.length≤100000000000):
  Calls Tryz.prog 299 #[.pointer (some ⟨p,0,none⟩),.agg #[.int .i64 x.1,.int .i64 x.2]] W fun e w'=>e= .returned (.tuple #[])∧ ∃v',Own B w0 w' (wrL p v' (wVote s x) ss):=by
 have h1:Own B w0 (W.alloc (.cells #[.int .i64 x.1,.int .i64 x.2] 177 (0,0))) (wrL p v s (blk W.heap.size (.cells #[.int .i64 x.1,.int .i64 x.2] 177 (0,0))::ss)):=(h.box _).rot';have H1:=zq h1;have hb:=h1.blkAt 2 rfl;have x0:=zaa hb 0 rfl;have x1:=zaa hb 1 rfl;have HN:=zq (zbm [x.1,x.2] #[.int .i64 x.1,.int .i64 x.2] 2 h1 (W.heap.size+1) zbf rfl rfl (by simp;omega) (by simp));clear h h1 hb;go_enter Tryz.func299,Tryz.ntmps299
 go_wp2_with fail
 refine HN.out.mono ?_;rintro e w1 ⟨rfl,v1,h2⟩;have H2:=zq h2;clear h2 HN H1
 go_wp2_with fail
 refine bodyPost_end (results_none rfl _ _ _) rfl ?_;exact ⟨rfl,v1,H2.out.dropAt 2 (by simp)⟩
end
def wList {α:Type} (one:Wr→α→Wr) (s:Wr) (l:List α):Wr:=if 256<l.length then ⟨s.out,true⟩ else l.foldl one (wNum s l.length)
def wCert (s:Wr) (c:Cp):Wr:=wList wVote (wList wReq (wNum (wNum (wNum s c.view) c.inst) c.seq) c.rs) c.vs
def wPart (s:Wr) (p:Pa):Wr:=wNum (wList wCert (wList wVote (wNum s p.fm) p.vs) p.cs) p.sl
theorem zfh {α:Type} (one:Wr→α→Wr) (K:Nat) (h: ∀s x,(one s x).out.length≤s.out.length+K): ∀(l:List α) (s:Wr),(l.foldl one s).out.length≤s.out.length+K*l.length
 | [],s=>by simp
 | x::l,s=>by have h1:=zfh one K h l (one s x);have h2:=h s x;rw [List.foldl_cons,List.length_cons,Nat.mul_add];omega
theorem zb8 {α:Type} (one:Wr→α→Wr) (K:Nat) (h: ∀s x,(one s x).out.length≤s.out.length+K) (l:List α) (s:Wr):(wList one s l).out.length≤s.out.length+6+K*256:=by
 unfold wList;split
 ·simp;omega
 ·have h1:=zfh one K h l (wNum s l.length)
  have h2:=zau s l.length;have h3:K*l.length≤K*256:=Nat.mul_le_mul_left _ (by omega);omega
theorem zgi (s:Wr) (c:Cp):(wCert s c).out.length≤s.out.length+12318:=by
 have h1:=zb8 wVote 12 zcg c.vs (wList wReq (wNum (wNum (wNum s c.view) c.inst) c.seq) c.rs);have h2:=zb8 wReq 36 zfr c.rs (wNum (wNum (wNum s c.view) c.inst) c.seq);have h3:=zcf [c.view,c.inst,c.seq] s;simp only [List.foldl_cons,List.foldl_nil,List.length_cons,List.length_nil] at h3;unfold wCert;omega
theorem zoc (s:Wr) (p:Pa):(wPart s p).out.length≤s.out.length+3156510:=by
 have h0:=zau s p.fm;have h1:=zb8 wVote 12 zcg p.vs (wNum s p.fm);have h2:=zb8 wCert 12318 zgi p.cs (wList wVote (wNum s p.fm) p.vs);have h3:=zau (wList wCert (wList wVote (wNum s p.fm) p.vs) p.cs) p.sl;unfold wPart;omega
section
variable {B:Nat} {w0 w W W':World} {ss rs:List Res} {p:Nat} {v bv:Value} {s:Wr}
theorem zh3 {a b c d:Res} (h:Own B w0 W (a::b::c::d::rs)):Own B w0 W (c::d::a::b::rs):=((h.front 2 rfl rfl).front 3 rfl rfl).swap
theorem znn {a b e c d:Res} (h:Own B w0 W (a::b::e::c::d::rs)):Own B w0 W (c::d::a::b::e::rs):=((h.front 3 rfl rfl).front 4 rfl rfl).swap
theorem zir {r:Res} (h:r.M=[]):Go.Heap.Ms (r::rs)=Go.Heap.Ms rs:=by simp [Go.Heap.Ms,h]
theorem zqg (h:Own B w0 W rs) (k:Nat) {cts:List Ct} (e:rs[k]?=some (ctsR cts)) {c:Ct} (hc:c∈cts):Own B w0 W (redR c.vb 6 c.rs.length (zal c.rs)::redR c.vv 2 c.vs.length (zan c.vs)::rs):=by
 obtain ⟨D,⟨h1,hlt⟩,h2,h3⟩:=h.get k e;have g1:Own B w0 W (redR c.vv 2 c.vs.length (zan c.vs)::rs):=h.new (Upd.refl [] _) ⟨D,⟨(h1 c hc).v,hlt⟩,h2,h3⟩ (by simp [redR,imm]);refine g1.new (Upd.refl [] _) ⟨D,⟨(h1 c hc).b,hlt⟩,?_,?_⟩ (by simp [redR,imm])
 ·rw [zir rfl];exact h2
 ·rw [zir rfl];exact h3
theorem zqf (h:Own B w0 W rs) (k:Nat) {cts:List Ct} (e:rs[k]?=some (ctsR cts)) {c:Ct} (hc:c∈cts):c.rs.length≤100000∧c.vs.length≤100000:=by
 obtain ⟨D,⟨h1,hlt⟩,h2,h3⟩:=h.get k e;exact ⟨(h1 c hc).bn,(h1 c hc).vn⟩
theorem zsj (h:Own B w0 W rs) (k:Nat) {pts:List Pt} (e:rs[k]?=some (ptsR pts)) {c:Pt} (hc:c∈pts):Own B w0 W (redR c.vv 2 c.vs.length (zan c.vs)::redR c.cv 5 c.cts.length (c.cts.flatMap zar)::ctsR c.cts::rs):=by
 obtain ⟨D,⟨h1,hlt⟩,h2,h3⟩:=h.get k e;have g1:Own B w0 W (ctsR c.cts::rs):=h.new (Upd.refl [] _) ⟨D,⟨(h1 c hc).cs,hlt⟩,h2,h3⟩ (by simp [ctsR,imm]);have g2:Own B w0 W (redR c.cv 5 c.cts.length (c.cts.flatMap zar)::ctsR c.cts::rs):=by
  refine g1.new (Upd.refl [] _) ⟨D,⟨(h1 c hc).c,hlt⟩,?_,?_⟩ (by simp [redR,imm])
  ·rw [zir rfl];exact h2
  ·rw [zir rfl];exact h3
 refine g2.new (Upd.refl [] _) ⟨D,⟨(h1 c hc).v,hlt⟩,?_,?_⟩ (by simp [redR,imm])
 ·rw [zir rfl,zir rfl];exact h2
 ·rw [zir rfl,zir rfl];exact h3
theorem zsi (h:Own B w0 W rs) (k:Nat) {pts:List Pt} (e:rs[k]?=some (ptsR pts)) {c:Pt} (hc:c∈pts):c.vs.length≤100000∧c.cts.length≤100000:=by
 obtain ⟨D,⟨h1,hlt⟩,h2,h3⟩:=h.get k e;exact ⟨(h1 c hc).vn,(h1 c hc).cn⟩
theorem zoy {l:List (Rq)} {lv:Value} (h:Own B w0 W (wrL p v s (redR lv 6 l.length (zal l)::ss))) (hb:256<l.length) (g:Value):
  Calls Tryz.prog 295 #[.pointer (some ⟨p,0,none⟩),lv,g] W fun e w'=>e= .returned (.tuple #[])∧ ∃v',Own B w0 w' (wrL p v' (wList wReq s l) (redR lv 6 l.length (zal l)::ss)):=by
 have hk:(256:Int)<(l.length:Int):=by omega
 have x1:W.cell? ⟨p,1,none⟩=some (.bool s.bad):=zaa h.blk_out 1 rfl;have z1:=zab h.blk_out 1;have HE:=zq (show Own B w0 (W.setCell ⟨p,1,none⟩ (.bool true)) (wrL p v (wList wReq s l) (redR lv 6 l.length (zal l)::ss)) by
  unfold wList;rw [if_pos (by simpa using hb)];exact Own.storeTo h 1 (.bool true) rfl)
 obtain ⟨ao,cap,rfl,hcap,-⟩:=zae (k:=2) h rfl;clear h hb;go_enter Tryz.func295,Tryz.ntmps295
 go_wp2_with fail
 refine bodyPost_ret (results_none rfl _ _ _) rfl ?_;exact ⟨rfl,v,HE.out⟩
theorem zhx {l:List (Rq)} {lv:Value} (h:Own B w0 W (wrL p v s (redR lv 6 l.length (zal l)::ss))) (hn:l.length≤100000) (hl:s.out.length≤50000000000):
  Calls Tryz.prog 295 #[.pointer (some ⟨p,0,none⟩),lv,.func (.func 296) #[] #[]] W fun e w'=>e= .returned (.tuple #[])∧ ∃v',Own B w0 w' (wrL p v' (wList wReq s l) (redR lv 6 l.length (zal l)::ss)):=by
 by_cases hb:256<l.length
 ·exact zoy h hb _
 have hk:decide ((256:Int)<(l.length:Int))=false:=by simp;omega
 have HE:Hid (wList wReq s l=l.foldl wReq (wNum s l.length)):=zq (by unfold wList;rw [if_neg (by simpa using hb)];first | done | simp)
 have HN:=zq (zbm [(l.length:Int)] #[.int .i64 l.length] 1 h W.heap.size rfl rfl rfl (by simp;omega) (by simp));have hg:(wNum s l.length).out.length≤s.out.length+6:=zau s l.length;simp only [List.foldl_cons,List.foldl_nil] at HN;obtain ⟨ao,cap,rfl,hcap,-⟩:=zae (k:=2) h rfl;generalize wNum s l.length=s1 at*;clear h;go_enter Tryz.func295,Tryz.ntmps295
 go_wp2_with fail
 refine HN.out.mono ?_;rintro e w1 ⟨rfl,v1,h2⟩;have H:=zq h2;clear h2 HN
 go_wp2_with fail
 go_loopw [21] (fun i wr=> ∃(k:Nat) (v:Value),i= .int .i64 k∧k≤l.length∧Hid (Own B w0 wr (wrL p v ((l.take k).foldl wReq s1) (redR (.slice ao l.length cap) 6 l.length (zal l)::ss)))) (fun i _=>l.length-(intOf i).toNat)
 case atStart=>exact ⟨0,v1,rfl,by omega,H⟩
 case round=>
  clear H;obtain ⟨k,v,rfl,hk2,H⟩:=hrel;by_cases hlt:k<l.length
  ·have hkI:(k:Int)<(l.length:Int):=by omega
   have hk0:(0:Int)≤(k:Int):=by omega
   have hcI:(l.length:Int)≤(cap:Int):=by omega
   obtain ⟨ao',cap',e0,-,-,-,-,h5⟩:=zae (k:=2) H.out rfl;simp only [Value.slice.injEq,true_and] at e0;obtain ⟨rfl,-⟩:=e0;obtain ⟨b,o,rfl,-,hc⟩:=h5 (by omega);obtain ⟨q0,q1,q2,q3,q4,q5⟩:=zba hc k l[k] (by simp);have hlen:=zfh wReq 36 zfr (l.take k) s1;have hm:min k l.length=k:=by omega
   rw [List.length_take,hm] at hlen;have HC:=zq (ztt l[k] (H.out.alloc (rqBox l[k])) (by have:=Nat.mul_le_mul_left 36 (show k≤256 by omega);omega));have HS:=zq (zc3 wReq l k (by simpa using hlt) s1);clear hc h5 H hlen;generalize l[k]=x at*
   go_wp2_with fail
   refine HC.out.mono ?_;rintro e w2 ⟨rfl,v2,h3⟩;have H3:Hid (Own B w0 w2 (wrL p v2 ((l.take (k+1)).foldl wReq s1) (redR (.slice (some ⟨b,o,none⟩) l.length cap) 6 l.length (zal l)::ss))):=zq (by rw [HS.out];simpa using h3);clear h3 HC
   go_wp2_with fail
   go_roundw
   case rel=>exact ⟨k+1,v2,by go_num,by omega,H3⟩
   case measure=>simp [intOf];omega
  ·have hkI:decide ((k:Int)<(l.length:Int))=false:=by simp;omega
   have e:k=l.length:=by omega
   subst e
   go_wp2_with fail
   refine bodyPost_end (results_none rfl _ _ _) rfl ?_;have:=H.out;rw [List.take_of_length_le (by simp)] at this;rw [HE.out];exact ⟨rfl,v,this⟩
theorem zly {l:List (Int×Int)} {lv:Value} (h:Own B w0 W (wrL p v s (redR lv 2 l.length (zan l)::ss))) (hb:256<l.length) (g:Value):
  Calls Tryz.prog 298 #[.pointer (some ⟨p,0,none⟩),lv,g] W fun e w'=>e= .returned (.tuple #[])∧ ∃v',Own B w0 w' (wrL p v' (wList wVote s l) (redR lv 2 l.length (zan l)::ss)):=by
 have hk:(256:Int)<(l.length:Int):=by omega
 have x1:W.cell? ⟨p,1,none⟩=some (.bool s.bad):=zaa h.blk_out 1 rfl;have z1:=zab h.blk_out 1;have HE:=zq (show Own B w0 (W.setCell ⟨p,1,none⟩ (.bool true)) (wrL p v (wList wVote s l) (redR lv 2 l.length (zan l)::ss)) by
  unfold wList;rw [if_pos (by simpa using hb)];exact Own.storeTo h 1 (.bool true) rfl)
 obtain ⟨ao,cap,rfl,hcap,-⟩:=zae (k:=2) h rfl;clear h hb;go_enter Tryz.func298,Tryz.ntmps298
 go_wp2_with fail
 refine bodyPost_ret (results_none rfl _ _ _) rfl ?_;exact ⟨rfl,v,HE.out⟩
theorem zeq {l:List (Int×Int)} {lv:Value} (h:Own B w0 W (wrL p v s (redR lv 2 l.length (zan l)::ss))) (hn:l.length≤100000) (hl:s.out.length≤50000000000):
  Calls Tryz.prog 298 #[.pointer (some ⟨p,0,none⟩),lv,.func (.func 299) #[] #[]] W fun e w'=>e= .returned (.tuple #[])∧ ∃v',Own B w0 w' (wrL p v' (wList wVote s l) (redR lv 2 l.length (zan l)::ss)):=by
 by_cases hb:256<l.length
 ·exact zly h hb _
 have hk:decide ((256:Int)<(l.length:Int))=false:=by simp;omega
 have HE:Hid (wList wVote s l=l.foldl wVote (wNum s l.length)):=zq (by unfold wList;rw [if_neg (by simpa using hb)];first | done | simp)
 have HN:=zq (zbm [(l.length:Int)] #[.int .i64 l.length] 1 h W.heap.size rfl rfl rfl (by simp;omega) (by simp));have hg:(wNum s l.length).out.length≤s.out.length+6:=zau s l.length;simp only [List.foldl_cons,List.foldl_nil] at HN;obtain ⟨ao,cap,rfl,hcap,-⟩:=zae (k:=2) h rfl;generalize wNum s l.length=s1 at*;clear h;go_enter Tryz.func298,Tryz.ntmps298
 go_wp2_with fail
 refine HN.out.mono ?_;rintro e w1 ⟨rfl,v1,h2⟩;have H:=zq h2;clear h2 HN
 go_wp2_with fail
 go_loopw [21] (fun i wr=> ∃(k:Nat) (v:Value),i= .int .i64 k∧k≤l.length∧Hid (Own B w0 wr (wrL p v ((l.take k).foldl wVote s1) (redR (.slice ao l.length cap) 2 l.length (zan l)::ss)))) (fun i _=>l.length-(intOf i).toNat)
 case atStart=>exact ⟨0,v1,rfl,by omega,H⟩
 case round=>
  clear H;obtain ⟨k,v,rfl,hk2,H⟩:=hrel;by_cases hlt:k<l.length
  ·have hkI:(k:Int)<(l.length:Int):=by omega
   have hk0:(0:Int)≤(k:Int):=by omega
   have hcI:(l.length:Int)≤(cap:Int):=by omega
   obtain ⟨ao',cap',e0,-,-,-,-,h5⟩:=zae (k:=2) H.out rfl;simp only [Value.slice.injEq,true_and] at e0;obtain ⟨rfl,-⟩:=e0;obtain ⟨b,o,rfl,-,hc⟩:=h5 (by omega);obtain ⟨q0,q1⟩:=zjk hc k l[k] (by simp);have hlen:=zfh wVote 12 zcg (l.take k) s1;have hm:min k l.length=k:=by omega
   rw [List.length_take,hm] at hlen;have HC:=zq (zw5 l[k] (H.out.alloc (.cells #[.int .i64 l[k].1,.int .i64 l[k].2] 177 (0,0))) (by have:=Nat.mul_le_mul_left 12 (show k≤256 by omega);omega));have HS:=zq (zc3 wVote l k (by simpa using hlt) s1);clear hc h5 H hlen;generalize l[k]=x at*
   go_wp2_with fail
   refine HC.out.mono ?_;rintro e w2 ⟨rfl,v2,h3⟩;have H3:Hid (Own B w0 w2 (wrL p v2 ((l.take (k+1)).foldl wVote s1) (redR (.slice (some ⟨b,o,none⟩) l.length cap) 2 l.length (zan l)::ss))):=zq (by rw [HS.out];simpa using h3);clear h3 HC
   go_wp2_with fail
   go_roundw
   case rel=>exact ⟨k+1,v2,by go_num,by omega,H3⟩
   case measure=>simp [intOf];omega
  ·have hkI:decide ((k:Int)<(l.length:Int))=false:=by simp;omega
   have e:k=l.length:=by omega
   subst e
   go_wp2_with fail
   refine bodyPost_end (results_none rfl _ _ _) rfl ?_;have:=H.out;rw [List.take_of_length_le (by simp)] at this;rw [HE.out];exact ⟨rfl,v,this⟩
theorem zw3 (c:Ct) (h:Own B w0 W (wrL p v s (redR c.vb 6 c.rs.length (zal c.rs)::redR c.vv 2 c.vs.length (zan c.vs)::ss))) (hr:c.rs.length≤100000) (hv:c.vs.length≤100000) (hl:s.out.length≤40000000000):
  Calls Tryz.prog 301 #[.pointer (some ⟨p,0,none⟩),ctAgg c] W fun e w'=>e= .returned (.tuple #[])∧ ∃v',Own B w0 w' (wrL p v' (wCert s c.cp) (redR c.vb 6 c.rs.length (zal c.rs)::redR c.vv 2 c.vs.length (zan c.vs)::ss)):=by
 obtain ⟨view,inst,seq,vb,vv,rs,vs⟩:=c;simp only [Ct.cp] at h hr hv⊢;obtain ⟨a1,c1,rfl,-,-⟩:=zae (k:=2) h rfl;obtain ⟨a2,c2,rfl,-,-⟩:=zae (k:=3) h rfl;have h1:Own B w0 (W.alloc (ctO view inst seq (.slice a1 rs.length c1) (.slice a2 vs.length c2))) (wrL p v s (blk W.heap.size (ctO view inst seq (.slice a1 rs.length c1) (.slice a2 vs.length c2))::redR (.slice a1 rs.length c1) 6 rs.length (zal rs)::redR (.slice a2 vs.length c2) 2 vs.length (zan vs)::ss)):=(h.box _).rot';have hb:=h1.blkAt 2 rfl;have x0:=zaa hb 0 rfl;have x1:=zaa hb 1 rfl;have x2:=zaa hb 2 rfl;have HE:Hid (wCert s ⟨view,inst,seq,rs,vs⟩=wList wVote (wList wReq ([view,inst,seq].foldl wNum s) rs) vs):=zq rfl;have g1:=zcf [view,inst,seq] s;have HN:=zq (zbm [view,inst,seq] #[.int .i64 view,.int .i64 inst,.int .i64 seq] 3 h1 (W.heap.size+1) zbf rfl rfl (by simp;omega) (by simp));simp only [List.length_cons,List.length_nil] at g1;generalize [view,inst,seq].foldl wNum s=s1 at*;clear h h1 hb;go_enter Tryz.func301,Tryz.ntmps301
 go_wp2_with fail
 refine HN.out.mono ?_;rintro e w1 ⟨rfl,v1,h2⟩;have y3:=zaa (h2.blkAt 2 rfl) 3 rfl;have HC:=zq (zhx ((h2.front 3 rfl rfl).rot') hr (by omega));have g2:=zb8 wReq 36 zfr rs s1;generalize wList wReq s1 rs=s2 at*;clear h2 HN x0 x1 x2
 go_wp2_with fail
 refine HC.out.mono ?_;rintro e w2 ⟨rfl,v2,h3⟩;have y4:=zaa (h3.blkAt 3 rfl) 4 rfl;have HV:=zq (zeq ((h3.front 4 rfl rfl).rot') hv (by omega));clear h3 HC y3
 go_wp2_with fail
 refine HV.out.mono ?_;rintro e w3 ⟨rfl,v3,h4⟩;have H4:=zq h4;clear h4 HV y4
 go_wp2_with fail
 refine bodyPost_end (results_none rfl _ _ _) rfl ?_;rw [HE.out];exact ⟨rfl,v3,((H4.out.dropAt 4 (by simp)).front 3 rfl rfl).rot'⟩
theorem zlv {l:List (Ct)} {lv:Value} (h:Own B w0 W (wrL p v s (redR lv 5 l.length (l.flatMap zar)::ctsR l::ss))) (hb:256<l.length) (g:Value):
  Calls Tryz.prog 300 #[.pointer (some ⟨p,0,none⟩),lv,g] W fun e w'=>e= .returned (.tuple #[])∧ ∃v',Own B w0 w' (wrL p v' (wList wCert s (l.map Ct.cp)) (redR lv 5 l.length (l.flatMap zar)::ctsR l::ss)):=by
 have hk:(256:Int)<(l.length:Int):=by omega
 have x1:W.cell? ⟨p,1,none⟩=some (.bool s.bad):=zaa h.blk_out 1 rfl;have z1:=zab h.blk_out 1;have HE:=zq (show Own B w0 (W.setCell ⟨p,1,none⟩ (.bool true)) (wrL p v (wList wCert s (l.map Ct.cp)) (redR lv 5 l.length (l.flatMap zar)::ctsR l::ss)) by
  unfold wList;rw [if_pos (by simpa using hb)];exact Own.storeTo h 1 (.bool true) rfl)
 obtain ⟨ao,cap,rfl,hcap,-⟩:=zae (k:=2) h rfl;clear h hb;go_enter Tryz.func300,Tryz.ntmps300
 go_wp2_with fail
 refine bodyPost_ret (results_none rfl _ _ _) rfl ?_;exact ⟨rfl,v,HE.out⟩
theorem zgt {l:List (Ct)} {lv:Value} (h:Own B w0 W (wrL p v s (redR lv 5 l.length (l.flatMap zar)::ctsR l::ss))) (hn:l.length≤100000) (hl:s.out.length≤30000000000):
  Calls Tryz.prog 300 #[.pointer (some ⟨p,0,none⟩),lv,.func (.func 301) #[] #[]] W fun e w'=>e= .returned (.tuple #[])∧ ∃v',Own B w0 w' (wrL p v' (wList wCert s (l.map Ct.cp)) (redR lv 5 l.length (l.flatMap zar)::ctsR l::ss)):=by
 by_cases hb:256<l.length
 ·exact zlv h hb _
 have hk:decide ((256:Int)<(l.length:Int))=false:=by simp;omega
 have HE:Hid (wList wCert s (l.map Ct.cp)=(l.map Ct.cp).foldl wCert (wNum s l.length)):=zq (by unfold wList;rw [if_neg (by simpa using hb)];first | done | simp)
 have HN:=zq (zbm [(l.length:Int)] #[.int .i64 l.length] 1 h W.heap.size rfl rfl rfl (by simp;omega) (by simp));have hg:(wNum s l.length).out.length≤s.out.length+6:=zau s l.length;simp only [List.foldl_cons,List.foldl_nil] at HN;obtain ⟨ao,cap,rfl,hcap,-⟩:=zae (k:=2) h rfl;generalize wNum s l.length=s1 at*;clear h;go_enter Tryz.func300,Tryz.ntmps300
 go_wp2_with fail
 refine HN.out.mono ?_;rintro e w1 ⟨rfl,v1,h2⟩;have H:=zq h2;clear h2 HN
 go_wp2_with fail
 go_loopw [21] (fun i wr=> ∃(k:Nat) (v:Value),i= .int .i64 k∧k≤l.length∧Hid (Own B w0 wr (wrL p v (((l.map Ct.cp).take k).foldl wCert s1) (redR (.slice ao l.length cap) 5 l.length (l.flatMap zar)::ctsR l::ss)))) (fun i _=>l.length-(intOf i).toNat)
 case atStart=>exact ⟨0,v1,rfl,by omega,H⟩
 case round=>
  clear H;obtain ⟨k,v,rfl,hk2,H⟩:=hrel;by_cases hlt:k<l.length
  ·have hkI:(k:Int)<(l.length:Int):=by omega
   have hk0:(0:Int)≤(k:Int):=by omega
   have hcI:(l.length:Int)≤(cap:Int):=by omega
   obtain ⟨ao',cap',e0,-,-,-,-,h5⟩:=zae (k:=2) H.out rfl;simp only [Value.slice.injEq,true_and] at e0;obtain ⟨rfl,-⟩:=e0;obtain ⟨b,o,rfl,-,hc⟩:=h5 (by omega);have hj: ∀j,j<5→wr.cell? ⟨b,o+k*5+j,none⟩=(zar l[k])[j]?:=fun j hj=>by
    rw [Nat.add_assoc,hc _ (by omega),zd1 zar 5 (fun _=>rfl) l k j hlt hj]
   have q0:=hj 0 (by omega);have q1:=hj 1 (by omega);have q2:=hj 2 (by omega);have q3:=hj 3 (by omega);have q4:=hj 4 (by omega);have hlen:=zfh wCert 12318 zgi ((l.map Ct.cp).take k) s1;have hm:min k l.length=k:=by omega
   rw [List.length_take,List.length_map,hm] at hlen;have hp:=zqg H.out 3 rfl (List.getElem_mem hlt);have hle:=zqf H.out 3 rfl (List.getElem_mem hlt);have hmap:(l.map Ct.cp)[k]'(by simpa using hlt)=l[k].cp:=by simp
   have HS:=zq (zc3 wCert (l.map Ct.cp) k (by simpa using hlt) s1);rw [hmap] at HS;clear hc h5 hj hmap;generalize hx:l[k]=x at*;clear hx;obtain ⟨xview,xinst,xseq,xvb,xvv,xrs,xvs⟩:=x;simp only [Ct.cp] at HS hp hle;obtain ⟨bo1,bc1,rfl,-,-⟩:=zae (k:=0) hp rfl;obtain ⟨bo2,bc2,rfl,-,-⟩:=zae (k:=1) hp rfl;have HC:=zq (zw3 ⟨xview,xinst,xseq,.slice bo1 xrs.length bc1,.slice bo2 xvs.length bc2,xrs,xvs⟩ ((zh3 hp).alloc (ctO xview xinst xseq (.slice bo1 xrs.length bc1) (.slice bo2 xvs.length bc2))) hle.1 hle.2 (by have:=Nat.mul_le_mul_left 12318 (show k≤256 by omega);omega));clear hp H;simp only [zar,List.getElem?_cons_zero,List.getElem?_cons_succ,Nat.add_zero] at q0 q1 q2 q3 q4
   go_wp2_with fail
   refine HC.out.mono ?_;rintro e w2 ⟨rfl,v2,h3⟩;have H3:Hid (Own B w0 w2 (wrL p v2 (((l.map Ct.cp).take (k+1)).foldl wCert s1) (redR (.slice (some ⟨b,o,none⟩) l.length cap) 5 l.length (l.flatMap zar)::ctsR l::ss))):=zq (by rw [HS.out];exact (h3.dropAt 2 (by simp)).dropAt 2 (by simp));clear h3 HC
   go_wp2_with fail
   go_roundw
   case rel=>exact ⟨k+1,v2,by go_num,by omega,H3⟩
   case measure=>simp [intOf];omega
  ·have hkI:decide ((k:Int)<(l.length:Int))=false:=by simp;omega
   have e:k=l.length:=by omega
   subst e
   go_wp2_with fail
   refine bodyPost_end (results_none rfl _ _ _) rfl ?_;have:=H.out;rw [List.take_of_length_le (by simp)] at this;rw [HE.out];exact ⟨rfl,v,this⟩
theorem zw4 (c:Pt) (h:Own B w0 W (wrL p v s (redR c.vv 2 c.vs.length (zan c.vs)::redR c.cv 5 c.cts.length (c.cts.flatMap zar)::ctsR c.cts::ss))) (hr:c.vs.length≤100000) (hv:c.cts.length≤100000) (hl:s.out.length≤20000000000):
  Calls Tryz.prog 303 #[.pointer (some ⟨p,0,none⟩),ptAgg c] W fun e w'=>e= .returned (.tuple #[])∧ ∃v',Own B w0 w' (wrL p v' (wPart s c.pa) (redR c.vv 2 c.vs.length (zan c.vs)::redR c.cv 5 c.cts.length (c.cts.flatMap zar)::ctsR c.cts::ss)):=by
 obtain ⟨fm,vv,vs,cv,cts,sl⟩:=c;simp only [Pt.pa] at h hr hv⊢;obtain ⟨a1,c1,rfl,-,-⟩:=zae (k:=2) h rfl;obtain ⟨a2,c2,rfl,-,-⟩:=zae (k:=3) h rfl;have h1:Own B w0 (W.alloc (.cells #[.int .i64 fm,.slice a1 vs.length c1,.slice a2 cts.length c2,.int .i64 sl] 49 (0,0))) (wrL p v s (blk W.heap.size (.cells #[.int .i64 fm,.slice a1 vs.length c1,.slice a2 cts.length c2,.int .i64 sl] 49 (0,0))::redR (.slice a1 vs.length c1) 2 vs.length (zan vs)::redR (.slice a2 cts.length c2) 5 cts.length (cts.flatMap zar)::ctsR cts::ss)):=(h.box _).rot';have x0:=zaa (h1.blkAt 2 rfl) 0 rfl;have HE:Hid (wPart s ⟨fm,vs,cts.map Ct.cp,sl⟩=[sl].foldl wNum (wList wCert (wList wVote ([fm].foldl wNum s) vs) (cts.map Ct.cp))):=zq rfl;have g1:=zcf [fm] s;have HN:=zq (zbm [fm] #[.int .i64 fm] 1 h1 (W.heap.size+1) zbf rfl rfl (by simp;omega) (by simp));simp only [List.length_cons,List.length_nil] at g1;generalize [fm].foldl wNum s=s1 at*;clear h h1;go_enter Tryz.func303,Tryz.ntmps303
 go_wp2_with fail
 refine HN.out.mono ?_;rintro e w1 ⟨rfl,v1,h2⟩;have y1:=zaa (h2.blkAt 2 rfl) 1 rfl;have HC:=zq (zeq ((h2.front 3 rfl rfl).rot') hr (by omega));have g2:=zb8 wVote 12 zcg vs s1;generalize wList wVote s1 vs=s2 at*;clear h2 HN x0
 go_wp2_with fail
 refine HC.out.mono ?_;rintro e w2 ⟨rfl,v2,h3⟩;have y2:=zaa (h3.blkAt 3 rfl) 2 rfl;have HV:=zq (zgt (zh3 ((h3.front 5 rfl rfl).front 5 rfl rfl)) hv (by omega));have g3:=zb8 wCert 12318 zgi (cts.map Ct.cp) s2;generalize wList wCert s2 (cts.map Ct.cp)=s3 at*;clear h3 HC y1
 go_wp2_with fail
 refine HV.out.mono ?_;rintro e w3 ⟨rfl,v3,h4⟩;have y3:=zaa (h4.blkAt 5 rfl) 3 rfl;have HN4:=zq (zbm [sl] #[.int .i64 sl] 1 h4 w3.heap.size rfl rfl rfl (by simp;omega) (by simp));clear h4 HV y2
 go_wp2_with fail
 refine HN4.out.mono ?_;rintro e w4 ⟨rfl,v4,h5⟩;have H5:=zq h5;clear h5 HN4 y3
 go_wp2_with fail
 refine bodyPost_end (results_none rfl _ _ _) rfl ?_;rw [HE.out];exact ⟨rfl,v4,((H5.out.dropAt 5 (by simp)).front 4 rfl rfl).rot'⟩
theorem zlx {l:List (Pt)} {lv:Value} (h:Own B w0 W (wrL p v s (redR lv 4 l.length (l.flatMap za0)::ptsR l::ss))) (hb:256<l.length) (g:Value):
  Calls Tryz.prog 302 #[.pointer (some ⟨p,0,none⟩),lv,g] W fun e w'=>e= .returned (.tuple #[])∧ ∃v',Own B w0 w' (wrL p v' (wList wPart s (l.map Pt.pa)) (redR lv 4 l.length (l.flatMap za0)::ptsR l::ss)):=by
 have hk:(256:Int)<(l.length:Int):=by omega
 have x1:W.cell? ⟨p,1,none⟩=some (.bool s.bad):=zaa h.blk_out 1 rfl;have z1:=zab h.blk_out 1;have HE:=zq (show Own B w0 (W.setCell ⟨p,1,none⟩ (.bool true)) (wrL p v (wList wPart s (l.map Pt.pa)) (redR lv 4 l.length (l.flatMap za0)::ptsR l::ss)) by
  unfold wList;rw [if_pos (by simpa using hb)];exact Own.storeTo h 1 (.bool true) rfl)
 obtain ⟨ao,cap,rfl,hcap,-⟩:=zae (k:=2) h rfl;clear h hb;go_enter Tryz.func302,Tryz.ntmps302
 go_wp2_with fail
 refine bodyPost_ret (results_none rfl _ _ _) rfl ?_;exact ⟨rfl,v,HE.out⟩
theorem zlw {l:List (Pt)} {lv:Value} (h:Own B w0 W (wrL p v s (redR lv 4 l.length (l.flatMap za0)::ptsR l::ss))) (hn:l.length≤100000) (hl:s.out.length≤10000000000):
  Calls Tryz.prog 302 #[.pointer (some ⟨p,0,none⟩),lv,.func (.func 303) #[] #[]] W fun e w'=>e= .returned (.tuple #[])∧ ∃v',Own B w0 w' (wrL p v' (wList wPart s (l.map Pt.pa)) (redR lv 4 l.length (l.flatMap za0)::ptsR l::ss)):=by
 by_cases hb:256<l.length
 ·exact zlx h hb _
 have hk:decide ((256:Int)<(l.length:Int))=false:=by simp;omega
 have HE:Hid (wList wPart s (l.map Pt.pa)=(l.map Pt.pa).foldl wPart (wNum s l.length)):=zq (by unfold wList;rw [if_neg (by simpa using hb)];first | done | simp)
 have HN:=zq (zbm [(l.length:Int)] #[.int .i64 l.length] 1 h W.heap.size rfl rfl rfl (by simp;omega) (by simp));have hg:(wNum s l.length).out.length≤s.out.length+6:=zau s l.length;simp only [List.foldl_cons,List.foldl_nil] at HN;obtain ⟨ao,cap,rfl,hcap,-⟩:=zae (k:=2) h rfl;generalize wNum s l.length=s1 at*;clear h;go_enter Tryz.func302,Tryz.ntmps302
 go_wp2_with fail
 refine HN.out.mono ?_;rintro e w1 ⟨rfl,v1,h2⟩;have H:=zq h2;clear h2 HN
 go_wp2_with fail
 go_loopw [21] (fun i wr=> ∃(k:Nat) (v:Value),i= .int .i64 k∧k≤l.length∧Hid (Own B w0 wr (wrL p v (((l.map Pt.pa).take k).foldl wPart s1) (redR (.slice ao l.length cap) 4 l.length (l.flatMap za0)::ptsR l::ss)))) (fun i _=>l.length-(intOf i).toNat)
 case atStart=>exact ⟨0,v1,rfl,by omega,H⟩
 case round=>
  clear H;obtain ⟨k,v,rfl,hk2,H⟩:=hrel;by_cases hlt:k<l.length
  ·have hkI:(k:Int)<(l.length:Int):=by omega
   have hk0:(0:Int)≤(k:Int):=by omega
   have hcI:(l.length:Int)≤(cap:Int):=by omega
   obtain ⟨ao',cap',e0,-,-,-,-,h5⟩:=zae (k:=2) H.out rfl;simp only [Value.slice.injEq,true_and] at e0;obtain ⟨rfl,-⟩:=e0;obtain ⟨b,o,rfl,-,hc⟩:=h5 (by omega);have hj: ∀j,j<4→wr.cell? ⟨b,o+k*4+j,none⟩=(za0 l[k])[j]?:=fun j hj=>by
    rw [Nat.add_assoc,hc _ (by omega),zd1 za0 4 (fun _=>rfl) l k j hlt hj]
   have q0:=hj 0 (by omega);have q1:=hj 1 (by omega);have q2:=hj 2 (by omega);have q3:=hj 3 (by omega);have hlen:=zfh wPart 3156510 zoc ((l.map Pt.pa).take k) s1;have hm:min k l.length=k:=by omega
   rw [List.length_take,List.length_map,hm] at hlen;have hp:=zsj H.out 3 rfl (List.getElem_mem hlt);have hle:=zsi H.out 3 rfl (List.getElem_mem hlt);have hmap:(l.map Pt.pa)[k]'(by simpa using hlt)=l[k].pa:=by simp
   have HS:=zq (zc3 wPart (l.map Pt.pa) k (by simpa using hlt) s1);rw [hmap] at HS;clear hc h5 hj hmap;generalize hx:l[k]=x at*;clear hx;obtain ⟨xfm,xvv,xvs,xcv,xcts,xsl⟩:=x;simp only [Pt.pa] at HS hp hle;obtain ⟨bo1,bc1,rfl,-,-⟩:=zae (k:=0) hp rfl;obtain ⟨bo2,bc2,rfl,-,-⟩:=zae (k:=1) hp rfl;have HC:=zq (zw4 ⟨xfm,.slice bo1 xvs.length bc1,xvs,.slice bo2 xcts.length bc2,xcts,xsl⟩ ((znn hp).alloc (.cells #[.int .i64 xfm,.slice bo1 xvs.length bc1,.slice bo2 xcts.length bc2,.int .i64 xsl] 49 (0,0))) hle.1 hle.2 (by have:=Nat.mul_le_mul_left 3156510 (show k≤256 by omega);omega));clear hp H;simp only [za0,List.getElem?_cons_zero,List.getElem?_cons_succ,Nat.add_zero] at q0 q1 q2 q3
   go_wp2_with fail
   refine HC.out.mono ?_;rintro e w2 ⟨rfl,v2,h3⟩;have H3:Hid (Own B w0 w2 (wrL p v2 (((l.map Pt.pa).take (k+1)).foldl wPart s1) (redR (.slice (some ⟨b,o,none⟩) l.length cap) 4 l.length (l.flatMap za0)::ptsR l::ss))):=zq (by rw [HS.out];exact ((h3.dropAt 2 (by simp)).dropAt 2 (by simp)).dropAt 2 (by simp));clear h3 HC
   go_wp2_with fail
   go_roundw
   case rel=>exact ⟨k+1,v2,by go_num,by omega,H3⟩
   case measure=>simp [intOf];omega
  ·have hkI:decide ((k:Int)<(l.length:Int))=false:=by simp;omega
   have e:k=l.length:=by omega
   subst e
   go_wp2_with fail
   refine bodyPost_end (results_none rfl _ _ _) rfl ?_;have:=H.out;rw [List.take_of_length_le (by simp)] at this;rw [HE.out];exact ⟨rfl,v,this⟩
end
end Go.Proofs.YtannckelmojkoaaGreat
