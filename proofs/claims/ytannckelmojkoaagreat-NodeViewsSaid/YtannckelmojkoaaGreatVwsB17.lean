/- Parts of the proof, one behind the other. -/
import Derived.Test.YtannckelmojkoaaGreatVwsB16
set_option maxHeartbeats 32000000
set_option maxRecDepth 100000
set_option linter.unusedVariables false
set_option linter.unusedSimpArgs false
namespace Go.Proofs.YtannckelmojkoaaGreat
open Go.RowKit Go.Heap
structure Wr where
 out:Bys
 bad:Bool
def wPut (s:Wr) (b:Bys) (ok:Bool):Wr:=⟨s.out++b,s.bad || !ok⟩
def wNum (s:Wr) (n:Int):Wr:=wPut s (numX n) (numOk n)
def wSgn (s:Wr) (n:Int):Wr:=wPut s (sgnX n) (sgnOk n)
def wReq (s:Wr) (r:Rq):Wr:=wNum (wSgn (wSgn (wNum (wNum (wNum s r.client) r.time) r.kind) r.key) r.val) r.sl
def wVote (s:Wr) (v:Int×Int):Wr:=wNum (wNum s v.1) v.2
abbrev wB (p:Nat) (v:Value) (bad:Bool):Res:=blk p (.cells #[v,.bool bad] 377 (0,0))
abbrev wrL (p:Nat) (v:Value) (s:Wr) (l:List Res):List Res:=wB p v s.bad::bysR v s.out::l
abbrev intC (l:List Int):List Value:=l.map fun n=>Value.int .i64 n
theorem zdf (n:Int):(numX n).length≤6:=by
 unfold numX numB;split
 ·exact (zg1 5 _).2
 ·simp
theorem zmy (n:Int):(sgnX n).length≤6:=by
 unfold sgnX sgnB;split
 ·exact (zg1 5 _).2
 ·simp
theorem zau (s:Wr) (n:Int):(wNum s n).out.length≤s.out.length+6:=by
 have:=zdf n;simp [wNum,wPut];omega
theorem zti (s:Wr) (n:Int):(wSgn s n).out.length≤s.out.length+6:=by
 have:=zmy n;simp [wSgn,wPut];omega
theorem zcu (l:List Int): ∀s:Wr,(l.foldl wNum s).out.length≤s.out.length+6*l.length:=by
 induction l with
 | nil=>intro s;simp
 | cons n l ih=>intro s;have h1:=ih (wNum s n);have h2:=zau s n;simp only [List.foldl_cons,List.length_cons];omega
theorem zj2 (l:List Int): ∀s:Wr,(l.foldl wSgn s).out.length≤s.out.length+6*l.length:=by
 induction l with
 | nil=>intro s;simp
 | cons n l ih=>intro s;have h1:=ih (wSgn s n);have h2:=zti s n;simp only [List.foldl_cons,List.length_cons];omega
section
variable {B:Nat} {w0 w W W':World} {ss rs:List Res} {p:Nat} {v bv:Value} {s:Wr}
theorem zad {v:Value} {sz n k:Nat} {xs:List Value} (h:Own B w0 W rs) (e:rs[k]?=some (redR v sz n xs)):Reads W v sz n xs:=zf0 (h.get k e)
theorem zao {v:Value} {b:Bys} {k:Nat} (h:Own B w0 W rs) (e:rs[k]?=some (bysR v b)):Reads W v 1 b.length (bysC b):=owns_reads (zam (h.get k e))
theorem zxx {bs:Bys} {ok:Bool} (h:Own B w0 W (wrL p v s (bysR bv bs::ss))) (hl:s.out.length≤1000000000000) (hb:bs.length≤100000):
  Calls Tryz.prog 310 #[.pointer (some ⟨p,0,none⟩),bv,.bool ok] W fun e w'=>e= .returned (.tuple #[])∧ ∃v',Own B w0 w' (wrL p v' (wPut s bs ok) (bysR bv bs::ss)):=by
 obtain ⟨i0,hi,hz0,hz1,hz2⟩:=info_parts Tryz.infoU8;obtain ⟨out,bad⟩:=s;simp only at hl h;obtain ⟨ao,cap,rfl,-,-⟩:=zao (k:=1) h rfl;obtain ⟨bo,bcap,rfl,-,-⟩:=zao (k:=2) h rfl;have x0:W.cell? ⟨p,0,none⟩=some (.slice ao out.length cap):=zaa h.blk_out 0 rfl;have x1:W.cell? ⟨p,1,none⟩=some (.bool bad):=zaa h.blk_out 1 rfl;have z1:=zab h.blk_out 1;have HS: ∀b:Bool,Hid (Own B w0 (W.setCell ⟨p,1,none⟩ (.bool b)) (wrL p (.slice ao out.length cap) ⟨out,b⟩ (bysR (.slice bo bs.length bcap) bs::ss))):=fun b=>zq (Own.storeTo h 1 (.bool b) rfl);have HF:Hid (∀v' w',Own B w0 w' (wrL p (.slice ao out.length cap) ⟨out++bs,bad || !ok⟩ (bysR (.slice bo bs.length bcap) bs::ss))→Own B w0 (w'.setCell ⟨p,0,none⟩ v') (wB p v' (bad || !ok)::bysR (.slice ao out.length cap) (out++bs)::bysR (.slice bo bs.length bcap) bs::ss)):=zq (fun v' w' h'=>Own.storeTo h' 0 v' rfl);have H1:=HS (bad || !ok);have hone:=zfs bs;have H1b:=zq (zao (k:=2) H1.out rfl);have HW:Hid (wPut ⟨out,bad⟩ bs ok=⟨out++bs,bad || !ok⟩):=zq rfl;have x2:(W.setCell ⟨p,1,none⟩ (.bool (bad || !ok))).cell? ⟨p,0,none⟩=some (.slice ao out.length cap):=zaa H1.out.blk_out 0 rfl;clear h HS;cases bad<;>cases ok<;>(
  simp only [Bool.true_or,Bool.false_or,Bool.or_false,Bool.or_true,Bool.not_true,Bool.not_false] at*;go_enter Tryz.func310,Tryz.ntmps310
  go_wp2_with (at_builtin;refine zbx rfl (.tmp 21) (.tmp 22) 60 rfl 5 i0 (.int .u8 0) 1 1 Tryz.underlying60 hi hz0 hz1 hz2 rfl (by decide) H1.out 1 (.slice ao out.length cap) out.length (bysC out) rfl rfl (.slice bo bs.length bcap) bs.length (bysC bs) rfl H1b.out hone (by unfold maxLen;omega) (by omega) ?_)
  intro ao' cap' w2 h2;have x3:w2.cell? ⟨p,0,none⟩=some (.slice ao out.length cap):=zaa (h2.blkAt 0 rfl) 0 rfl;have z3:=zab (h2.blkAt 0 rfl) 0;have h3:Own B w0 w2 (wB p (.slice ao out.length cap) _::ownR 5 1 (.slice ao' (out.length+bs.length) cap') (out.length+bs.length) (bysC out++bysC bs)::bysR (.slice bo bs.length bcap) bs::ss):=h2;have H3:=zq (Own.storeTo h3 0 (.slice ao' (out.length+bs.length) cap') rfl);clear h2 h3 H1 H1b
  go_wp2_with fail
  refine bodyPost_end (results_none rfl _ _ _) rfl ?_;rw [HW.out];refine ⟨rfl,.slice ao' (out.length+bs.length) cap',?_⟩;have:=H3.out
  simpa [wrL,bysR,bysC,setIn] using this)
theorem zdd {α β:Type} (f:β→α→β): ∀(l:List α) (k:Nat) (hk:k<l.length) (s:β),(l.take (k+1)).foldl f s=f ((l.take k).foldl f s) l[k]
 | a::l,0,_,s=>rfl
 | a::l,k+1,h,s=>by simpa using zdd f l k (by simpa using h) (f s a)
theorem zph {l:List Int} {lv:Value} (h:Own B w0 W (wrL p v s (redR lv 1 l.length (intC l)::ss))) (hl:s.out.length+6*l.length≤1000000000000) (hll:l.length≤1000):
  Calls Tryz.prog 307 #[.pointer (some ⟨p,0,none⟩),lv] W fun e w'=>e= .returned (.tuple #[])∧ ∃v',Own B w0 w' (wrL p v' (l.foldl wNum s) (redR lv 1 l.length (intC l)::ss)):=by
 have H:=zq h;obtain ⟨ao,cap,rfl,hcap,-⟩:=zad (k:=2) h rfl;clear h;go_enter Tryz.func307,Tryz.ntmps307
 go_wp2_with fail
 go_loopw [8] (fun i wr=> ∃(k:Nat) (v:Value),i= .int .i64 k∧k≤l.length∧Hid (Own B w0 wr (wrL p v ((l.take k).foldl wNum s) (redR (.slice ao l.length cap) 1 l.length (intC l)::ss)))) (fun i _=>l.length-(intOf i).toNat)
 case atStart=>exact ⟨0,v,rfl,by omega,H⟩
 case round=>
  clear H;obtain ⟨k,v,rfl,hk,H⟩:=hrel;by_cases hlt:k<l.length
  ·have hkI:(k:Int)<(l.length:Int):=by omega
   have hk0:(0:Int)≤(k:Int):=by omega
   have hcI:(l.length:Int)≤(cap:Int):=by omega
   obtain ⟨ao',cap',e0,-,-,-,-,h5⟩:=zad (k:=2) H.out rfl;simp only [Value.slice.injEq,true_and] at e0;obtain ⟨rfl,-⟩:=e0;obtain ⟨b,o,rfl,-,hc⟩:=h5 (by omega);have r0:wr.cell? ⟨b,o+k,none⟩=some (.int .i64 l[k]):=by rw [hc k (by omega)];simp [hlt]
   have HN:=zq (zea l[k] H.out);have hlen:=zcu (l.take k) s;have hl2:((l.take k).foldl wNum s).out.length≤1000000000000:=by simp at hlen;omega
   have HP:Hid (∀v2 w2,Own B w0 w2 (bysR v2 (numX l[k])::wrL p v ((l.take k).foldl wNum s) (redR (.slice (some ⟨b,o,none⟩) l.length cap) 1 l.length (intC l)::ss))→Calls Tryz.prog 310 #[.pointer (some ⟨p,0,none⟩),v2,.bool (numOk l[k])] w2 fun e w'=>e= .returned (.tuple #[])∧ ∃v',Own B w0 w' (wrL p v' ((l.take (k+1)).foldl wNum s) (redR (.slice (some ⟨b,o,none⟩) l.length cap) 1 l.length (intC l)::ss))):=
    zq (fun v2 w2 h2=>(zxx h2.rot' hl2 (by have:=zdf l[k];omega)).mono (by
     rintro e w' ⟨rfl,v',h3⟩;refine ⟨rfl,v',?_⟩;rw [zdd _ _ _ hlt];exact h3.dropAt 2 (by simp)))
   clear hc h5 hl2 hlen H hk;generalize l[k]=n at*;generalize numOk n=ok at*
   go_wp2_with fail
   refine HN.out.mono ?_;rintro e w1 ⟨v2,rfl,h2⟩;have HP2:=zq (HP.out v2 w1 h2);clear h2 HN HP
   go_wp2_with fail
   refine HP2.out.mono ?_;rintro e w2 ⟨rfl,v3,h3⟩;have H3:=zq h3;clear h3 HP2 r0
   go_wp2_with fail
   go_roundw
   case rel=>exact ⟨k+1,v3,by go_num,by omega,H3⟩
   case measure=>simp [intOf];omega
  ·have hkI:decide ((k:Int)<(l.length:Int))=false:=by simp;omega
   have e:k=l.length:=by omega
   subst e
   go_wp2_with fail
   refine bodyPost_end (results_none rfl _ _ _) rfl ?_;have:=H.out;rw [List.take_length] at this;exact ⟨rfl,v,this⟩
theorem zpt {l:List Int} {lv:Value} (h:Own B w0 W (wrL p v s (redR lv 1 l.length (intC l)::ss))) (hl:s.out.length+6*l.length≤1000000000000) (hll:l.length≤1000):
  Calls Tryz.prog 308 #[.pointer (some ⟨p,0,none⟩),lv] W fun e w'=>e= .returned (.tuple #[])∧ ∃v',Own B w0 w' (wrL p v' (l.foldl wSgn s) (redR lv 1 l.length (intC l)::ss)):=by
 have H:=zq h;obtain ⟨ao,cap,rfl,hcap,-⟩:=zad (k:=2) h rfl;clear h;go_enter Tryz.func308,Tryz.ntmps308
 go_wp2_with fail
 go_loopw [8] (fun i wr=> ∃(k:Nat) (v:Value),i= .int .i64 k∧k≤l.length∧Hid (Own B w0 wr (wrL p v ((l.take k).foldl wSgn s) (redR (.slice ao l.length cap) 1 l.length (intC l)::ss)))) (fun i _=>l.length-(intOf i).toNat)
 case atStart=>exact ⟨0,v,rfl,by omega,H⟩
 case round=>
  clear H;obtain ⟨k,v,rfl,hk,H⟩:=hrel;by_cases hlt:k<l.length
  ·have hkI:(k:Int)<(l.length:Int):=by omega
   have hk0:(0:Int)≤(k:Int):=by omega
   have hcI:(l.length:Int)≤(cap:Int):=by omega
   obtain ⟨ao',cap',e0,-,-,-,-,h5⟩:=zad (k:=2) H.out rfl;simp only [Value.slice.injEq,true_and] at e0;obtain ⟨rfl,-⟩:=e0;obtain ⟨b,o,rfl,-,hc⟩:=h5 (by omega);have r0:wr.cell? ⟨b,o+k,none⟩=some (.int .i64 l[k]):=by rw [hc k (by omega)];simp [hlt]
   have HN:=zq (zqn l[k] H.out);have hlen:=zj2 (l.take k) s;have hl2:((l.take k).foldl wSgn s).out.length≤1000000000000:=by simp at hlen;omega
   have HP:Hid (∀v2 w2,Own B w0 w2 (bysR v2 (sgnX l[k])::wrL p v ((l.take k).foldl wSgn s) (redR (.slice (some ⟨b,o,none⟩) l.length cap) 1 l.length (intC l)::ss))→Calls Tryz.prog 310 #[.pointer (some ⟨p,0,none⟩),v2,.bool (sgnOk l[k])] w2 fun e w'=>e= .returned (.tuple #[])∧ ∃v',Own B w0 w' (wrL p v' ((l.take (k+1)).foldl wSgn s) (redR (.slice (some ⟨b,o,none⟩) l.length cap) 1 l.length (intC l)::ss))):=
    zq (fun v2 w2 h2=>(zxx h2.rot' hl2 (by have:=zmy l[k];omega)).mono (by
     rintro e w' ⟨rfl,v',h3⟩;refine ⟨rfl,v',?_⟩;rw [zdd _ _ _ hlt];exact h3.dropAt 2 (by simp)))
   clear hc h5 hl2 hlen H hk;generalize l[k]=n at*;generalize sgnOk n=ok at*
   go_wp2_with fail
   refine HN.out.mono ?_;rintro e w1 ⟨v2,rfl,h2⟩;have HP2:=zq (HP.out v2 w1 h2);clear h2 HN HP
   go_wp2_with fail
   refine HP2.out.mono ?_;rintro e w2 ⟨rfl,v3,h3⟩;have H3:=zq h3;clear h3 HP2 r0
   go_wp2_with fail
   go_roundw
   case rel=>exact ⟨k+1,v3,by go_num,by omega,H3⟩
   case measure=>simp [intOf];omega
  ·have hkI:decide ((k:Int)<(l.length:Int))=false:=by simp;omega
   have e:k=l.length:=by omega
   subst e
   go_wp2_with fail
   refine bodyPost_end (results_none rfl _ _ _) rfl ?_;have:=H.out;rw [List.take_length] at this;exact ⟨rfl,v,this⟩
end
abbrev rqO (r:Rq):Obj:= .cells #[.int .i64 r.client,.int .i64 r.time,.int .i64 r.kind,.int .i64 r.key,.int .i64 r.val,.int .i64 r.sl] 38 (0,0)
section
variable {B:Nat} {w0 w W W':World} {ss rs:List Res} {p:Nat} {v bv:Value} {s:Wr}
theorem zr7 (h:Own B w0 W rs) (cs:Array Value) (T:TypeId) (n:Nat) (hn:cs.size=n) (hm:n≤1000):Own B w0 (W.alloc (.cells cs T (0,0))) (redR (.slice (some ⟨W.heap.size,0,none⟩) n n) 1 n cs.toList::rs):=by
 refine (h.alloc (.cells cs T (0,0))).red (v:= .slice (some ⟨W.heap.size,0,none⟩) n n) ?_ (fun k hk=> ?_)
 ·refine ⟨_,n,rfl,Nat.le_refl _,by unfold maxLen;omega,by simp [hn],(fun e=>by cases e),fun _=>⟨W.heap.size,0,rfl,by simp,fun j hj=> ?_⟩⟩
  rw [zac (heap_alloc_new W _)];simp
 ·have:=zc8 hk
  simp [blkOf] at this;subst this;exact h.fresh (Nat.le_refl _)
theorem zbq (l:List Int) (cs:Array Value) (n:Nat) (h:Own B w0 W (wrL p v s ss)) (b:Nat) (hb:W.heap.size=b) (e:cs.toList=intC l) (hn:l.length=n) (hl:s.out.length+6*l.length≤1000000000000) (hll:l.length≤1000):
  Calls Tryz.prog 307 #[.pointer (some ⟨p,0,none⟩),.slice (some ⟨b,0,none⟩) n n] (W.alloc (.cells cs 3 (0,0))) fun e w'=>e= .returned (.tuple #[])∧ ∃v',Own B w0 w' (wrL p v' (l.foldl wNum s) ss):=by
 subst hn;subst hb;have hs:cs.size=l.length:=by rw [←Array.length_toList,e];simp
 have h1:=zr7 h cs 3 l.length hs hll;rw [e] at h1;refine (zph h1.rot' hl hll).mono ?_;rintro e w' ⟨rfl,v',h2⟩;exact ⟨rfl,v',h2.dropAt 2 (by simp)⟩
theorem zs2 (l:List Int) (cs:Array Value) (n:Nat) (h:Own B w0 W (wrL p v s ss)) (b:Nat) (hb:W.heap.size=b) (e:cs.toList=intC l) (hn:l.length=n) (hl:s.out.length+6*l.length≤1000000000000) (hll:l.length≤1000):
  Calls Tryz.prog 308 #[.pointer (some ⟨p,0,none⟩),.slice (some ⟨b,0,none⟩) n n] (W.alloc (.cells cs 3 (0,0))) fun e w'=>e= .returned (.tuple #[])∧ ∃v',Own B w0 w' (wrL p v' (l.foldl wSgn s) ss):=by
 subst hn;subst hb;have hs:cs.size=l.length:=by rw [←Array.length_toList,e];simp
 have h1:=zr7 h cs 3 l.length hs hll;rw [e] at h1;refine (zpt h1.rot' hl hll).mono ?_;rintro e w' ⟨rfl,v',h2⟩;exact ⟨rfl,v',h2.dropAt 2 (by simp)⟩
theorem zf3 (s:Wr) (r:Rq):(wReq s r).out.length≤s.out.length+36:=by
 have h1:=zcu [r.client,r.time,r.kind] s;have h2:=zj2 [r.key,r.val] ([r.client,r.time,r.kind].foldl wNum s);have h3:=zcu [r.sl] ([r.key,r.val].foldl wSgn ([r.client,r.time,r.kind].foldl wNum s));simp only [List.length_cons,List.length_nil] at h1 h2 h3;have e:wReq s r=[r.sl].foldl wNum ([r.key,r.val].foldl wSgn ([r.client,r.time,r.kind].foldl wNum s)):=rfl;rw [e];omega
theorem zcv (s:Wr) (x:Int×Int):(wVote s x).out.length≤s.out.length+12:=zcu [x.1,x.2] s
theorem ztl (r:Rq) (h:Own B w0 W (wrL p v s ss)) (hl:s.out.length≤100000000000):
  Calls Tryz.prog 296 #[.pointer (some ⟨p,0,none⟩),.agg #[.int .i64 r.client,.int .i64 r.time,.int .i64 r.kind,.int .i64 r.key,.int .i64 r.val,.int .i64 r.sl]] W fun e w'=>e= .returned (.tuple #[])∧ ∃v',Own B w0 w' (wrL p v' (wReq s r) ss):=by
 have h1:Own B w0 (W.alloc (rqO r)) (wrL p v s (blk W.heap.size (rqO r)::ss)):=(h.box (rqO r)).rot';have H1:=zq h1;have hb:=h1.blkAt 2 rfl;have x0:=zaa hb 0 rfl;have x1:=zaa hb 1 rfl;have x2:=zaa hb 2 rfl;have HE:Hid (wReq s r=[r.sl].foldl wNum ([r.key,r.val].foldl wSgn ([r.client,r.time,r.kind].foldl wNum s))):=zq rfl;have g1:=zcu [r.client,r.time,r.kind] s;have g2:=zj2 [r.key,r.val] ([r.client,r.time,r.kind].foldl wNum s);have HN:=zq (zbq [r.client,r.time,r.kind] #[.int .i64 r.client,.int .i64 r.time,.int .i64 r.kind] 3 h1 (W.heap.size+1) zav rfl rfl (by simp;omega) (by simp));simp only [List.length_cons,List.length_nil] at g1 g2;generalize [r.client,r.time,r.kind].foldl wNum s=s1 at*;clear h h1 hb;unfold rqO at*;go_enter Tryz.func296,Tryz.ntmps296
 go_wp2_with fail
 refine HN.out.mono ?_;rintro e w1 ⟨rfl,v1,h2⟩;have hb:=h2.blkAt 2 rfl;have y3:=zaa hb 3 rfl;have y4:=zaa hb 4 rfl;have HN2:=zq (zs2 [r.key,r.val] #[.int .i64 r.key,.int .i64 r.val] 2 h2 w1.heap.size rfl rfl rfl (by simp;omega) (by simp));generalize [r.key,r.val].foldl wSgn s1=s2 at*;clear h2 hb HN H1 x0 x1 x2
 go_wp2_with fail
 refine HN2.out.mono ?_;rintro e w2 ⟨rfl,v2,h3⟩;have hb:=h3.blkAt 2 rfl;have y5:=zaa hb 5 rfl;have HN3:=zq (zbq [r.sl] #[.int .i64 r.sl] 1 h3 w2.heap.size rfl rfl rfl (by simp;omega) (by simp));clear h3 hb HN2 y3 y4
 go_wp2_with fail
 refine HN3.out.mono ?_;rintro e w3 ⟨rfl,v3,h4⟩;have H4:=zq h4;clear h4 HN3
 go_wp2_with fail
 refine bodyPost_end (results_none rfl _ _ _) rfl ?_;rw [HE.out];exact ⟨rfl,v3,H4.out.dropAt 2 (by simp)⟩
theorem zwu (x:Int×Int) (h:Own B w0 W (wrL p v s ss)) (hl:s.out.length≤100000000000):
  Calls Tryz.prog 299 #[.pointer (some ⟨p,0,none⟩),.agg #[.int .i64 x.1,.int .i64 x.2]] W fun e w'=>e= .returned (.tuple #[])∧ ∃v',Own B w0 w' (wrL p v' (wVote s x) ss):=by
 have h1:Own B w0 (W.alloc (.cells #[.int .i64 x.1,.int .i64 x.2] 177 (0,0))) (wrL p v s (blk W.heap.size (.cells #[.int .i64 x.1,.int .i64 x.2] 177 (0,0))::ss)):=(h.box _).rot';have H1:=zq h1;have hb:=h1.blkAt 2 rfl;have x0:=zaa hb 0 rfl;have x1:=zaa hb 1 rfl;have HN:=zq (zbq [x.1,x.2] #[.int .i64 x.1,.int .i64 x.2] 2 h1 (W.heap.size+1) zav rfl rfl (by simp;omega) (by simp));clear h h1 hb;go_enter Tryz.func299,Tryz.ntmps299
 go_wp2_with fail
 refine HN.out.mono ?_;rintro e w1 ⟨rfl,v1,h2⟩;have H2:=zq h2;clear h2 HN H1
 go_wp2_with fail
 refine bodyPost_end (results_none rfl _ _ _) rfl ?_;exact ⟨rfl,v1,H2.out.dropAt 2 (by simp)⟩
end
def wList {α:Type} (one:Wr→α→Wr) (s:Wr) (l:List α):Wr:=if 256<l.length then ⟨s.out,true⟩ else l.foldl one (wNum s l.length)
def wCert (s:Wr) (c:Cp):Wr:=wList wVote (wList wReq (wNum (wNum (wNum s c.view) c.inst) c.seq) c.rs) c.vs
def wPart (s:Wr) (p:Pa):Wr:=wNum (wList wCert (wList wVote (wNum s p.fm) p.vs) p.cs) p.sl
theorem zfw {α:Type} (one:Wr→α→Wr) (K:Nat) (h: ∀s x,(one s x).out.length≤s.out.length+K): ∀(l:List α) (s:Wr),(l.foldl one s).out.length≤s.out.length+K*l.length
 | [],s=>by simp
 | x::l,s=>by have h1:=zfw one K h l (one s x);have h2:=h s x;rw [List.foldl_cons,List.length_cons,Nat.mul_add];omega
theorem zcj {α:Type} (one:Wr→α→Wr) (K:Nat) (h: ∀s x,(one s x).out.length≤s.out.length+K) (l:List α) (s:Wr):(wList one s l).out.length≤s.out.length+6+K*256:=by
 unfold wList;split
 ·simp;omega
 ·have h1:=zfw one K h l (wNum s l.length)
  have h2:=zau s l.length;have h3:K*l.length≤K*256:=Nat.mul_le_mul_left _ (by omega);omega
theorem zgt (s:Wr) (c:Cp):(wCert s c).out.length≤s.out.length+12318:=by
 have h1:=zcj wVote 12 zcv c.vs (wList wReq (wNum (wNum (wNum s c.view) c.inst) c.seq) c.rs);have h2:=zcj wReq 36 zf3 c.rs (wNum (wNum (wNum s c.view) c.inst) c.seq);have h3:=zcu [c.view,c.inst,c.seq] s;simp only [List.foldl_cons,List.foldl_nil,List.length_cons,List.length_nil] at h3;unfold wCert;omega
theorem zom (s:Wr) (p:Pa):(wPart s p).out.length≤s.out.length+3156510:=by
 have h0:=zau s p.fm;have h1:=zcj wVote 12 zcv p.vs (wNum s p.fm);have h2:=zcj wCert 12318 zgt p.cs (wList wVote (wNum s p.fm) p.vs);have h3:=zau (wList wCert (wList wVote (wNum s p.fm) p.vs) p.cs) p.sl;unfold wPart;omega
section
variable {B:Nat} {w0 w W W':World} {ss rs:List Res} {p:Nat} {v bv:Value} {s:Wr}
theorem zig {a b c d:Res} (h:Own B w0 W (a::b::c::d::rs)):Own B w0 W (c::d::a::b::rs):=((h.front 2 rfl rfl).front 3 rfl rfl).swap
theorem zn5 {a b e c d:Res} (h:Own B w0 W (a::b::e::c::d::rs)):Own B w0 W (c::d::a::b::e::rs):=((h.front 3 rfl rfl).front 4 rfl rfl).swap
theorem zjb {r:Res} (h:r.M=[]):Go.Heap.Ms (r::rs)=Go.Heap.Ms rs:=by simp [Go.Heap.Ms,h]
theorem zqr (h:Own B w0 W rs) (k:Nat) {cts:List Ct} (e:rs[k]?=some (ctsR cts)) {c:Ct} (hc:c∈cts):Own B w0 W (redR c.vb 6 c.rs.length (zak c.rs)::redR c.vv 2 c.vs.length (zaf c.vs)::rs):=by
 obtain ⟨D,⟨h1,hlt⟩,h2,h3⟩:=h.get k e;have g1:Own B w0 W (redR c.vv 2 c.vs.length (zaf c.vs)::rs):=h.new (Upd.refl [] _) ⟨D,⟨(h1 c hc).v,hlt⟩,h2,h3⟩ (by simp [redR,imm]);refine g1.new (Upd.refl [] _) ⟨D,⟨(h1 c hc).b,hlt⟩,?_,?_⟩ (by simp [redR,imm])
 ·rw [zjb rfl];exact h2
 ·rw [zjb rfl];exact h3
theorem zqq (h:Own B w0 W rs) (k:Nat) {cts:List Ct} (e:rs[k]?=some (ctsR cts)) {c:Ct} (hc:c∈cts):c.rs.length≤100000∧c.vs.length≤100000:=by
 obtain ⟨D,⟨h1,hlt⟩,h2,h3⟩:=h.get k e;exact ⟨(h1 c hc).bn,(h1 c hc).vn⟩
theorem zsn (h:Own B w0 W rs) (k:Nat) {pts:List Pt} (e:rs[k]?=some (ptsR pts)) {c:Pt} (hc:c∈pts):Own B w0 W (redR c.vv 2 c.vs.length (zaf c.vs)::redR c.cv 5 c.cts.length (c.cts.flatMap zag)::ctsR c.cts::rs):=by
 obtain ⟨D,⟨h1,hlt⟩,h2,h3⟩:=h.get k e;have g1:Own B w0 W (ctsR c.cts::rs):=h.new (Upd.refl [] _) ⟨D,⟨(h1 c hc).cs,hlt⟩,h2,h3⟩ (by simp [ctsR,imm]);have g2:Own B w0 W (redR c.cv 5 c.cts.length (c.cts.flatMap zag)::ctsR c.cts::rs):=by
  refine g1.new (Upd.refl [] _) ⟨D,⟨(h1 c hc).c,hlt⟩,?_,?_⟩ (by simp [redR,imm])
  ·rw [zjb rfl];exact h2
  ·rw [zjb rfl];exact h3
 refine g2.new (Upd.refl [] _) ⟨D,⟨(h1 c hc).v,hlt⟩,?_,?_⟩ (by simp [redR,imm])
 ·rw [zjb rfl,zjb rfl];exact h2
 ·rw [zjb rfl,zjb rfl];exact h3
theorem zsm (h:Own B w0 W rs) (k:Nat) {pts:List Pt} (e:rs[k]?=some (ptsR pts)) {c:Pt} (hc:c∈pts):c.vs.length≤100000∧c.cts.length≤100000:=by
 obtain ⟨D,⟨h1,hlt⟩,h2,h3⟩:=h.get k e;exact ⟨(h1 c hc).vn,(h1 c hc).cn⟩
theorem zpc {l:List (Rq)} {lv:Value} (h:Own B w0 W (wrL p v s (redR lv 6 l.length (zak l)::ss))) (hb:256<l.length) (g:Value):
  Calls Tryz.prog 295 #[.pointer (some ⟨p,0,none⟩),lv,g] W fun e w'=>e= .returned (.tuple #[])∧ ∃v',Own B w0 w' (wrL p v' (wList wReq s l) (redR lv 6 l.length (zak l)::ss)):=by
 have hk:(256:Int)<(l.length:Int):=by omega
 have x1:W.cell? ⟨p,1,none⟩=some (.bool s.bad):=zaa h.blk_out 1 rfl;have z1:=zab h.blk_out 1;have HE:=zq (show Own B w0 (W.setCell ⟨p,1,none⟩ (.bool true)) (wrL p v (wList wReq s l) (redR lv 6 l.length (zak l)::ss)) by
  unfold wList;rw [if_pos (by simpa using hb)];exact Own.storeTo h 1 (.bool true) rfl)
 obtain ⟨ao,cap,rfl,hcap,-⟩:=zad (k:=2) h rfl;clear h hb;go_enter Tryz.func295,Tryz.ntmps295
 go_wp2_with fail
 refine bodyPost_ret (results_none rfl _ _ _) rfl ?_;exact ⟨rfl,v,HE.out⟩
theorem zid {l:List (Rq)} {lv:Value} (h:Own B w0 W (wrL p v s (redR lv 6 l.length (zak l)::ss))) (hn:l.length≤100000) (hl:s.out.length≤50000000000):
  Calls Tryz.prog 295 #[.pointer (some ⟨p,0,none⟩),lv,.func (.func 296) #[] #[]] W fun e w'=>e= .returned (.tuple #[])∧ ∃v',Own B w0 w' (wrL p v' (wList wReq s l) (redR lv 6 l.length (zak l)::ss)):=by
 by_cases hb:256<l.length
 ·exact zpc h hb _
 have hk:decide ((256:Int)<(l.length:Int))=false:=by simp;omega
 have HE:Hid (wList wReq s l=l.foldl wReq (wNum s l.length)):=zq (by unfold wList;rw [if_neg (by simpa using hb)];first | done | simp)
 have HN:=zq (zbq [(l.length:Int)] #[.int .i64 l.length] 1 h W.heap.size rfl rfl rfl (by simp;omega) (by simp));have hg:(wNum s l.length).out.length≤s.out.length+6:=zau s l.length;simp only [List.foldl_cons,List.foldl_nil] at HN;obtain ⟨ao,cap,rfl,hcap,-⟩:=zad (k:=2) h rfl;generalize wNum s l.length=s1 at*;clear h;go_enter Tryz.func295,Tryz.ntmps295
 go_wp2_with fail
 refine HN.out.mono ?_;rintro e w1 ⟨rfl,v1,h2⟩;have H:=zq h2;clear h2 HN
 go_wp2_with fail
 go_loopw [21] (fun i wr=> ∃(k:Nat) (v:Value),i= .int .i64 k∧k≤l.length∧Hid (Own B w0 wr (wrL p v ((l.take k).foldl wReq s1) (redR (.slice ao l.length cap) 6 l.length (zak l)::ss)))) (fun i _=>l.length-(intOf i).toNat)
 case atStart=>exact ⟨0,v1,rfl,by omega,H⟩
 case round=>
  clear H;obtain ⟨k,v,rfl,hk2,H⟩:=hrel;by_cases hlt:k<l.length
  ·have hkI:(k:Int)<(l.length:Int):=by omega
   have hk0:(0:Int)≤(k:Int):=by omega
   have hcI:(l.length:Int)≤(cap:Int):=by omega
   obtain ⟨ao',cap',e0,-,-,-,-,h5⟩:=zad (k:=2) H.out rfl;simp only [Value.slice.injEq,true_and] at e0;obtain ⟨rfl,-⟩:=e0;obtain ⟨b,o,rfl,-,hc⟩:=h5 (by omega);obtain ⟨q0,q1,q2,q3,q4,q5⟩:=zb4 hc k l[k] (by simp);have hlen:=zfw wReq 36 zf3 (l.take k) s1;have hm:min k l.length=k:=by omega
   rw [List.length_take,hm] at hlen;have HC:=zq (ztl l[k] (H.out.alloc (rqBox l[k])) (by have:=Nat.mul_le_mul_left 36 (show k≤256 by omega);omega));have HS:=zq (zdd wReq l k (by simpa using hlt) s1);clear hc h5 H hlen;generalize l[k]=x at*
   go_wp2_with fail
   refine HC.out.mono ?_;rintro e w2 ⟨rfl,v2,h3⟩;have H3:Hid (Own B w0 w2 (wrL p v2 ((l.take (k+1)).foldl wReq s1) (redR (.slice (some ⟨b,o,none⟩) l.length cap) 6 l.length (zak l)::ss))):=zq (by rw [HS.out];simpa using h3);clear h3 HC
   go_wp2_with fail
   go_roundw
   case rel=>exact ⟨k+1,v2,by go_num,by omega,H3⟩
   case measure=>simp [intOf];omega
  ·have hkI:decide ((k:Int)<(l.length:Int))=false:=by simp;omega
   have e:k=l.length:=by omega
   subst e
   go_wp2_with fail
   refine bodyPost_end (results_none rfl _ _ _) rfl ?_;have:=H.out;rw [List.take_of_length_le (by simp)] at this;rw [HE.out];exact ⟨rfl,v,this⟩
theorem zl9 {l:List (Int×Int)} {lv:Value} (h:Own B w0 W (wrL p v s (redR lv 2 l.length (zaf l)::ss))) (hb:256<l.length) (g:Value):
  Calls Tryz.prog 298 #[.pointer (some ⟨p,0,none⟩),lv,g] W fun e w'=>e= .returned (.tuple #[])∧ ∃v',Own B w0 w' (wrL p v' (wList wVote s l) (redR lv 2 l.length (zaf l)::ss)):=by
 have hk:(256:Int)<(l.length:Int):=by omega
 have x1:W.cell? ⟨p,1,none⟩=some (.bool s.bad):=zaa h.blk_out 1 rfl;have z1:=zab h.blk_out 1;have HE:=zq (show Own B w0 (W.setCell ⟨p,1,none⟩ (.bool true)) (wrL p v (wList wVote s l) (redR lv 2 l.length (zaf l)::ss)) by
  unfold wList;rw [if_pos (by simpa using hb)];exact Own.storeTo h 1 (.bool true) rfl)
 obtain ⟨ao,cap,rfl,hcap,-⟩:=zad (k:=2) h rfl;clear h hb;go_enter Tryz.func298,Tryz.ntmps298
 go_wp2_with fail
 refine bodyPost_ret (results_none rfl _ _ _) rfl ?_;exact ⟨rfl,v,HE.out⟩
theorem ze3 {l:List (Int×Int)} {lv:Value} (h:Own B w0 W (wrL p v s (redR lv 2 l.length (zaf l)::ss))) (hn:l.length≤100000) (hl:s.out.length≤50000000000):
  Calls Tryz.prog 298 #[.pointer (some ⟨p,0,none⟩),lv,.func (.func 299) #[] #[]] W fun e w'=>e= .returned (.tuple #[])∧ ∃v',Own B w0 w' (wrL p v' (wList wVote s l) (redR lv 2 l.length (zaf l)::ss)):=by
 by_cases hb:256<l.length
 ·exact zl9 h hb _
 have hk:decide ((256:Int)<(l.length:Int))=false:=by simp;omega
 have HE:Hid (wList wVote s l=l.foldl wVote (wNum s l.length)):=zq (by unfold wList;rw [if_neg (by simpa using hb)];first | done | simp)
 have HN:=zq (zbq [(l.length:Int)] #[.int .i64 l.length] 1 h W.heap.size rfl rfl rfl (by simp;omega) (by simp));have hg:(wNum s l.length).out.length≤s.out.length+6:=zau s l.length;simp only [List.foldl_cons,List.foldl_nil] at HN;obtain ⟨ao,cap,rfl,hcap,-⟩:=zad (k:=2) h rfl;generalize wNum s l.length=s1 at*;clear h;go_enter Tryz.func298,Tryz.ntmps298
 go_wp2_with fail
 refine HN.out.mono ?_;rintro e w1 ⟨rfl,v1,h2⟩;have H:=zq h2;clear h2 HN
 go_wp2_with fail
 go_loopw [21] (fun i wr=> ∃(k:Nat) (v:Value),i= .int .i64 k∧k≤l.length∧Hid (Own B w0 wr (wrL p v ((l.take k).foldl wVote s1) (redR (.slice ao l.length cap) 2 l.length (zaf l)::ss)))) (fun i _=>l.length-(intOf i).toNat)
 case atStart=>exact ⟨0,v1,rfl,by omega,H⟩
 case round=>
  clear H;obtain ⟨k,v,rfl,hk2,H⟩:=hrel;by_cases hlt:k<l.length
  ·have hkI:(k:Int)<(l.length:Int):=by omega
   have hk0:(0:Int)≤(k:Int):=by omega
   have hcI:(l.length:Int)≤(cap:Int):=by omega
   obtain ⟨ao',cap',e0,-,-,-,-,h5⟩:=zad (k:=2) H.out rfl;simp only [Value.slice.injEq,true_and] at e0;obtain ⟨rfl,-⟩:=e0;obtain ⟨b,o,rfl,-,hc⟩:=h5 (by omega);obtain ⟨q0,q1⟩:=zfm hc k l[k] (by simp);have hlen:=zfw wVote 12 zcv (l.take k) s1;have hm:min k l.length=k:=by omega
   rw [List.length_take,hm] at hlen;have HC:=zq (zwu l[k] (H.out.alloc (.cells #[.int .i64 l[k].1,.int .i64 l[k].2] 177 (0,0))) (by have:=Nat.mul_le_mul_left 12 (show k≤256 by omega);omega));have HS:=zq (zdd wVote l k (by simpa using hlt) s1);clear hc h5 H hlen;generalize l[k]=x at*
   go_wp2_with fail
   refine HC.out.mono ?_;rintro e w2 ⟨rfl,v2,h3⟩;have H3:Hid (Own B w0 w2 (wrL p v2 ((l.take (k+1)).foldl wVote s1) (redR (.slice (some ⟨b,o,none⟩) l.length cap) 2 l.length (zaf l)::ss))):=zq (by rw [HS.out];simpa using h3);clear h3 HC
   go_wp2_with fail
   go_roundw
   case rel=>exact ⟨k+1,v2,by go_num,by omega,H3⟩
   case measure=>simp [intOf];omega
  ·have hkI:decide ((k:Int)<(l.length:Int))=false:=by simp;omega
   have e:k=l.length:=by omega
   subst e
   go_wp2_with fail
   refine bodyPost_end (results_none rfl _ _ _) rfl ?_;have:=H.out;rw [List.take_of_length_le (by simp)] at this;rw [HE.out];exact ⟨rfl,v,this⟩
theorem zws (c:Ct) (h:Own B w0 W (wrL p v s (redR c.vb 6 c.rs.length (zak c.rs)::redR c.vv 2 c.vs.length (zaf c.vs)::ss))) (hr:c.rs.length≤100000) (hv:c.vs.length≤100000) (hl:s.out.length≤40000000000):
  Calls Tryz.prog 301 #[.pointer (some ⟨p,0,none⟩),ctAgg c] W fun e w'=>e= .returned (.tuple #[])∧ ∃v',Own B w0 w' (wrL p v' (wCert s c.cp) (redR c.vb 6 c.rs.length (zak c.rs)::redR c.vv 2 c.vs.length (zaf c.vs)::ss)):=by
 obtain ⟨view,inst,seq,vb,vv,rs,vs⟩:=c;simp only [Ct.cp] at h hr hv⊢;obtain ⟨a1,c1,rfl,-,-⟩:=zad (k:=2) h rfl;obtain ⟨a2,c2,rfl,-,-⟩:=zad (k:=3) h rfl;have h1:Own B w0 (W.alloc (ctO view inst seq (.slice a1 rs.length c1) (.slice a2 vs.length c2))) (wrL p v s (blk W.heap.size (ctO view inst seq (.slice a1 rs.length c1) (.slice a2 vs.length c2))::redR (.slice a1 rs.length c1) 6 rs.length (zak rs)::redR (.slice a2 vs.length c2) 2 vs.length (zaf vs)::ss)):=(h.box _).rot';have hb:=h1.blkAt 2 rfl;have x0:=zaa hb 0 rfl;have x1:=zaa hb 1 rfl;have x2:=zaa hb 2 rfl;have HE:Hid (wCert s ⟨view,inst,seq,rs,vs⟩=wList wVote (wList wReq ([view,inst,seq].foldl wNum s) rs) vs):=zq rfl;have g1:=zcu [view,inst,seq] s;have HN:=zq (zbq [view,inst,seq] #[.int .i64 view,.int .i64 inst,.int .i64 seq] 3 h1 (W.heap.size+1) zav rfl rfl (by simp;omega) (by simp));simp only [List.length_cons,List.length_nil] at g1;generalize [view,inst,seq].foldl wNum s=s1 at*;clear h h1 hb;go_enter Tryz.func301,Tryz.ntmps301
 go_wp2_with fail
 refine HN.out.mono ?_;rintro e w1 ⟨rfl,v1,h2⟩;have y3:=zaa (h2.blkAt 2 rfl) 3 rfl;have HC:=zq (zid ((h2.front 3 rfl rfl).rot') hr (by omega));have g2:=zcj wReq 36 zf3 rs s1;generalize wList wReq s1 rs=s2 at*;clear h2 HN x0 x1 x2
 go_wp2_with fail
 refine HC.out.mono ?_;rintro e w2 ⟨rfl,v2,h3⟩;have y4:=zaa (h3.blkAt 3 rfl) 4 rfl;have HV:=zq (ze3 ((h3.front 4 rfl rfl).rot') hv (by omega));clear h3 HC y3
 go_wp2_with fail
 refine HV.out.mono ?_;rintro e w3 ⟨rfl,v3,h4⟩;have H4:=zq h4;clear h4 HV y4
 go_wp2_with fail
 refine bodyPost_end (results_none rfl _ _ _) rfl ?_;rw [HE.out];exact ⟨rfl,v3,((H4.out.dropAt 4 (by simp)).front 3 rfl rfl).rot'⟩
theorem zl6 {l:List (Ct)} {lv:Value} (h:Own B w0 W (wrL p v s (redR lv 5 l.length (l.flatMap zag)::ctsR l::ss))) (hb:256<l.length) (g:Value):
  Calls Tryz.prog 300 #[.pointer (some ⟨p,0,none⟩),lv,g] W fun e w'=>e= .returned (.tuple #[])∧ ∃v',Own B w0 w' (wrL p v' (wList wCert s (l.map Ct.cp)) (redR lv 5 l.length (l.flatMap zag)::ctsR l::ss)):=by
 have hk:(256:Int)<(l.length:Int):=by omega
 have x1:W.cell? ⟨p,1,none⟩=some (.bool s.bad):=zaa h.blk_out 1 rfl;have z1:=zab h.blk_out 1;have HE:=zq (show Own B w0 (W.setCell ⟨p,1,none⟩ (.bool true)) (wrL p v (wList wCert s (l.map Ct.cp)) (redR lv 5 l.length (l.flatMap zag)::ctsR l::ss)) by
  unfold wList;rw [if_pos (by simpa using hb)];exact Own.storeTo h 1 (.bool true) rfl)
 obtain ⟨ao,cap,rfl,hcap,-⟩:=zad (k:=2) h rfl;clear h hb;go_enter Tryz.func300,Tryz.ntmps300
 go_wp2_with fail
 refine bodyPost_ret (results_none rfl _ _ _) rfl ?_;exact ⟨rfl,v,HE.out⟩
theorem zg6 {l:List (Ct)} {lv:Value} (h:Own B w0 W (wrL p v s (redR lv 5 l.length (l.flatMap zag)::ctsR l::ss))) (hn:l.length≤100000) (hl:s.out.length≤30000000000):
  Calls Tryz.prog 300 #[.pointer (some ⟨p,0,none⟩),lv,.func (.func 301) #[] #[]] W fun e w'=>e= .returned (.tuple #[])∧ ∃v',Own B w0 w' (wrL p v' (wList wCert s (l.map Ct.cp)) (redR lv 5 l.length (l.flatMap zag)::ctsR l::ss)):=by
 by_cases hb:256<l.length
 ·exact zl6 h hb _
 have hk:decide ((256:Int)<(l.length:Int))=false:=by simp;omega
 have HE:Hid (wList wCert s (l.map Ct.cp)=(l.map Ct.cp).foldl wCert (wNum s l.length)):=zq (by unfold wList;rw [if_neg (by simpa using hb)];first | done | simp)
 have HN:=zq (zbq [(l.length:Int)] #[.int .i64 l.length] 1 h W.heap.size rfl rfl rfl (by simp;omega) (by simp));have hg:(wNum s l.length).out.length≤s.out.length+6:=zau s l.length;simp only [List.foldl_cons,List.foldl_nil] at HN;obtain ⟨ao,cap,rfl,hcap,-⟩:=zad (k:=2) h rfl;generalize wNum s l.length=s1 at*;clear h;go_enter Tryz.func300,Tryz.ntmps300
 go_wp2_with fail
 refine HN.out.mono ?_;rintro e w1 ⟨rfl,v1,h2⟩;have H:=zq h2;clear h2 HN
 go_wp2_with fail
 go_loopw [21] (fun i wr=> ∃(k:Nat) (v:Value),i= .int .i64 k∧k≤l.length∧Hid (Own B w0 wr (wrL p v (((l.map Ct.cp).take k).foldl wCert s1) (redR (.slice ao l.length cap) 5 l.length (l.flatMap zag)::ctsR l::ss)))) (fun i _=>l.length-(intOf i).toNat)
 case atStart=>exact ⟨0,v1,rfl,by omega,H⟩
 case round=>
  clear H;obtain ⟨k,v,rfl,hk2,H⟩:=hrel;by_cases hlt:k<l.length
  ·have hkI:(k:Int)<(l.length:Int):=by omega
   have hk0:(0:Int)≤(k:Int):=by omega
   have hcI:(l.length:Int)≤(cap:Int):=by omega
   obtain ⟨ao',cap',e0,-,-,-,-,h5⟩:=zad (k:=2) H.out rfl;simp only [Value.slice.injEq,true_and] at e0;obtain ⟨rfl,-⟩:=e0;obtain ⟨b,o,rfl,-,hc⟩:=h5 (by omega);have hj: ∀j,j<5→wr.cell? ⟨b,o+k*5+j,none⟩=(zag l[k])[j]?:=fun j hj=>by
    rw [Nat.add_assoc,hc _ (by omega),zd4 zag 5 (fun _=>rfl) l k j hlt hj]
   have q0:=hj 0 (by omega);have q1:=hj 1 (by omega);have q2:=hj 2 (by omega);have q3:=hj 3 (by omega);have q4:=hj 4 (by omega);have hlen:=zfw wCert 12318 zgt ((l.map Ct.cp).take k) s1;have hm:min k l.length=k:=by omega
   rw [List.length_take,List.length_map,hm] at hlen;have hp:=zqr H.out 3 rfl (List.getElem_mem hlt);have hle:=zqq H.out 3 rfl (List.getElem_mem hlt);have hmap:(l.map Ct.cp)[k]'(by simpa using hlt)=l[k].cp:=by simp
   have HS:=zq (zdd wCert (l.map Ct.cp) k (by simpa using hlt) s1);rw [hmap] at HS;clear hc h5 hj hmap;generalize hx:l[k]=x at*;clear hx;obtain ⟨xview,xinst,xseq,xvb,xvv,xrs,xvs⟩:=x;simp only [Ct.cp] at HS hp hle;obtain ⟨bo1,bc1,rfl,-,-⟩:=zad (k:=0) hp rfl;obtain ⟨bo2,bc2,rfl,-,-⟩:=zad (k:=1) hp rfl;have HC:=zq (zws ⟨xview,xinst,xseq,.slice bo1 xrs.length bc1,.slice bo2 xvs.length bc2,xrs,xvs⟩ ((zig hp).alloc (ctO xview xinst xseq (.slice bo1 xrs.length bc1) (.slice bo2 xvs.length bc2))) hle.1 hle.2 (by have:=Nat.mul_le_mul_left 12318 (show k≤256 by omega);omega));clear hp H;simp only [zag,List.getElem?_cons_zero,List.getElem?_cons_succ,Nat.add_zero] at q0 q1 q2 q3 q4
   go_wp2_with fail
   refine HC.out.mono ?_;rintro e w2 ⟨rfl,v2,h3⟩;have H3:Hid (Own B w0 w2 (wrL p v2 (((l.map Ct.cp).take (k+1)).foldl wCert s1) (redR (.slice (some ⟨b,o,none⟩) l.length cap) 5 l.length (l.flatMap zag)::ctsR l::ss))):=zq (by rw [HS.out];exact (h3.dropAt 2 (by simp)).dropAt 2 (by simp));clear h3 HC
   go_wp2_with fail
   go_roundw
   case rel=>exact ⟨k+1,v2,by go_num,by omega,H3⟩
   case measure=>simp [intOf];omega
  ·have hkI:decide ((k:Int)<(l.length:Int))=false:=by simp;omega
   have e:k=l.length:=by omega
   subst e
   go_wp2_with fail
   refine bodyPost_end (results_none rfl _ _ _) rfl ?_;have:=H.out;rw [List.take_of_length_le (by simp)] at this;rw [HE.out];exact ⟨rfl,v,this⟩
theorem zwt (c:Pt) (h:Own B w0 W (wrL p v s (redR c.vv 2 c.vs.length (zaf c.vs)::redR c.cv 5 c.cts.length (c.cts.flatMap zag)::ctsR c.cts::ss))) (hr:c.vs.length≤100000) (hv:c.cts.length≤100000) (hl:s.out.length≤20000000000):
  Calls Tryz.prog 303 #[.pointer (some ⟨p,0,none⟩),ptAgg c] W fun e w'=>e= .returned (.tuple #[])∧ ∃v',Own B w0 w' (wrL p v' (wPart s c.pa) (redR c.vv 2 c.vs.length (zaf c.vs)::redR c.cv 5 c.cts.length (c.cts.flatMap zag)::ctsR c.cts::ss)):=by
 obtain ⟨fm,vv,vs,cv,cts,sl⟩:=c;simp only [Pt.pa] at h hr hv⊢;obtain ⟨a1,c1,rfl,-,-⟩:=zad (k:=2) h rfl;obtain ⟨a2,c2,rfl,-,-⟩:=zad (k:=3) h rfl;have h1:Own B w0 (W.alloc (.cells #[.int .i64 fm,.slice a1 vs.length c1,.slice a2 cts.length c2,.int .i64 sl] 49 (0,0))) (wrL p v s (blk W.heap.size (.cells #[.int .i64 fm,.slice a1 vs.length c1,.slice a2 cts.length c2,.int .i64 sl] 49 (0,0))::redR (.slice a1 vs.length c1) 2 vs.length (zaf vs)::redR (.slice a2 cts.length c2) 5 cts.length (cts.flatMap zag)::ctsR cts::ss)):=(h.box _).rot';have x0:=zaa (h1.blkAt 2 rfl) 0 rfl;have HE:Hid (wPart s ⟨fm,vs,cts.map Ct.cp,sl⟩=[sl].foldl wNum (wList wCert (wList wVote ([fm].foldl wNum s) vs) (cts.map Ct.cp))):=zq rfl;have g1:=zcu [fm] s;have HN:=zq (zbq [fm] #[.int .i64 fm] 1 h1 (W.heap.size+1) zav rfl rfl (by simp;omega) (by simp));simp only [List.length_cons,List.length_nil] at g1;generalize [fm].foldl wNum s=s1 at*;clear h h1;go_enter Tryz.func303,Tryz.ntmps303
 go_wp2_with fail
 refine HN.out.mono ?_;rintro e w1 ⟨rfl,v1,h2⟩;have y1:=zaa (h2.blkAt 2 rfl) 1 rfl;have HC:=zq (ze3 ((h2.front 3 rfl rfl).rot') hr (by omega));have g2:=zcj wVote 12 zcv vs s1;generalize wList wVote s1 vs=s2 at*;clear h2 HN x0
 go_wp2_with fail
 refine HC.out.mono ?_;rintro e w2 ⟨rfl,v2,h3⟩;have y2:=zaa (h3.blkAt 3 rfl) 2 rfl;have HV:=zq (zg6 (zig ((h3.front 5 rfl rfl).front 5 rfl rfl)) hv (by omega));have g3:=zcj wCert 12318 zgt (cts.map Ct.cp) s2;generalize wList wCert s2 (cts.map Ct.cp)=s3 at*;clear h3 HC y1
 go_wp2_with fail
 refine HV.out.mono ?_;rintro e w3 ⟨rfl,v3,h4⟩;have y3:=zaa (h4.blkAt 5 rfl) 3 rfl;have HN4:=zq (zbq [sl] #[.int .i64 sl] 1 h4 w3.heap.size rfl rfl rfl (by simp;omega) (by simp));clear h4 HV y2
 go_wp2_with fail
 refine HN4.out.mono ?_;rintro e w4 ⟨rfl,v4,h5⟩;have H5:=zq h5;clear h5 HN4 y3
 go_wp2_with fail
 refine bodyPost_end (results_none rfl _ _ _) rfl ?_;rw [HE.out];exact ⟨rfl,v4,((H5.out.dropAt 5 (by simp)).front 4 rfl rfl).rot'⟩
theorem zl8 {l:List (Pt)} {lv:Value} (h:Own B w0 W (wrL p v s (redR lv 4 l.length (l.flatMap zaj)::ptsR l::ss))) (hb:256<l.length) (g:Value):
  Calls Tryz.prog 302 #[.pointer (some ⟨p,0,none⟩),lv,g] W fun e w'=>e= .returned (.tuple #[])∧ ∃v',Own B w0 w' (wrL p v' (wList wPart s (l.map Pt.pa)) (redR lv 4 l.length (l.flatMap zaj)::ptsR l::ss)):=by
 have hk:(256:Int)<(l.length:Int):=by omega
 have x1:W.cell? ⟨p,1,none⟩=some (.bool s.bad):=zaa h.blk_out 1 rfl;have z1:=zab h.blk_out 1;have HE:=zq (show Own B w0 (W.setCell ⟨p,1,none⟩ (.bool true)) (wrL p v (wList wPart s (l.map Pt.pa)) (redR lv 4 l.length (l.flatMap zaj)::ptsR l::ss)) by
  unfold wList;rw [if_pos (by simpa using hb)];exact Own.storeTo h 1 (.bool true) rfl)
 obtain ⟨ao,cap,rfl,hcap,-⟩:=zad (k:=2) h rfl;clear h hb;go_enter Tryz.func302,Tryz.ntmps302
 go_wp2_with fail
 refine bodyPost_ret (results_none rfl _ _ _) rfl ?_;exact ⟨rfl,v,HE.out⟩
theorem zl7 {l:List (Pt)} {lv:Value} (h:Own B w0 W (wrL p v s (redR lv 4 l.length (l.flatMap zaj)::ptsR l::ss))) (hn:l.length≤100000) (hl:s.out.length≤10000000000):
  Calls Tryz.prog 302 #[.pointer (some ⟨p,0,none⟩),lv,.func (.func 303) #[] #[]] W fun e w'=>e= .returned (.tuple #[])∧ ∃v',Own B w0 w' (wrL p v' (wList wPart s (l.map Pt.pa)) (redR lv 4 l.length (l.flatMap zaj)::ptsR l::ss)):=by
 by_cases hb:256<l.length
 ·exact zl8 h hb _
 have hk:decide ((256:Int)<(l.length:Int))=false:=by simp;omega
 have HE:Hid (wList wPart s (l.map Pt.pa)=(l.map Pt.pa).foldl wPart (wNum s l.length)):=zq (by unfold wList;rw [if_neg (by simpa using hb)];first | done | simp)
 have HN:=zq (zbq [(l.length:Int)] #[.int .i64 l.length] 1 h W.heap.size rfl rfl rfl (by simp;omega) (by simp));have hg:(wNum s l.length).out.length≤s.out.length+6:=zau s l.length;simp only [List.foldl_cons,List.foldl_nil] at HN;obtain ⟨ao,cap,rfl,hcap,-⟩:=zad (k:=2) h rfl;generalize wNum s l.length=s1 at*;clear h;go_enter Tryz.func302,Tryz.ntmps302
 go_wp2_with fail
 refine HN.out.mono ?_;rintro e w1 ⟨rfl,v1,h2⟩;have H:=zq h2;clear h2 HN
 go_wp2_with fail
 go_loopw [21] (fun i wr=> ∃(k:Nat) (v:Value),i= .int .i64 k∧k≤l.length∧Hid (Own B w0 wr (wrL p v (((l.map Pt.pa).take k).foldl wPart s1) (redR (.slice ao l.length cap) 4 l.length (l.flatMap zaj)::ptsR l::ss)))) (fun i _=>l.length-(intOf i).toNat)
 case atStart=>exact ⟨0,v1,rfl,by omega,H⟩
 case round=>
  clear H;obtain ⟨k,v,rfl,hk2,H⟩:=hrel;by_cases hlt:k<l.length
  ·have hkI:(k:Int)<(l.length:Int):=by omega
   have hk0:(0:Int)≤(k:Int):=by omega
   have hcI:(l.length:Int)≤(cap:Int):=by omega
   obtain ⟨ao',cap',e0,-,-,-,-,h5⟩:=zad (k:=2) H.out rfl;simp only [Value.slice.injEq,true_and] at e0;obtain ⟨rfl,-⟩:=e0;obtain ⟨b,o,rfl,-,hc⟩:=h5 (by omega);have hj: ∀j,j<4→wr.cell? ⟨b,o+k*4+j,none⟩=(zaj l[k])[j]?:=fun j hj=>by
    rw [Nat.add_assoc,hc _ (by omega),zd4 zaj 4 (fun _=>rfl) l k j hlt hj]
   have q0:=hj 0 (by omega);have q1:=hj 1 (by omega);have q2:=hj 2 (by omega);have q3:=hj 3 (by omega);have hlen:=zfw wPart 3156510 zom ((l.map Pt.pa).take k) s1;have hm:min k l.length=k:=by omega
   rw [List.length_take,List.length_map,hm] at hlen;have hp:=zsn H.out 3 rfl (List.getElem_mem hlt);have hle:=zsm H.out 3 rfl (List.getElem_mem hlt);have hmap:(l.map Pt.pa)[k]'(by simpa using hlt)=l[k].pa:=by simp
   have HS:=zq (zdd wPart (l.map Pt.pa) k (by simpa using hlt) s1);rw [hmap] at HS;clear hc h5 hj hmap;generalize hx:l[k]=x at*;clear hx;obtain ⟨xfm,xvv,xvs,xcv,xcts,xsl⟩:=x;simp only [Pt.pa] at HS hp hle;obtain ⟨bo1,bc1,rfl,-,-⟩:=zad (k:=0) hp rfl;obtain ⟨bo2,bc2,rfl,-,-⟩:=zad (k:=1) hp rfl;have HC:=zq (zwt ⟨xfm,.slice bo1 xvs.length bc1,xvs,.slice bo2 xcts.length bc2,xcts,xsl⟩ ((zn5 hp).alloc (.cells #[.int .i64 xfm,.slice bo1 xvs.length bc1,.slice bo2 xcts.length bc2,.int .i64 xsl] 49 (0,0))) hle.1 hle.2 (by have:=Nat.mul_le_mul_left 3156510 (show k≤256 by omega);omega));clear hp H;simp only [zaj,List.getElem?_cons_zero,List.getElem?_cons_succ,Nat.add_zero] at q0 q1 q2 q3
   go_wp2_with fail
   refine HC.out.mono ?_;rintro e w2 ⟨rfl,v2,h3⟩;have H3:Hid (Own B w0 w2 (wrL p v2 (((l.map Pt.pa).take (k+1)).foldl wPart s1) (redR (.slice (some ⟨b,o,none⟩) l.length cap) 4 l.length (l.flatMap zaj)::ptsR l::ss))):=zq (by rw [HS.out];exact ((h3.dropAt 2 (by simp)).dropAt 2 (by simp)).dropAt 2 (by simp));clear h3 HC
   go_wp2_with fail
   go_roundw
   case rel=>exact ⟨k+1,v2,by go_num,by omega,H3⟩
   case measure=>simp [intOf];omega
  ·have hkI:decide ((k:Int)<(l.length:Int))=false:=by simp;omega
   have e:k=l.length:=by omega
   subst e
   go_wp2_with fail
   refine bodyPost_end (results_none rfl _ _ _) rfl ?_;have:=H.out;rw [List.take_of_length_le (by simp)] at this;rw [HE.out];exact ⟨rfl,v,this⟩
end
end Go.Proofs.YtannckelmojkoaaGreat
