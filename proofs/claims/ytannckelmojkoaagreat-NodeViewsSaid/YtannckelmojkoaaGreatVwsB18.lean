/- Parts of the proof, one behind the other. -/
import Derived.Test.YtannckelmojkoaaGreatVwsB17
set_option maxHeartbeats 32000000
set_option maxRecDepth 100000
set_option linter.unusedVariables false
set_option linter.unusedSimpArgs false
namespace Go.Proofs.YtannckelmojkoaaGreat
open Go.RowKit Go.Heap
def Wrt (f:Wr→Wr) (ok:Bool) (e:Bys):Prop:= ∀s,(f s).bad=(s.bad || !ok)∧(ok=true→(f s).out=s.out++e)
theorem Wrt.then {f g:Wr→Wr} {o1 o2:Bool} {e1 e2:Bys} (h:Wrt f o1 e1) (k:Wrt g o2 e2):Wrt (fun s=>g (f s)) (o1&&o2) (e1++e2):=fun s=>by
 obtain ⟨a1,a2⟩:=h s;obtain ⟨b1,b2⟩:=k (f s);refine ⟨?_,fun ho=> ?_⟩
 ·simp only [b1,a1];cases s.bad<;>cases o1<;>cases o2<;>rfl
 ·simp only [Bool.and_eq_true] at ho
  simp only [b2 ho.2,a2 ho.1,List.append_assoc]
theorem za6 (n:Int):Wrt (fun s=>wNum s n) (numOk n) (numB n):=fun s=>⟨rfl,fun h=>by simp [wNum,wPut,numX,h]⟩
theorem zto (n:Int):Wrt (fun s=>wSgn s n) (sgnOk n) (sgnB n):=fun s=>⟨rfl,fun h=>by simp [wSgn,wPut,sgnX,h]⟩
theorem zlj (r:Rq):Wrt (fun s=>wReq s r) (reqW r) (reqB r):=by
 have h:=(((((za6 r.client).then (za6 r.time)).then (za6 r.kind)).then (zto r.key)).then (zto r.val)).then (za6 r.sl);have e1:reqW r=(((((numOk r.client&&numOk r.time)&&numOk r.kind)&&sgnOk r.key)&&sgnOk r.val)&&numOk r.sl):=by unfold reqW;simp only [Bool.and_assoc]
 have e2:reqB r=(((((numB r.client++numB r.time)++numB r.kind)++sgnB r.key)++sgnB r.val)++numB r.sl):=by unfold reqB;simp only [List.append_assoc]
 rw [e1,e2];exact h
theorem zf4 (x:Int×Int):Wrt (fun s=>wVote s x) (vtW x) (vtB x):=(za6 x.1).then (za6 x.2)
theorem ztn {α:Type} {one:Wr→α→Wr} {ok:α→Bool} {enc:α→Bys} (h: ∀x,Wrt (fun s=>one s x) (ok x) (enc x)): ∀l:List α,Wrt (fun s=>l.foldl one s) (l.all ok) (l.flatMap enc)
 | []=>fun s=>⟨by simp,fun _=>by simp⟩
 | x::l=>by
  have:=(h x).then (ztn h l)
  simpa only [List.foldl_cons,List.all_cons,List.flatMap_cons] using this
theorem zep {α:Type} {one:Wr→α→Wr} {ok:α→Bool} {enc:α→Bys} (h: ∀x,Wrt (fun s=>one s x) (ok x) (enc x)) (l:List α):Wrt (fun s=>wList one s l) (listW ok l) (listB enc l):=by
 by_cases hb:256<l.length
 ·have e:listW ok l=false:=by unfold listW;rw [decide_eq_false (by omega)];rfl
  intro s;rw [e];refine ⟨?_,fun h=>by cases h⟩;show (wList one s l).bad=_;unfold wList;rw [if_pos hb];simp
 ·have e:listW ok l=(numOk (l.length:Int)&&l.all ok):=by
   have:numOk (l.length:Int)=true:=by unfold numOk;simp;omega
   unfold listW;rw [decide_eq_true (by omega),this]
  rw [e];have:=(za6 (l.length:Int)).then (ztn h l);intro s;have h2:=this s;have e2:wList one s l=l.foldl one (wNum s l.length):=by unfold wList;rw [if_neg hb]
  show (wList one s l).bad=_∧(_→(wList one s l).out=_);rw [e2];exact h2
theorem ztm (c:Cp):Wrt (fun s=>wCert s c) (certW c) (certB c):=by
 have h:=((((za6 c.view).then (za6 c.inst)).then (za6 c.seq)).then (zep zlj c.rs)).then (zep zf4 c.vs);have e1:certW c=((((numOk c.view&&numOk c.inst)&&numOk c.seq)&&listW reqW c.rs)&&listW vtW c.vs):=by unfold certW;simp only [Bool.and_assoc]
 have e2:certB c=((((numB c.view++numB c.inst)++numB c.seq)++listB reqB c.rs)++listB vtB c.vs):=by unfold certB;simp only [List.append_assoc]
 rw [e1,e2];exact h
theorem wrt_part (p:Pa):Wrt (fun s=>wPart s p) (partW p) (partB p):=by
 have h:=(((za6 p.fm).then (zep zf4 p.vs)).then (zep ztm p.cs)).then (za6 p.sl);have e1:partW p=(((numOk p.fm&&listW vtW p.vs)&&listW certW p.cs)&&numOk p.sl):=by unfold partW;simp only [Bool.and_assoc]
 have e2:partB p=(((numB p.fm++listB vtB p.vs)++listB certB p.cs)++numB p.sl):=by unfold partB;simp only [List.append_assoc]
 rw [e1,e2];exact h
def doneX (s:Wr):Bys:=if s.bad then [] else s.out
abbrev w00:Wr:=⟨[],false⟩
theorem zw9 {f:Wr→Wr} {ok:Bool} {e:Bys} (h:Wrt f ok e):(f w00).bad= !ok∧doneX (f w00)=if ok then e else []:=by
 obtain ⟨h1,h2⟩:=h w00;simp only [Bool.false_or] at h1;refine ⟨h1,?_⟩;unfold doneX;rw [h1];cases ok with
 | true=>simp [h2 rfl]
 | false=>simp
def wSec (s w:Wr):Wr:=wPut s (doneX w) (!w.bad)
def wMs (m:Ms):Wr:=
 wSec (wSec (wSec (wSec (wSgn ([m.kind,m.fm,m.view,m.inst,m.seq].foldl wNum w00) m.res) (wList wReq w00 m.rs)) (wList wVote w00 m.vs)) (wList wCert w00 m.cs)) (wList wPart w00 m.ps)
theorem zoo {f:Wr→Wr} {ok:Bool} {e:Bys} (h:Wrt f ok e):Wrt (fun s=>wSec s (f w00)) ok e:=fun s=>by
 obtain ⟨h1,h2⟩:=zw9 h;refine ⟨?_,fun ho=> ?_⟩
 ·simp [wSec,wPut,h1]
 ·simp [wSec,wPut,h2,ho]
theorem wMs_body (m:Ms):(if (wMs m).bad || decide (65536<(wMs m).out.length) then none else some (wMs m).out)=bodyP m:=by
 have h:=((((((((((za6 m.kind).then (za6 m.fm)).then (za6 m.view)).then (za6 m.inst)).then (za6 m.seq)).then (zto m.res)).then (zoo (zep zlj m.rs))).then (zoo (zep zf4 m.vs))).then (zoo (zep ztm m.cs))).then (zoo (zep wrt_part m.ps))) w00;have e1:msW m=(((((((((numOk m.kind&&numOk m.fm)&&numOk m.view)&&numOk m.inst)&&numOk m.seq)&&sgnOk m.res)&&listW reqW m.rs)&&listW vtW m.vs)&&listW certW m.cs)&&listW partW m.ps):=by unfold msW;simp only [Bool.and_assoc]
 have e2:msB m=(((((((((numB m.kind++numB m.fm)++numB m.view)++numB m.inst)++numB m.seq)++sgnB m.res)++listB reqB m.rs)++listB vtB m.vs)++listB certB m.cs)++listB partB m.ps):=by unfold msB;simp only [List.append_assoc]
 rw [←e1,←e2] at h;obtain ⟨h1,h2⟩:=h;have h1:(wMs m).bad=(w00.bad || !msW m):=h1;simp only [Bool.false_or] at h1;have h2:msW m=true→(wMs m).out=w00.out++msB m:=h2;simp only [List.nil_append] at h2;unfold bodyP;rw [h1];cases ho:msW m with
 | false=>simp
 | true=>
  rw [h2 ho];by_cases hl:(msB m).length≤65536
  ·simp [hl,show¬65536<(msB m).length by omega]
  ·simp [hl,show 65536<(msB m).length by omega]
section
variable {B:Nat} {w0 w W W':World} {ss rs:List Res} {p:Nat} {v bv:Value} {s:Wr}
theorem zfn (h:Own B w0 W (wrL p v s ss)):Calls Tryz.prog 297 #[.pointer (some ⟨p,0,none⟩)] W fun e w'=> ∃v',e= .returned (.tuple #[v',.bool (!s.bad)])∧Own B w0 w' (bysR v' (doneX s)::ss):=by
 have H:=zq h;obtain ⟨out,bad⟩:=s;obtain ⟨ao,cap,rfl,-,-⟩:=zao (k:=1) h rfl;have x0:W.cell? ⟨p,0,none⟩=some (.slice ao out.length cap):=zaa h.blk_out 0 rfl;have x1:W.cell? ⟨p,1,none⟩=some (.bool bad):=zaa h.blk_out 1 rfl;clear h;cases bad with
 | true=>
  have HE:=zq ((H.out.drop.drop).row0 (E:=5) (sz:=1));clear H;go_enter Tryz.func297,Tryz.ntmps297
  go_wp2_with fail
  go_ret2
  exact ⟨_,rfl,HE.out⟩
 | false=>
  have HE:=zq (H.out.drop);clear H;go_enter Tryz.func297,Tryz.ntmps297
  go_wp2_with fail
  go_ret2
  exact ⟨_,rfl,HE.out⟩
theorem zeh (h:Own B w0 W ss):Own B w0 (W.alloc (.cells #[.slice none 0 0,.bool false] 377 (0,0))) (wrL W.heap.size (.slice none 0 0) w00 ss):=(h.row0 (E:=5) (sz:=1)).box _
theorem zpk (r:Rq) (h:Own B w0 W ss):Calls Tryz.prog 285 #[.agg #[.int .i64 r.client,.int .i64 r.time,.int .i64 r.kind,.int .i64 r.key,.int .i64 r.val,.int .i64 r.sl]] W fun e w'=> ∃v',e= .returned (.tuple #[v',.bool (reqW r)])∧Own B w0 w' (bysR v' (if reqW r then reqB r else [])::ss):=by
 have h1:=zeh (h.alloc (rqO r));simp only [zav] at h1;have HC:=zq (ztl r h1 (by decide));obtain ⟨e1,e2⟩:=zw9 (zlj r);have e3:reqW r= !(wReq w00 r).bad:=by rw [show (wReq w00 r).bad= !reqW r from e1];simp
 rw [←e2,e3];clear e1 e2 e3 h h1;generalize wReq w00 r=s1 at*;go_enter Tryz.func285,Tryz.ntmps285
 go_wp2_with fail
 refine HC.out.mono ?_;rintro e w1 ⟨rfl,v1,h2⟩;have HD:=zq (zfn h2);clear h2 HC
 go_wp2_with fail
 refine HD.out.mono ?_;rintro e w2 ⟨v2,rfl,h3⟩;have H3:=zq h3;clear h3 HD
 go_wp2_with fail
 go_ret2
 exact ⟨_,rfl,H3.out⟩
theorem zkp {l:List (Rq)} {lv:Value} (h:Own B w0 W (redR lv 6 l.length (zak l)::ss)) (hn:l.length≤100000):Calls Tryz.prog 276 #[lv] W fun e w'=> ∃v',e= .returned (.tuple #[v',.bool (!(wList wReq w00 l).bad)])∧Own B w0 w' (bysR v' (doneX (wList wReq w00 l))::redR lv 6 l.length (zak l)::ss):=by
 have HC:=zq (zid (zeh h) hn (by decide));obtain ⟨ao,cap,rfl,hcap,-⟩:=zad (k:=0) h rfl;clear h;generalize wList wReq w00 l=s1 at*;go_enter Tryz.func276,Tryz.ntmps276
 go_wp2_with fail
 refine HC.out.mono ?_;rintro e w1 ⟨rfl,v1,h2⟩;have HD:=zq (zfn h2);clear h2 HC
 go_wp2_with fail
 refine HD.out.mono ?_;rintro e w2 ⟨v2,rfl,h3⟩;have H3:=zq h3;clear h3 HD
 go_wp2_with fail
 go_ret2
 exact ⟨_,rfl,H3.out⟩
theorem zks {l:List (Int×Int)} {lv:Value} (h:Own B w0 W (redR lv 2 l.length (zaf l)::ss)) (hn:l.length≤100000):Calls Tryz.prog 277 #[lv] W fun e w'=> ∃v',e= .returned (.tuple #[v',.bool (!(wList wVote w00 l).bad)])∧Own B w0 w' (bysR v' (doneX (wList wVote w00 l))::redR lv 2 l.length (zaf l)::ss):=by
 have HC:=zq (ze3 (zeh h) hn (by decide));obtain ⟨ao,cap,rfl,hcap,-⟩:=zad (k:=0) h rfl;clear h;generalize wList wVote w00 l=s1 at*;go_enter Tryz.func277,Tryz.ntmps277
 go_wp2_with fail
 refine HC.out.mono ?_;rintro e w1 ⟨rfl,v1,h2⟩;have HD:=zq (zfn h2);clear h2 HC
 go_wp2_with fail
 refine HD.out.mono ?_;rintro e w2 ⟨v2,rfl,h3⟩;have H3:=zq h3;clear h3 HD
 go_wp2_with fail
 go_ret2
 exact ⟨_,rfl,H3.out⟩
theorem zkq {l:List (Ct)} {lv:Value} (h:Own B w0 W (redR lv 5 l.length (l.flatMap zag)::ctsR l::ss)) (hn:l.length≤100000):Calls Tryz.prog 278 #[lv] W fun e w'=> ∃v',e= .returned (.tuple #[v',.bool (!(wList wCert w00 (l.map Ct.cp)).bad)])∧Own B w0 w' (bysR v' (doneX (wList wCert w00 (l.map Ct.cp)))::redR lv 5 l.length (l.flatMap zag)::ctsR l::ss):=by
 have HC:=zq (zg6 (zeh h) hn (by decide));obtain ⟨ao,cap,rfl,hcap,-⟩:=zad (k:=0) h rfl;clear h;generalize wList wCert w00 (l.map Ct.cp)=s1 at*;go_enter Tryz.func278,Tryz.ntmps278
 go_wp2_with fail
 refine HC.out.mono ?_;rintro e w1 ⟨rfl,v1,h2⟩;have HD:=zq (zfn h2);clear h2 HC
 go_wp2_with fail
 refine HD.out.mono ?_;rintro e w2 ⟨v2,rfl,h3⟩;have H3:=zq h3;clear h3 HD
 go_wp2_with fail
 go_ret2
 exact ⟨_,rfl,H3.out⟩
theorem zkr {l:List (Pt)} {lv:Value} (h:Own B w0 W (redR lv 4 l.length (l.flatMap zaj)::ptsR l::ss)) (hn:l.length≤100000):Calls Tryz.prog 279 #[lv] W fun e w'=> ∃v',e= .returned (.tuple #[v',.bool (!(wList wPart w00 (l.map Pt.pa)).bad)])∧Own B w0 w' (bysR v' (doneX (wList wPart w00 (l.map Pt.pa)))::redR lv 4 l.length (l.flatMap zaj)::ptsR l::ss):=by
 have HC:=zq (zl7 (zeh h) hn (by decide));obtain ⟨ao,cap,rfl,hcap,-⟩:=zad (k:=0) h rfl;clear h;generalize wList wPart w00 (l.map Pt.pa)=s1 at*;go_enter Tryz.func279,Tryz.ntmps279
 go_wp2_with fail
 refine HC.out.mono ?_;rintro e w1 ⟨rfl,v1,h2⟩;have HD:=zq (zfn h2);clear h2 HC
 go_wp2_with fail
 refine HD.out.mono ?_;rintro e w2 ⟨v2,rfl,h3⟩;have H3:=zq h3;clear h3 HD
 go_wp2_with fail
 go_ret2
 exact ⟨_,rfl,H3.out⟩
end
abbrev bdL (g o:Nat) (v:Value) (s:Wr) (l:List Res):List Res:=blk g (.cells #[.bool (!s.bad)] 4 (0,0))::blk o (.cells #[v] 60 (0,0))::bysR v s.out::l
abbrev mmO (m:Mm):Obj:= .cells (mmA m) 47 (0,0)
def envP (sl:Int) (b:Bys):Option Bys:=if numOk sl&&decide ((numB sl).length+b.length≤65536) then some (numB sl++b) else none
def bysO (o:Option Bys):Bys:=o.getD []
def sealP (l:Nt) (m:Ms):Option Bys×Nt:=match bodyP m with
 | none=>(none,l)
 | some b=>(envP (sealN l m.fm b) b,sealL l m.fm b)
def zby (l:Nt) (m:Ms) (sl:Int):Bool:=match bodyP m with
 | none=>false
 | some b=>decide ((m.fm,b)∈l)&&(findN l m.fm b==sl)
structure MmOk (m:Mm):Prop where
 r:m.rs.length≤100000
 v:m.vs.length≤100000
 c:m.cts.length≤100000
 p:m.pts.length≤100000
theorem zj1 (s w:Wr) (K:Nat) (h:w.out.length≤K):(wSec s w).out.length≤s.out.length+K:=by
 unfold wSec wPut doneX;split<;>simp<;>omega
section
variable {B:Nat} {w0 w W W':World} {ss rs:List Res} {g o nt nm:Nat} {v bv:Value} {s:Wr} {l:Nt}
theorem zdr {bs:Bys} {ok:Bool} (h:Own B w0 W (bdL g o v s (bysR bv bs::ss))) (hl:s.out.length≤1000000000000) (hb:bs.length≤10000000000):
  Calls Tryz.prog 273 #[bv,.bool ok,.pointer (some ⟨g,0,none⟩),.pointer (some ⟨o,0,none⟩)] W fun e w'=>e= .returned (.tuple #[])∧ ∃v',Own B w0 w' (bdL g o v' (wPut s bs ok) (bysR bv bs::ss)):=by
 obtain ⟨i0,hi,hz0,hz1,hz2⟩:=info_parts Tryz.infoU8;obtain ⟨out,bad⟩:=s;simp only at hl h;obtain ⟨ao,cap,rfl,-,-⟩:=zao (k:=2) h rfl;obtain ⟨bo,bcap,rfl,-,-⟩:=zao (k:=3) h rfl;have x0:W.cell? ⟨o,0,none⟩=some (.slice ao out.length cap):=zaa (h.blkAt 1 rfl) 0 rfl;have x1:W.cell? ⟨g,0,none⟩=some (.bool (!bad)):=zaa h.blk_out 0 rfl;have z1:=zab h.blk_out 0;have HS: ∀b:Bool,Hid (Own B w0 (W.setCell ⟨g,0,none⟩ (.bool (!b))) (bdL g o (.slice ao out.length cap) ⟨out,b⟩ (bysR (.slice bo bs.length bcap) bs::ss))):=fun b=>zq (Own.storeTo h 0 (.bool (!b)) rfl);have H1:=HS (bad || !ok);have hone:=zfs bs;have H1b:=zq (zao (k:=3) H1.out rfl);have HW:Hid (wPut ⟨out,bad⟩ bs ok=⟨out++bs,bad || !ok⟩):=zq rfl;have x2:(W.setCell ⟨g,0,none⟩ (.bool (!(bad || !ok)))).cell? ⟨o,0,none⟩=some (.slice ao out.length cap):=zaa (H1.out.blkAt 1 rfl) 0 rfl;clear h HS;cases bad<;>cases ok<;>(
  simp only [Bool.true_or,Bool.false_or,Bool.or_false,Bool.or_true,Bool.not_true,Bool.not_false] at*;go_enter Tryz.func273,Tryz.ntmps273
  go_wp2_with (at_builtin;refine zbx rfl (.tmp 10) (.tmp 11) 60 rfl 5 i0 (.int .u8 0) 1 1 Tryz.underlying60 hi hz0 hz1 hz2 rfl (by decide) H1.out 2 (.slice ao out.length cap) out.length (bysC out) rfl rfl (.slice bo bs.length bcap) bs.length (bysC bs) rfl H1b.out hone (by unfold maxLen;omega) (by omega) ?_)
  intro ao' cap' w2 h2;have h3:Own B w0 w2 (blk g _::blk o (.cells #[.slice ao out.length cap] 60 (0,0))::ownR 5 1 (.slice ao' (out.length+bs.length) cap') (out.length+bs.length) (bysC out++bysC bs)::bysR (.slice bo bs.length bcap) bs::ss):=h2;have x3:w2.cell? ⟨o,0,none⟩=some (.slice ao out.length cap):=zaa (h3.blkAt 1 rfl) 0 rfl;have z3:=zab (h3.blkAt 1 rfl) 0;have H3:=zq ((Own.storeTo h3.swap 0 (.slice ao' (out.length+bs.length) cap') rfl).swap);clear h2 h3 H1 H1b
  go_wp2_with fail
  refine bodyPost_end (results_none rfl _ _ _) rfl ?_;rw [HW.out];refine ⟨rfl,.slice ao' (out.length+bs.length) cap',?_⟩;have:=H3.out
  simpa [bdL,bysR,bysC,setIn] using this)
theorem idx5 (a b c d e:Int) (k:Nat) (hk:k<5) (w:World):(Instr.index 358 (.agg #[.int .i64 a,.int .i64 b,.int .i64 c,.int .i64 d,.int .i64 e]) (.int .i64 k)).run Tryz.prog w= .ok (.int .i64 ([a,b,c,d,e][k]'(by simpa using hk))) w:=by
 rcases (by omega:k=0∨k=1∨k=2∨k=3∨k=4) with rfl | rfl | rfl | rfl | rfl<;>kernel_rfl
theorem zlr {m:Mm} (h:Own B w0 W (mmR m ss)) (hm:MmOk m):
  Calls Tryz.prog 253 #[.agg (mmA m)] W fun e w'=> ∃v',e= .returned (.tuple #[v',.bool (bodyP m.ms).isSome])∧Own B w0 w' (bysR v' (bysO (bodyP m.ms))::mmR m ss):=by
 obtain ⟨kind,fm,view,inst,seq,res,vb,rs,vv,vs,vc,cts,vp,pts⟩:=m;have i0:=fun w=>idx5 kind fm view inst seq 0 (by omega) w;have i1:=fun w=>idx5 kind fm view inst seq 1 (by omega) w;have i2:=fun w=>idx5 kind fm view inst seq 2 (by omega) w;have i3:=fun w=>idx5 kind fm view inst seq 3 (by omega) w;have i4:=fun w=>idx5 kind fm view inst seq 4 (by omega) w;simp only [List.getElem_cons_zero,List.getElem_cons_succ,Int.natCast_zero,Int.cast_ofNat_Int] at i0 i1 i2 i3 i4;obtain ⟨hr,hv,hc,hp⟩:=hm;simp only [Mm.ms] at hr hv hc hp⊢;obtain ⟨s9,HW,HE⟩: ∃s9:Wr,Hid (s9=wSec (wSec (wSec (wSec (wSgn ([kind,fm,view,inst,seq].foldl wNum w00) res) (wList wReq w00 rs)) (wList wVote w00 vs)) (wList wCert w00 (cts.map Ct.cp))) (wList wPart w00 (pts.map Pt.pa)))∧
  Hid ((if s9.bad || decide (65536<s9.out.length) then none else some s9.out)=bodyP ⟨kind,fm,view,inst,seq,res,rs,vs,cts.map Ct.cp,pts.map Pt.pa⟩):=⟨wMs ⟨kind,fm,view,inst,seq,res,rs,vs,cts.map Ct.cp,pts.map Pt.pa⟩,zq rfl,zq (wMs_body _)⟩
 generalize bodyP ⟨kind,fm,view,inst,seq,res,rs,vs,cts.map Ct.cp,pts.map Pt.pa⟩=ob at*;obtain ⟨a1,c1,rfl⟩: ∃a c,vb= .slice a rs.length c:=let ⟨a,c,e,_⟩:=zad (k:=5) h rfl;⟨a,c,e⟩;obtain ⟨a2,c2,rfl⟩: ∃a c,vv= .slice a vs.length c:=let ⟨a,c,e,_⟩:=zad (k:=4) h rfl;⟨a,c,e⟩;obtain ⟨a3,c3,rfl⟩: ∃a c,vc= .slice a cts.length c:=let ⟨a,c,e,_⟩:=zad (k:=2) h rfl;⟨a,c,e⟩;obtain ⟨a4,c4,rfl⟩: ∃a c,vp= .slice a pts.length c:=let ⟨a,c,e,_⟩:=zad (k:=0) h rfl;⟨a,c,e⟩;have h1:=(((h.box (.cells #[.int .i64 kind,.int .i64 fm,.int .i64 view,.int .i64 inst,.int .i64 seq,.int .i64 res,.slice a1 rs.length c1,.slice a2 vs.length c2,.slice a3 cts.length c3,.slice a4 pts.length c4] 47 (0,0))).row0 (E:=5) (sz:=1)).box (.cells #[.slice none 0 0] 60 (0,0))).box (.cells #[.bool true] 4 (0,0));simp only [zav] at h1;have hb:=h1.blkAt 3 rfl;have x0:=zaa hb 0 rfl;have x1:=zaa hb 1 rfl;have x2:=zaa hb 2 rfl;have x3:=zaa hb 3 rfl;have x4:=zaa hb 4 rfl;have H1:=zq h1;clear h h1 hb;go_enter Tryz.func253,Tryz.ntmps253
 go_wp2_with fail
 generalize (World.alloc (World.alloc (World.alloc W _) _) _)=w1 at*;generalize hg:W.heap.size+1+1=g at*;generalize ho:W.heap.size+1=o at*;generalize W.heap.size=mb at*;clear hg ho
 go_loopw [21] (fun i wr=> ∃(k:Nat) (v:Value),i= .int .i64 k∧k≤5∧Hid (Own B w0 wr (bdL g o v (([kind,fm,view,inst,seq].take k).foldl wNum w00) (blk mb (.cells #[.int .i64 kind,.int .i64 fm,.int .i64 view,.int .i64 inst,.int .i64 seq,.int .i64 res,.slice a1 rs.length c1,.slice a2 vs.length c2,.slice a3 cts.length c3,.slice a4 pts.length c4] 47 (0,0))::mmR ⟨kind,fm,view,inst,seq,res,.slice a1 rs.length c1,rs,.slice a2 vs.length c2,vs,.slice a3 cts.length c3,cts,.slice a4 pts.length c4,pts⟩ ss)))) (fun i _=>5-(intOf i).toNat)
 case atStart=>exact ⟨0,.slice none 0 0,rfl,by omega,H1⟩
 case round=>
  clear H1 x0 x1 x2 x3 x4;obtain ⟨k,v,rfl,hk,H⟩:=hrel;have hlen:=zcu ([kind,fm,view,inst,seq].take k) w00;rw [List.length_take] at hlen;simp only [List.length_nil] at hlen;have hl2:(([kind,fm,view,inst,seq].take k).foldl wNum w00).out.length≤30:=by
   have:min k [kind,fm,view,inst,seq].length≤5:=by simp;omega
   omega
  clear hlen;rcases (by omega:k=0∨k=1∨k=2∨k=3∨k=4∨k=5) with rfl | rfl | rfl | rfl | rfl | rfl
  ·have HN:=zq (zea kind H.out)
   clear H
   go_wp2_with fail
   refine HN.out.mono ?_;rintro e w1 ⟨v2,rfl,h2⟩;have HP2:=zq (zdr (ok:=numOk kind) (h2.back 3 (by simp) rfl) (Nat.le_trans hl2 (by decide)) (by have:=zdf kind;omega));clear h2 HN
   go_wp2_with fail
   refine HP2.out.mono ?_;rintro e w2 ⟨rfl,v3,h3⟩;have H3:=zq (h3.dropAt 3 (by simp));clear h3 HP2
   go_wp2_with fail
   go_roundw
   case rel=>exact ⟨1,v3,rfl,by omega,H3⟩
   case measure=>simp [intOf]
  ·have HN:=zq (zea fm H.out)
   clear H
   go_wp2_with fail
   refine HN.out.mono ?_;rintro e w1 ⟨v2,rfl,h2⟩;have HP2:=zq (zdr (ok:=numOk fm) (h2.back 3 (by simp) rfl) (Nat.le_trans hl2 (by decide)) (by have:=zdf fm;omega));clear h2 HN
   go_wp2_with fail
   refine HP2.out.mono ?_;rintro e w2 ⟨rfl,v3,h3⟩;have H3:=zq (h3.dropAt 3 (by simp));clear h3 HP2
   go_wp2_with fail
   go_roundw
   case rel=>exact ⟨2,v3,rfl,by omega,H3⟩
   case measure=>simp [intOf]
  ·have HN:=zq (zea view H.out)
   clear H
   go_wp2_with fail
   refine HN.out.mono ?_;rintro e w1 ⟨v2,rfl,h2⟩;have HP2:=zq (zdr (ok:=numOk view) (h2.back 3 (by simp) rfl) (Nat.le_trans hl2 (by decide)) (by have:=zdf view;omega));clear h2 HN
   go_wp2_with fail
   refine HP2.out.mono ?_;rintro e w2 ⟨rfl,v3,h3⟩;have H3:=zq (h3.dropAt 3 (by simp));clear h3 HP2
   go_wp2_with fail
   go_roundw
   case rel=>exact ⟨3,v3,rfl,by omega,H3⟩
   case measure=>simp [intOf]
  ·have HN:=zq (zea inst H.out)
   clear H
   go_wp2_with fail
   refine HN.out.mono ?_;rintro e w1 ⟨v2,rfl,h2⟩;have HP2:=zq (zdr (ok:=numOk inst) (h2.back 3 (by simp) rfl) (Nat.le_trans hl2 (by decide)) (by have:=zdf inst;omega));clear h2 HN
   go_wp2_with fail
   refine HP2.out.mono ?_;rintro e w2 ⟨rfl,v3,h3⟩;have H3:=zq (h3.dropAt 3 (by simp));clear h3 HP2
   go_wp2_with fail
   go_roundw
   case rel=>exact ⟨4,v3,rfl,by omega,H3⟩
   case measure=>simp [intOf]
  ·have HN:=zq (zea seq H.out)
   clear H
   go_wp2_with fail
   refine HN.out.mono ?_;rintro e w1 ⟨v2,rfl,h2⟩;have HP2:=zq (zdr (ok:=numOk seq) (h2.back 3 (by simp) rfl) (Nat.le_trans hl2 (by decide)) (by have:=zdf seq;omega));clear h2 HN
   go_wp2_with fail
   refine HP2.out.mono ?_;rintro e w2 ⟨rfl,v3,h3⟩;have H3:=zq (h3.dropAt 3 (by simp));clear h3 HP2
   go_wp2_with fail
   go_roundw
   case rel=>exact ⟨5,v3,rfl,by omega,H3⟩
   case measure=>simp [intOf]
  ·have y5:=zaa (H.out.blkAt 3 rfl) 5 rfl
   have HN:=zq (zqn res H.out);have g0:=zti ([kind,fm,view,inst,seq].foldl wNum w00) res;clear H
   go_wp2_with fail
   refine HN.out.mono ?_;rintro e w1 ⟨v2,rfl,h2⟩;have HP2:=zq (zdr (ok:=sgnOk res) (h2.back 3 (by simp) rfl) (Nat.le_trans hl2 (by decide)) (by have:=zmy res;omega));clear h2 HN
   go_wp2_with fail
   refine HP2.out.mono ?_;rintro e w2 ⟨rfl,v3,h3⟩;have H3:Hid (Own B w0 w2 (bdL g o v3 (wSgn ([kind,fm,view,inst,seq].foldl wNum w00) res) _)):=zq (h3.dropAt 3 (by simp));have hl3:(wSgn ([kind,fm,view,inst,seq].foldl wNum w00) res).out.length≤40:=by
    have e:[kind,fm,view,inst,seq].take 5=[kind,fm,view,inst,seq]:=rfl;rw [e] at hl2;omega
   clear h3 HP2 y5 hl2 g0;generalize wSgn ([kind,fm,view,inst,seq].foldl wNum w00) res=s0 at*;have y:=zaa (H3.out.blkAt 3 rfl) 6 rfl;have HN:=zq (zkp (H3.out.front 9 rfl rfl) hr);have gK:=zcj wReq 36 zf3 rs w00;simp only [List.length_nil] at gK;have gS:=zj1 s0 (wList wReq w00 rs) 9222 (by omega);have gD:(doneX (wList wReq w00 rs)).length≤9222:=by unfold doneX;split;exact Nat.zero_le _;omega
   have HX:Hid (wSec s0 (wList wReq w00 rs)=wPut s0 (doneX (wList wReq w00 rs)) (!(wList wReq w00 rs).bad)):=zq rfl;clear H3;generalize wSec s0 (wList wReq w00 rs)=s1 at*;generalize doneX (wList wReq w00 rs)=d0 at*;generalize (wList wReq w00 rs).bad=b0 at*
   go_wp2_with fail
   refine HN.out.mono ?_;rintro e w3 ⟨v4,rfl,h2⟩;have HP2:=zq (zdr (ok:= !b0) (((h2.front 4 rfl rfl).front 4 rfl rfl).front 4 rfl rfl) (by omega) (by omega));clear h2 HN y
   go_wp2_with fail
   refine HP2.out.mono ?_;rintro e w4 ⟨rfl,v5,h3⟩;rw [←HX.out] at h3;have H3:=zq (h3.dropAt 3 (by simp));have hl4:s1.out.length≤9262:=by omega
   clear h3 HP2 gK gS gD HX;have y:=zaa (H3.out.blkAt 4 rfl) 7 rfl;have HN:=zq (zks (H3.out.front 9 rfl rfl) hv);have gK:=zcj wVote 12 zcv vs w00;simp only [List.length_nil] at gK;have gS:=zj1 s1 (wList wVote w00 vs) 3078 (by omega);have gD:(doneX (wList wVote w00 vs)).length≤3078:=by unfold doneX;split;exact Nat.zero_le _;omega
   have HX:Hid (wSec s1 (wList wVote w00 vs)=wPut s1 (doneX (wList wVote w00 vs)) (!(wList wVote w00 vs).bad)):=zq rfl;clear H3;generalize wSec s1 (wList wVote w00 vs)=s2 at*;generalize doneX (wList wVote w00 vs)=d1 at*;generalize (wList wVote w00 vs).bad=b1 at*
   go_wp2_with fail
   refine HN.out.mono ?_;rintro e w3 ⟨v4,rfl,h2⟩;have HP2:=zq (zdr (ok:= !b1) (((h2.front 4 rfl rfl).front 4 rfl rfl).front 4 rfl rfl) (by omega) (by omega));clear h2 HN y
   go_wp2_with fail
   refine HP2.out.mono ?_;rintro e w4 ⟨rfl,v5,h3⟩;rw [←HX.out] at h3;have H3:=zq (h3.dropAt 3 (by simp));have hl5:s2.out.length≤12340:=by omega
   clear h3 HP2 gK gS gD HX;have y:=zaa (H3.out.blkAt 5 rfl) 8 rfl;have HN:=zq (zkq ((H3.out.front 9 rfl rfl).front 9 rfl rfl) hc);have gK:=zcj wCert 12318 zgt (cts.map Ct.cp) w00;simp only [List.length_nil] at gK;have gS:=zj1 s2 (wList wCert w00 (cts.map Ct.cp)) 3153414 (by omega);have gD:(doneX (wList wCert w00 (cts.map Ct.cp))).length≤3153414:=by unfold doneX;split;exact Nat.zero_le _;omega
   have HX:Hid (wSec s2 (wList wCert w00 (cts.map Ct.cp))=wPut s2 (doneX (wList wCert w00 (cts.map Ct.cp))) (!(wList wCert w00 (cts.map Ct.cp)).bad)):=zq rfl;clear H3;generalize wSec s2 (wList wCert w00 (cts.map Ct.cp))=s3 at*;generalize doneX (wList wCert w00 (cts.map Ct.cp))=d2 at*;generalize (wList wCert w00 (cts.map Ct.cp)).bad=b2 at*
   go_wp2_with fail
   refine HN.out.mono ?_;rintro e w3 ⟨v4,rfl,h2⟩;have HP2:=zq (zdr (ok:= !b2) (((h2.front 5 rfl rfl).front 5 rfl rfl).front 5 rfl rfl) (by omega) (by omega));clear h2 HN y
   go_wp2_with fail
   refine HP2.out.mono ?_;rintro e w4 ⟨rfl,v5,h3⟩;rw [←HX.out] at h3;have H3:=zq (h3.dropAt 3 (by simp));have hl6:s3.out.length≤3165754:=by omega
   clear h3 HP2 gK gS gD HX;have y:=zaa (H3.out.blkAt 7 rfl) 9 rfl;have HN:=zq (zkr ((H3.out.front 9 rfl rfl).front 9 rfl rfl) hp);have gK:=zcj wPart 3156510 zom (pts.map Pt.pa) w00;simp only [List.length_nil] at gK;have gS:=zj1 s3 (wList wPart w00 (pts.map Pt.pa)) 808066566 (by omega);have gD:(doneX (wList wPart w00 (pts.map Pt.pa))).length≤808066566:=by unfold doneX;split;exact Nat.zero_le _;omega
   have HX:Hid (wSec s3 (wList wPart w00 (pts.map Pt.pa))=wPut s3 (doneX (wList wPart w00 (pts.map Pt.pa))) (!(wList wPart w00 (pts.map Pt.pa)).bad)):=zq rfl;clear H3;generalize wSec s3 (wList wPart w00 (pts.map Pt.pa))=s4 at*;generalize doneX (wList wPart w00 (pts.map Pt.pa))=d3 at*;generalize (wList wPart w00 (pts.map Pt.pa)).bad=b3 at*
   go_wp2_with fail
   refine HN.out.mono ?_;rintro e w3 ⟨v4,rfl,h2⟩;have HP2:=zq (zdr (ok:= !b3) (((h2.front 5 rfl rfl).front 5 rfl rfl).front 5 rfl rfl) (by omega) (by omega));clear h2 HN y
   go_wp2_with fail
   refine HP2.out.mono ?_;rintro e w4 ⟨rfl,v5,h3⟩;rw [←HX.out] at h3;have H3:=zq (h3.dropAt 3 (by simp));have hl7:s4.out.length≤811232320:=by omega
   clear h3 HP2 gK gS gD HX;rw [←HW.out] at H3;obtain ⟨ao,cap,rfl,-,-⟩:=zao (k:=2) H3.out rfl;have z0:w4.cell? ⟨o,0,none⟩=some (.slice ao s9.out.length cap):=zaa (H3.out.blkAt 1 rfl) 0 rfl;have z1:w4.cell? ⟨g,0,none⟩=some (.bool (!s9.bad)):=zaa (H3.out.blkAt 0 rfl) 0 rfl;have hl9:s9.out.length≤2000000000:=by rw [HW.out];omega
   have HR:=zq ((H3.out.drop.drop).dropAt 7 (by simp));have HR0:=zq ((H3.out.drop.drop.drop.dropAt 6 (by simp)).row0 (E:=5) (sz:=1));clear H3 HW;obtain ⟨out,bad⟩:=s9;simp only at HE z0 z1 HR hl9;have HE:=HE.out;cases bad with
   | true=>
    simp only [Bool.true_or,if_true] at HE;subst HE
    go_wp2_with fail
    go_ret2
    exact ⟨_,rfl,HR0.out⟩
   | false=>
    by_cases hbig:65536<out.length
    ·simp only [Bool.false_or,hbig,decide_true,if_true] at HE
     subst HE;have hI:(65536:Int)<(out.length:Int):=by omega
     go_wp2_with fail
     go_ret2
     exact ⟨_,rfl,HR0.out⟩
    ·simp only [Bool.false_or,hbig,decide_false,Bool.false_eq_true,if_false] at HE
     subst HE;have hI:decide ((65536:Int)<(out.length:Int))=false:=by simp;omega
     go_wp2_with fail
     go_ret2
     exact ⟨_,rfl,HR.out⟩
theorem env_any {b:Bys} (sl:Int) (h:Own B w0 W (bysR bv b::ss)) (hb:b.length≤65536):
  Calls Tryz.prog 254 #[.int .i64 sl,bv] W fun e w'=> ∃v',e= .returned (.tuple #[v',.bool (envP sl b).isSome])∧Own B w0 w' (bysR v' (bysO (envP sl b))::bysR bv b::ss):=by
 obtain ⟨i0,hi,hz0,hz1,hz2⟩:=info_parts Tryz.infoU8;have HN:=zq (zea sl h);have hx:=zdf sl;obtain ⟨bo,bcap,rfl,-,-⟩:=zao (k:=0) h rfl;have HE:Hid (envP sl b=if numOk sl&&decide ((numB sl).length+b.length≤65536) then some (numB sl++b) else none):=zq rfl;have HB:Hid (numOk sl=true→numX sl=numB sl):=zq (fun h=>by unfold numX;rw [if_pos h]);generalize envP sl b=en at*;generalize numX sl=x at*;generalize numOk sl=ok at*;clear h;go_enter Tryz.func254,Tryz.ntmps254
 go_wp2_with fail
 refine HN.out.mono ?_;rintro e w1 ⟨v1,rfl,h2⟩;obtain ⟨xo,xcap,rfl,-,-⟩:=zao (k:=0) h2 rfl;have H2:=zq h2;have HR:=zq (zao (k:=1) h2 rfl);have hone:=zfs b;clear h2 HN;cases ok with
 | false=>
  have HE:=HE.out;simp only [Bool.false_and,Bool.false_eq_true,if_false] at HE;subst HE;have HF:=zq (H2.out.drop.row0 (E:=5) (sz:=1));clear H2 HR
  go_wp2_with fail
  go_ret2
  exact ⟨_,rfl,HF.out⟩
 | true=>
  have HE:=HE.out;rw [←HB.out rfl] at HE;clear HB;by_cases hbig:x.length+b.length≤65536
  ·simp only [Bool.true_and,hbig,decide_true,if_true] at HE
   subst HE;have hI:decide ((65536:Int)<(x.length:Int)+(b.length:Int))=false:=by simp;omega
   have h0:(0:Int)≤(x.length:Int):=by omega
   have h7:(x.length:Int)≤6:=by omega
   have h8:(b.length:Int)≤65536:=by omega
   go_wp2_with (at_builtin;refine zbx rfl (.tmp 23) (.tmp 24) 60 rfl 5 i0 (.int .u8 0) 1 1 Tryz.underlying60 hi hz0 hz1 hz2 rfl (by decide) H2.out 0 (.slice xo x.length xcap) x.length (bysC x) rfl rfl (.slice bo b.length bcap) b.length (bysC b) rfl HR.out hone (by unfold maxLen;omega) (by omega) ?_)
   intro ao' cap' w2 h3;have H3:Hid (Own B w0 w2 (bysR (.slice ao' (x.length+b.length) cap') (x++b)::bysR (.slice bo b.length bcap) b::ss)):=zq (by simpa [bysR,bysC] using h3);clear h3 H2 HR
   go_wp2_with fail
   go_ret2
   exact ⟨_,rfl,H3.out⟩
  ·simp only [Bool.true_and,hbig,decide_false,Bool.false_eq_true,if_false] at HE
   subst HE;have hI:(65536:Int)<(x.length:Int)+(b.length:Int):=by omega
   have h0:(0:Int)≤(x.length:Int):=by omega
   have h7:(x.length:Int)≤6:=by omega
   have h8:(b.length:Int)≤65536:=by omega
   have HF:=zq (H2.out.drop.row0 (E:=5) (sz:=1));clear H2 HR
   go_wp2_with fail
   go_ret2
   exact ⟨_,rfl,HF.out⟩
theorem zd9 {m:Ms} {b:Bys} (h:bodyP m=some b) (h1: -9223372036854775808≤m.fm) (h2:m.fm≤9223372036854775807):SOk (m.fm,b):=by
 obtain ⟨g1,g2⟩:=ze9 h;exact ⟨h1,h2,g1,by simp only;omega⟩
theorem zu8 {m:Mm} (h:Own B w0 W (mmR m (blk nt (noB nm)::ntR nm l::ss))) (hm:MmOk m) (hl:NtOk l) (hn:l.length≤1000000000) (h1: -9223372036854775808≤m.fm) (h2:m.fm≤9223372036854775807):
  Calls Tryz.prog 218 #[.agg (mmA m),.pointer (some ⟨nt,0,none⟩)] W fun e w'=> ∃v',e= .returned (.tuple #[v',.bool (sealP l m.ms).1.isSome])∧Own B w0 w' (bysR v' (bysO (sealP l m.ms).1)::blk nt (noB nm)::ntR nm (sealP l m.ms).2::mmR m ss):=by
 have h7:Own B w0 (W.alloc (mmO m)) (mmR m (blk W.heap.size (mmO m)::blk nt (noB nm)::ntR nm l::ss)):=(h.box (mmO m)).back 6 (by simp) rfl;have HB:=zq (zlr h7 hm);have hb0:(W.alloc (mmO m)).heap[W.heap.size]?=some (mmO m):=heap_alloc_new W _;obtain ⟨kind,fm,view,inst,seq,res,vb,rs,vv,vs,vc,cts,vp,pts⟩:=m;obtain ⟨a1,c1,rfl⟩: ∃a c,vb= .slice a rs.length c:=let ⟨a,c,e,_⟩:=zad (k:=5) h rfl;⟨a,c,e⟩;obtain ⟨a2,c2,rfl⟩: ∃a c,vv= .slice a vs.length c:=let ⟨a,c,e,_⟩:=zad (k:=4) h rfl;⟨a,c,e⟩;obtain ⟨a3,c3,rfl⟩: ∃a c,vc= .slice a cts.length c:=let ⟨a,c,e,_⟩:=zad (k:=2) h rfl;⟨a,c,e⟩;obtain ⟨a4,c4,rfl⟩: ∃a c,vp= .slice a pts.length c:=let ⟨a,c,e,_⟩:=zad (k:=0) h rfl;⟨a,c,e⟩;have HS:Hid (∀b,bodyP (Mm.ms ⟨kind,fm,view,inst,seq,res,.slice a1 rs.length c1,rs,.slice a2 vs.length c2,vs,.slice a3 cts.length c3,cts,.slice a4 pts.length c4,pts⟩)=some b→SOk (fm,b)∧b.length≤65536):=zq (fun b hb=>⟨zd9 hb h1 h2,(ze9 hb).2⟩);have HP:Hid (sealP l (Mm.ms ⟨kind,fm,view,inst,seq,res,.slice a1 rs.length c1,rs,.slice a2 vs.length c2,vs,.slice a3 cts.length c3,cts,.slice a4 pts.length c4,pts⟩)=match bodyP (Mm.ms ⟨kind,fm,view,inst,seq,res,.slice a1 rs.length c1,rs,.slice a2 vs.length c2,vs,.slice a3 cts.length c3,cts,.slice a4 pts.length c4,pts⟩) with | none=>(none,l) | some b=>(envP (sealN l fm b) b,sealL l fm b)):=zq rfl
 generalize sealP l (Mm.ms ⟨kind,fm,view,inst,seq,res,.slice a1 rs.length c1,rs,.slice a2 vs.length c2,vs,.slice a3 cts.length c3,cts,.slice a4 pts.length c4,pts⟩)=sp at*;generalize bodyP (Mm.ms ⟨kind,fm,view,inst,seq,res,.slice a1 rs.length c1,rs,.slice a2 vs.length c2,vs,.slice a3 cts.length c3,cts,.slice a4 pts.length c4,pts⟩)=ob at*;have x1:=zaa hb0 1 rfl;clear h h7 hm;go_enter Tryz.func218,Tryz.ntmps218
 go_wp2_with fail
 refine HB.out.mono ?_;rintro e w1 ⟨v1,rfl,h2⟩;have H2:=zq h2;have y1:=zaa (h2.blkAt 7 rfl) 1 rfl;clear h2 HB x1 hb0;cases ob with
 | none=>
  have HP:=HP.out;simp only at HP;subst HP;have HF:=zq ((((H2.out.drop.dropAt 6 (by simp)).front 7 rfl rfl).front 7 rfl rfl).row0 (E:=5) (sz:=1));clear H2;simp only [Option.isSome_none]
  go_wp2_with fail
  go_ret2
  exact ⟨_,rfl,HF.out⟩
 | some b=>
  have HP:=HP.out;simp only at HP;subst HP;obtain ⟨hsk,hbl⟩:=HS.out b rfl;have hA:=(H2.out.front 9 rfl rfl).front 9 rfl rfl;have hby:Byt w1 v1 b:=⟨zao (k:=2) hA rfl,hsk.b⟩;have HSE:=zq (zmx hA hl hsk hby hn);obtain ⟨ao,cap,rfl,-,-⟩:=zcl hby;clear hA H2 hby HS;simp only [Option.isSome_some];generalize hsl:sealN l fm b=sl at*
  go_wp2_with fail
  refine HSE.out.mono ?_;rintro e w2 ⟨rfl,h3⟩;have HEN:=zq (env_any sl (h3.front 2 rfl rfl) hbl);clear h3 HSE y1
  go_wp2_with fail
  refine HEN.out.mono ?_;rintro e w3 ⟨v3,rfl,h4⟩;have HF:=zq ((h4.dropAt 1 (by simp)).dropAt 9 (by simp));clear h4 HEN
  go_wp2_with fail
  go_ret2
  exact ⟨_,rfl,HF.out⟩
theorem zr5 {r:Res} (h:Own B w0 W rs) (hM:Go.Heap.Ms rs=[]) (hr:r.M=[]) (hq:r.Q W (List.range W.heap.size)):Own B w0 W (r::rs):=
 h.new (Upd.refl [] _) ⟨List.range W.heap.size,hq,by rw [hM];simp,by rw [hM];simp⟩ (by simp [hr])
theorem zdy {v:Value} {sz n:Nat} {xs:List Value} (h:Reads W v sz n xs):zat W v sz n xs (List.range W.heap.size):=⟨h,fun hn k hk=>List.mem_range.2 (h.lt hn k hk)⟩
theorem zjg {v:Value} {sz n:Nat} {xs:List Value} (h:Own B w0 W rs) (hM:Go.Heap.Ms rs=[]) (hr:Reads W v sz n xs):Own B w0 W (redR v sz n xs::rs):=zr5 h hM rfl ⟨zdy hr,fun k hk=>List.mem_range.1 hk⟩
theorem zqo {c:Ct} (h:CtW W c):CtIn W c (List.range W.heap.size):=let ⟨a,b,d,e⟩:=h;⟨zdy a,b,zdy d,e⟩
theorem own_mm {m:Mm} (h:MmAt W m):Own W.heap.size W W (mmR m []):=by
 have g0:=Own.start (Below.refl W.heap.size W) (Nat.le_refl _);have g1:=zjg g0 rfl h.b;have g2:=zjg g1 rfl h.v;have g3:Own W.heap.size W W (ctsR m.cts::_):=zr5 g2 rfl rfl ⟨fun c hc=>zqo (h.c.2 c hc),fun k hk=>List.mem_range.1 hk⟩;have g4:=zjg g3 rfl h.c.1;have g5:Own W.heap.size W W (ptsR m.pts::_):=zr5 g4 rfl rfl ⟨fun p hp=>let ⟨a,b,d,e⟩:=h.p.2 p hp;⟨zdy a,b,zdy d.1,e,fun c hc=>zqo (d.2 c hc)⟩,fun k hk=>List.mem_range.1 hk⟩;exact zjg g5 rfl h.p.1
theorem zht {m:Mm} (sl:Int) (hn:NtAt W nt nm l) (hl:NtOk l) (hm:MmAt W m) (h1: -9223372036854775808≤m.fm) (h2:m.fm≤9223372036854775807):
  Calls Tryz.prog 265 #[.agg (mmA m),.int .i64 sl,.pointer (some ⟨nt,0,none⟩)] W fun e w'=>e= .returned (.bool (zby l m.ms sl))∧Upd [] W w':=by
 have h:=own_mm hm;have HB:=zq (zlr (own_mm (hm.upd ((Upd.refl [] W).alloc (mmO m)))) ⟨hm.bn,hm.vn,hm.cn,hm.pn⟩);have HN:=zq hn;have hb0:(W.alloc (mmO m)).heap[W.heap.size]?=some (mmO m):=heap_alloc_new W _;obtain ⟨kind,fm,view,inst,seq,res,vb,rs,vv,vs,vc,cts,vp,pts⟩:=m;obtain ⟨a1,c1,rfl⟩: ∃a c,vb= .slice a rs.length c:=let ⟨a,c,e,_⟩:=zad (k:=5) h rfl;⟨a,c,e⟩;obtain ⟨a2,c2,rfl⟩: ∃a c,vv= .slice a vs.length c:=let ⟨a,c,e,_⟩:=zad (k:=4) h rfl;⟨a,c,e⟩;obtain ⟨a3,c3,rfl⟩: ∃a c,vc= .slice a cts.length c:=let ⟨a,c,e,_⟩:=zad (k:=2) h rfl;⟨a,c,e⟩;obtain ⟨a4,c4,rfl⟩: ∃a c,vp= .slice a pts.length c:=let ⟨a,c,e,_⟩:=zad (k:=0) h rfl;⟨a,c,e⟩;have HS:Hid (∀b,bodyP (Mm.ms ⟨kind,fm,view,inst,seq,res,.slice a1 rs.length c1,rs,.slice a2 vs.length c2,vs,.slice a3 cts.length c3,cts,.slice a4 pts.length c4,pts⟩)=some b→SOk (fm,b)):=zq (fun b hb=>zd9 hb h1 h2);have HP:Hid (zby l (Mm.ms ⟨kind,fm,view,inst,seq,res,.slice a1 rs.length c1,rs,.slice a2 vs.length c2,vs,.slice a3 cts.length c3,cts,.slice a4 pts.length c4,pts⟩) sl=match bodyP (Mm.ms ⟨kind,fm,view,inst,seq,res,.slice a1 rs.length c1,rs,.slice a2 vs.length c2,vs,.slice a3 cts.length c3,cts,.slice a4 pts.length c4,pts⟩) with | none=>false | some b=>decide ((fm,b)∈l)&&(findN l fm b==sl)):=zq rfl
 generalize zby l (Mm.ms ⟨kind,fm,view,inst,seq,res,.slice a1 rs.length c1,rs,.slice a2 vs.length c2,vs,.slice a3 cts.length c3,cts,.slice a4 pts.length c4,pts⟩) sl=sp at*;generalize bodyP (Mm.ms ⟨kind,fm,view,inst,seq,res,.slice a1 rs.length c1,rs,.slice a2 vs.length c2,vs,.slice a3 cts.length c3,cts,.slice a4 pts.length c4,pts⟩)=ob at*;have x1:=zaa hb0 1 rfl;have hua:=zq ((Upd.refl [] W).alloc (mmO ⟨kind,fm,view,inst,seq,res,.slice a1 rs.length c1,rs,.slice a2 vs.length c2,vs,.slice a3 cts.length c3,cts,.slice a4 pts.length c4,pts⟩));have hlt:=zq (show W.heap.size≤(W.alloc (mmO ⟨kind,fm,view,inst,seq,res,.slice a1 rs.length c1,rs,.slice a2 vs.length c2,vs,.slice a3 cts.length c3,cts,.slice a4 pts.length c4,pts⟩)).heap.size by simp);clear h hm hn;go_enter Tryz.func265,Tryz.ntmps265
 go_wp2_with fail
 refine HB.out.mono ?_;rintro e w1 ⟨v1,rfl,h2⟩;have hu:Upd [] _ w1:=Upd.of_below h2.below;have y1:=zap hu x1;have HU:=zq (hua.out.trans hu);have hby:=zq (zao (k:=0) h2 rfl);clear h2 HB x1 hb0 hu;cases ob with
 | none=>
  have HP:=zq (HP.out);simp only at HP;simp only [Option.isSome_none]
  go_wp2_with fail
  go_ret
  rw [HP.out];exact ⟨rfl,HU.out⟩
 | some b=>
  have HP:=zq (HP.out);simp only at HP;have hsk:=HS.out b rfl;have hb:Byt w1 v1 b:=⟨hby.out,hsk.b⟩;have HC:=zq (zgj (sl:=sl) (HN.out.upd HU.out) hl hsk hb);obtain ⟨ao,cap,rfl,-,-⟩:=zcl hb;clear hb hby HS;simp only [Option.isSome_some]
  go_wp2_with fail
  refine HC.out.mono ?_;rintro e w3 ⟨rfl,hu3⟩;have HU3:=zq (HU.out.trans hu3);clear hu3 HC
  go_wp2_with fail
  go_ret
  rw [HP.out];exact ⟨rfl,HU3.out⟩
end
def rqB0 (r:Rq):Bys:=reqB {r with sl:=0}
def rqX (r:Rq):Bys:=if reqW {r with sl:=0} then rqB0 r else []
def rqSealed (l:Nt) (cl:Int) (r:Rq):Bool:=okReq r cl&&(decide ((100+r.client,rqB0 r)∈l)&&(findN l (100+r.client) (rqB0 r)==r.sl))
def cmpI (a b:Int):Int:=if a<b then-1 else if b<a then 1 else 0
def orI:List Int→Int
 | []=>0
 | x::l=>if x=0 then orI l else x
def cmpRq (a b:Rq):Int:=orI [cmpI a.client b.client,cmpI a.time b.time,cmpI a.kind b.kind,cmpI a.key b.key,cmpI a.val b.val,cmpI a.sl b.sl]
theorem zr4 {r:Rq} {cl:Int} (h:okReq r cl=true) (hcl:cl≤4):reqW {r with sl:=0}=true∧0≤r.client∧r.client<cl:=by
 unfold okReq inW zc5 at h;simp only [Bool.and_eq_true,Bool.or_eq_true,decide_eq_true_eq] at h;obtain ⟨⟨⟨⟨⟨c1,c2⟩,t1,t2⟩,s1,s2⟩,⟨k1,k2⟩,v1,v2⟩,hk⟩:=h;refine ⟨?_,c1,by omega⟩;unfold reqW numOk sgnOk;simp only [Bool.and_eq_true,decide_eq_true_eq];refine ⟨⟨c1,by omega⟩,⟨by omega,by omega⟩,⟨by omega,by omega⟩,⟨by omega,by omega⟩,⟨by omega,by omega⟩,by omega,by omega⟩
theorem rqB0_ok {r:Rq} {cl:Int} (h:okReq r cl=true) (hcl:cl≤4):SOk (100+r.client,rqB0 r):=by
 obtain ⟨h1,h2,h3⟩:=zr4 h hcl;refine ⟨by simp only;omega,by simp only;omega,zjq h1,?_⟩;have h4:=(zlj {r with sl:=0} w00).2 h1;have h5:=zf3 w00 {r with sl:=0};have h6:(wReq w00 {r with sl:=0}).out=[]++rqB0 r:=h4;rw [h6] at h5;simp at h5⊢;omega
section
variable {B:Nat} {w0 w W W':World} {ss rs:List Res} {nt nm:Nat} {v bv:Value} {l:Nt}
theorem zsv (r:Rq) (W:World):Calls Tryz.prog 259 #[rqAgg r] W fun e w'=> ∃v',e= .returned (.tuple #[v',.bool (reqW {r with sl:=0})])∧Own W.heap.size W w' [bysR v' (rqX r)]:=by
 have h1:=(Own.start (Below.refl W.heap.size W) (Nat.le_refl _)).alloc (rqO {r with sl:=0});have HC:=zq (zpk {r with sl:=0} h1);rw [show (if reqW {r with sl:=0} then reqB {r with sl:=0} else [])=rqX r from rfl] at HC;clear h1;generalize reqW {r with sl:=0}=ok at*;generalize rqX r=b at*;unfold rqAgg;go_enter Tryz.func259,Tryz.ntmps259
 go_wp2_with fail
 refine HC.out.mono ?_;rintro e w1 ⟨v1,rfl,h2⟩;have H2:=zq h2;clear h2 HC
 go_wp2_with fail
 go_ret2
 exact ⟨_,rfl,H2.out⟩
theorem zmo (r:Rq) {cl:Int} (hn:NtAt W nt nm l) (hl:NtOk l) (hcl:cl≤4):Calls Tryz.prog 231 #[rqAgg r,.int .i64 cl,.pointer (some ⟨nt,0,none⟩)] W fun e w'=>e= .returned (.bool (rqSealed l cl r))∧Upd [] W w':=by
 have HV:=zq (zok r cl (W.alloc (rqO r)));have HN:=zq hn;have hb0:(W.alloc (rqO r)).heap[W.heap.size]?=some (rqO r):=heap_alloc_new W _;have hua:=zq ((Upd.refl [] W).alloc (rqO r));have HO:=zq (@rqB0_ok r cl);have HW:=zq (@zr4 r cl);have HE:Hid (rqSealed l cl r=(okReq r cl&&(decide ((100+r.client,rqB0 r)∈l)&&(findN l (100+r.client) (rqB0 r)==r.sl)))):=zq rfl;have HB:=zq (fun W=>zsv r W);have x0:=zaa hb0 0 rfl;clear hn;generalize rqSealed l cl r=res at*;unfold rqAgg at*;cases hok:okReq r cl with
 | false=>
  rw [hok] at HV HE;have HE:=zq (HE.out);simp only [Bool.false_and] at HE;go_enter Tryz.func231,Tryz.ntmps231
  go_wp2_with fail
  refine HV.out.mono ?_;rintro e w1 ⟨rfl,hu⟩;have HU:=zq (hua.out.trans hu);clear hu HV
  go_wp2_with fail
  go_ret
  rw [HE.out];exact ⟨rfl,HU.out⟩
 | true=>
  obtain ⟨hw,-,-⟩:=HW.out hok hcl;rw [hok] at HV HE;simp only [Bool.true_and] at HE;go_enter Tryz.func231,Tryz.ntmps231
  go_wp2_with fail
  refine HV.out.mono ?_;rintro e w1 ⟨rfl,hu⟩;have y0:=zap hu x0;have HU:=zq (hua.out.trans hu);have hbb:w1.heap[W.heap.size]?=some (rqO r):=(hu.block _ (by simp) (by simp)).trans hb0;have y1:=zaa hbb 1 rfl;have y2:=zaa hbb 2 rfl;have y3:=zaa hbb 3 rfl;have y4:=zaa hbb 4 rfl;have y5:=zaa hbb 5 rfl;have HB1:=zq (HB.out w1);rw [hw] at HB1;clear hu HV x0 hb0
  go_wp2_with fail
  refine HB1.out.mono ?_;rintro e w2 ⟨v2,rfl,h2⟩;have hu2:Upd [] w1 w2:=Upd.of_below h2.below;have z0:=zap hu2 y0;have z5:=zap hu2 y5;have HU2:=zq (HU.out.trans hu2);have hr:=zao (k:=0) h2 rfl;rw [show rqX r=rqB0 r by unfold rqX;rw [if_pos hw]] at hr;have hby:Byt w2 v2 (rqB0 r):=⟨hr,(HO.out hok hcl).b⟩;have HC:=zq (zgj (sl:=r.sl) (HN.out.upd HU2.out) hl (HO.out hok hcl) hby);obtain ⟨ao,cap,rfl,-,-⟩:=zcl hby;clear hr hby h2 hu2 HB1 y0 y1 y2 y3 y4 y5;have hlo: -9223372036854775808≤100+r.client∧100+r.client≤9223372036854775807:=⟨(HO.out hok hcl).p1,(HO.out hok hcl).p2⟩
  go_wp2_with fail
  refine HC.out.mono ?_;rintro e w3 ⟨rfl,hu3⟩;have HU3:=zq (HU2.out.trans hu3);clear hu3 HC
  go_wp2_with fail
  go_ret
  rw [HE.out];exact ⟨rfl,HU3.out⟩
theorem zxf (a:Int) (W:World):Calls Tryz.prog 305 #[.int .i64 a] W fun e w'=>e= .returned (.bool false)∧W=w':=by
 have h:(a==a)=true:=by simp
 go_enter Tryz.func305,Tryz.ntmps305
 go_wp2_with fail
 go_ret
 exact ⟨rfl,rfl⟩
theorem zqj (a b:Int) (W:World):Calls Tryz.prog 284 #[.int .i64 a,.int .i64 b] W fun e w'=>e= .returned (.int .i64 (cmpI a b))∧W=w':=by
 have HA:=zq (zxf a W);have HB:=zq (zxf b W);by_cases h1:a<b
 ·have HE:Hid (cmpI a b= -1):=zq (by unfold cmpI;rw [if_pos h1])
  go_enter Tryz.func284,Tryz.ntmps284
  go_wp2_with fail
  refine HA.out.mono ?_;rintro e w1 ⟨rfl,rfl⟩
  go_wp2_with fail
  refine HB.out.mono ?_;rintro e w1 ⟨rfl,rfl⟩
  go_wp2_with fail
  go_ret
  rw [HE.out];exact ⟨rfl,rfl⟩
 ·have h1':decide (a<b)=false:=by simp;omega
  by_cases h2:b<a
  ·have HE:Hid (cmpI a b=1):=zq (by unfold cmpI;rw [if_neg h1,if_pos h2])
   clear h1;go_enter Tryz.func284,Tryz.ntmps284
   go_wp2_with fail
   refine HA.out.mono ?_;rintro e w1 ⟨rfl,rfl⟩
   go_wp2_with fail
   refine HB.out.mono ?_;rintro e w1 ⟨rfl,rfl⟩
   go_wp2_with fail
   go_ret
   rw [HE.out];exact ⟨rfl,rfl⟩
  ·have h2':decide (b<a)=false:=by simp;omega
   have HE:Hid (cmpI a b=0):=zq (by unfold cmpI;rw [if_neg h1,if_neg h2]);clear h1 h2;go_enter Tryz.func284,Tryz.ntmps284
   go_wp2_with fail
   refine HA.out.mono ?_;rintro e w1 ⟨rfl,rfl⟩
   go_wp2_with fail
   refine HB.out.mono ?_;rintro e w1 ⟨rfl,rfl⟩
   go_wp2_with fail
   go_ret
   rw [HE.out];exact ⟨rfl,rfl⟩
theorem zz3 {l:List Int} {k:Nat} (hk:k<l.length) (h: ∀j (hj:j<l.length),j<k→l[j]=0):orI l=orI (l.drop k):=by
 induction k generalizing l with
 | zero=>rfl
 | succ k ih=>cases l with
  | nil=>simp at hk
  | cons x l=>
   have:=h 0 (by simp) (by omega);simp only [List.getElem_cons_zero] at this;subst this;rw [List.drop_succ_cons,←ih (l:=l) (by simpa using hk) (fun j hj hjk=>by have:=h (j+1) (by simpa using hj) (by omega);simpa using this)];simp [orI]
theorem zvg {xs:List Int} {lv:Value} (hr:Reads W lv 1 xs.length (intC xs)) (hx:xs.length≤1000):Calls Tryz.prog 283 #[lv] W fun e w'=>e= .returned (.int .i64 (orI xs))∧W=w':=by
 have H:=zq hr;obtain ⟨ao,cap,rfl,hcap,-⟩:=hr;go_enter Tryz.func283,Tryz.ntmps283
 go_wp2_with fail
 go_loop [8] (fun i=> ∃k:Nat,i= .int .i64 k∧k≤xs.length∧ ∀j (hj:j<xs.length),j<k→xs[j]=0) (fun i=>xs.length-(intOf i).toNat)
 case atStart=>exact ⟨0,rfl,by omega,fun j hj h=>by omega⟩
 case round=>
  obtain ⟨k,rfl,hk,hz⟩:=hrel;by_cases hlt:k<xs.length
  ·have hkI:(k:Int)<(xs.length:Int):=by omega
   have hk0:(0:Int)≤(k:Int):=by omega
   have hcI:(xs.length:Int)≤(cap:Int):=by omega
   obtain ⟨ao',cap',e0,-,-,-,-,h5⟩:=H.out;simp only [Value.slice.injEq,true_and] at e0;obtain ⟨rfl,-⟩:=e0;obtain ⟨b,o,rfl,-,hc⟩:=h5 (by omega);have r0:W.cell? ⟨b,o+k,none⟩=some (.int .i64 xs[k]):=by rw [hc k (by omega)];simp [hlt]
   have HD:=zq (zz3 hlt hz);rw [←List.getElem_cons_drop hlt] at HD;clear hc h5;by_cases hx0:xs[k]=0
   ·have e0:(xs[k]==0)=true:=by simp [hx0]
    have HZ:Hid (∀j (hj:j<xs.length),j<k+1→xs[j]=0):=zq (fun j hj h=>by
     by_cases e:j=k
     ·subst e;exact hx0
     ·exact hz j hj (by omega))
    clear HD hz;rw [hx0] at r0;clear hx0 e0
    go_wp2_with fail
    go_round
    case rel=>exact ⟨k+1,by go_num,by omega,HZ.out⟩
    case measure=>simp [intOf];omega
   ·have e0:(xs[k]==0)=false:=by simp [hx0]
    have HE:Hid (orI xs=xs[k]):=zq (by rw [HD.out];simp [orI,hx0]);clear HD hz;generalize xs[k]=x at*
    go_wp2_with fail
    go_ret
    rw [HE.out];exact ⟨rfl,rfl⟩
  ·have hkI:decide ((k:Int)<(xs.length:Int))=false:=by simp;omega
   have HE:Hid (orI xs=0):=zq (by
    have e:k=xs.length:=by omega
    subst e;have: ∀l:List Int,(∀x∈l,x=0)→orI l=0:=fun l=>by
     induction l with
     | nil=>intro _;rfl
     | cons x l ih=>intro h;have:=h x (by simp);subst this;simp [orI,ih (fun y hy=>h y (by simp [hy]))]
    refine this xs (fun x hx=> ?_);obtain ⟨j,hj,rfl⟩:=List.getElem_of_mem hx;exact hz j hj hj)
   clear hz
   go_wp2_with fail
   go_ret
   rw [HE.out];exact ⟨rfl,rfl⟩
end
end Go.Proofs.YtannckelmojkoaaGreat
