/- Parts of the proof, one behind the other. -/
import Derived.Test.YtannckelmojkoaaGreatVwsB31
set_option maxHeartbeats 32000000
set_option maxRecDepth 100000
set_option linter.unusedVariables false
set_option linter.unusedSimpArgs false
namespace Go.Proofs.YtannckelmojkoaaGreat
open Go.RowKit Go.Heap
def partP (f:Nat) (skip:Int) (l:Nt) (view fm:Int) (cps:List Cp):Pa×Nt:=
 let q:=vtsGo (fun k=>(nilMm 6 k (view-1) 0 0 0).ms) l (quoKs f (skip%(f+1)) (2*f+1))
 (⟨fm,q.1,cps,msS q.2 ⟨7,fm,view,0,0,0,[],q.1,cps,[]⟩⟩,msSL q.2 ⟨7,fm,view,0,0,0,[],q.1,cps,[]⟩)
abbrev intO1' (v:Int):Obj:= .cells #[.int .i64 v] 3 (0,0)
abbrev paO (fm:Int) (vv cv:Value) (sl:Int):Obj:= .cells #[.int .i64 fm,vv,cv,.int .i64 sl] 49 (0,0)
section
variable {B:Nat} {w0 w W W':World} {ss rs:List Res} {nt nm rn:Nat} {vp:Value} {vt:Rn} {l:Nt}
theorem zz4 {b:Nat} {T:TypeId} {c0 c1 c2 c3 v0 v1 v2 v3:Value} (h:Own B w0 W (blk b (.cells #[c0,c1,c2,c3] T (0,0))::rs)):Own B w0 ((((W.setCell ⟨b,0,none⟩ v0).setCell ⟨b,1,none⟩ v1).setCell ⟨b,2,none⟩ v2).setCell ⟨b,3,none⟩ v3) (blk b (.cells #[v0,v1,v2,v3] T (0,0))::rs):=Own.storeTo (Own.storeTo (Own.storeTo (Own.storeTo h 0 v0 rfl) 1 v1 rfl) 2 v2 rfl) 3 v3 rfl
theorem zvr {view:Int} {p1:Nat} (h0: -1000≤view) (h1:view≤1000) (hm:blk p1 (intO1' view)∈ss):
  MkC B w0 ss 68 #[ptrV p1] (fun k=>nilMm 6 k (view-1) 0 0 0):=by
 intro W rs k hk0 hk1 h hs;obtain ⟨j1,e1⟩:=List.getElem?_of_mem (hs _ hm);have b1:=h.blkAt j1 e1;have x0:(W.alloc (mmB (nilMm 0 0 0 0 0 0))).cell? ⟨p1,0,none⟩=some (.int .i64 view):=zay (zaa b1 0 rfl);have hw:IntKind.i64.wrap (view-1)=view-1:=IntWalk.i64_in _ (by omega);have H:=zq (h.box (mmB (nilMm 6 k (view-1) 0 0 0)));clear h hs b1 e1 hm;show Calls Tryz.prog 68 #[.int .i64 k,ptrV p1] W _;go_enter Tryz.func68,Tryz.ntmps68
 go_wp2_with fail
 obtain ⟨y,hy⟩: ∃y,y=W.alloc (mmB (nilMm 6 k (view-1) 0 0 0)):=⟨_,rfl⟩;rw [←hy] at H
 change bodyPost _ _ _ _ _ (W.alloc (mmB (nilMm 6 k (view-1) 0 0 0)))
 rw [←hy];obtain ⟨f0,f1,f2,f3,f4,f5,f6,f7,f8,f9⟩:=zai (w:=y) (m:=nilMm 6 k (view-1) 0 0 0) (H.out.blkAt 0 rfl);simp only at f0 f1 f2 f3 f4 f5 f6 f7 f8 f9;refine bodyPost_ret (v:= .agg (mmA (nilMm 6 k (view-1) 0 0 0))) (by simp [results,Tryz.results68,go_sem,f0,f1,f2,f3,f4,f5,f6,f7,f8,f9]) rfl ⟨rfl,?_⟩;have h2:=H.out.drop;have h3:Own B w0 y (redR (.slice none 0 0) 6 0 []::rs):=zbz 6 h2;have h4:=zbz 2 h3;have h5:Own B w0 y (ctsR []::_):=h4.mkCts (by simp);have h6:=zbz 5 h5;have h7:Own B w0 y (ptsR []::_):=h6.mkPts (by simp);exact zbz 4 h7
theorem zta {view fm skip:Int} {f:Nat} {ac:Option Addr} {cc:Nat} {cts:List Ct} (h:Own B w0 W (twR nt nm rn vp vt l (redR (.slice ac cts.length cc) 5 cts.length (cts.flatMap zag)::ctsR cts::ss))) (hl:NtOk l) (hn:l.length≤800000000) (hf1:1≤f) (hf2:f≤4) (hv0: -1000≤view) (hv1:view≤1000) (hm0:0≤fm) (hm1:fm≤1000) (hc:cts.length≤100000):
  Calls Tryz.prog 22 #[.agg (twA nt rn),.int .i64 f,.int .i64 view,.int .i64 fm,.int .i64 skip,.slice ac cts.length cc] W fun e w'=> ∃a2 c2 vp' vt',e= .returned (.agg #[.int .i64 fm,.slice a2 (2*f+1) c2,.slice ac cts.length cc,.int .i64 (partP f skip l view fm (cts.map Ct.cp)).1.sl])∧Own B w0 w' (redR (.slice a2 (2*f+1) c2) 2 (2*f+1) (zaf (partP f skip l view fm (cts.map Ct.cp)).1.vs)::twR nt nm rn vp' vt' (partP f skip l view fm (cts.map Ct.cp)).2 (redR (.slice ac cts.length cc) 5 cts.length (cts.flatMap zag)::ctsR cts::ss)):=by
 have h1:=(((h.box (twO nt rn)).box (intO1' view)).box (paO 0 (.slice none 0 0) (.slice none 0 0) 0)).box (paO fm (.slice none 0 0) (.slice ac cts.length cc) 0);simp only [zav] at h1;have hmf:=Tryz.mkf;have h2:Own B w0 _ (twR nt nm rn vp vt l (blk (W.heap.size+1+1+1) (paO fm (.slice none 0 0) (.slice ac cts.length cc) 0)::blk (W.heap.size+1+1) (paO 0 (.slice none 0 0) (.slice none 0 0) 0)::blk (W.heap.size+1) (intO1' view)::blk W.heap.size (twO nt rn)::redR (.slice ac cts.length cc) 5 cts.length (cts.flatMap zag)::ctsR cts::ss)):=h1.perm ((List.perm_append_comm (l₁:=[_,_,_,_]) (l₂:=[_,_,_,_,_])).append_right _);have HV:=zq (zm2 (skip:=skip) h2 (fun k=>⟨by simp,by simp,by simp,by simp⟩) (fun k=>rfl) hl (by omega) hf1 hf2 (zvr (p1:=W.heap.size+1) hv0 hv1 (by simp)));have HL1:Hid (NtOk (vtsGo (fun k=>(nilMm 6 k (view-1) 0 0 0).ms) l (quoKs f (skip%(f+1)) (2*f+1))).2):=zq (zh0 hl (fun k hk=>by
  have h2:0≤k∧k≤1000:=by
   unfold quoKs at hk;simp only [List.mem_map,List.mem_range] at hk;obtain ⟨i,hi,rfl⟩:=hk;unfold quoK;split<;>omega
  show-9223372036854775808≤k∧k≤9223372036854775807;omega))
 have HN1:Hid ((vtsGo (fun k=>(nilMm 6 k (view-1) 0 0 0).ms) l (quoKs f (skip%(f+1)) (2*f+1))).2.length≤900000000):=zq (by
  have h1:=zhz (fun k=>(nilMm 6 k (view-1) 0 0 0).ms) l (quoKs f (skip%(f+1)) (2*f+1));rw [zbb] at h1;omega)
 have HVL:Hid ((vtsGo (fun k=>(nilMm 6 k (view-1) 0 0 0).ms) l (quoKs f (skip%(f+1)) (2*f+1))).1.length=2*f+1):=zq (by rw [zdp,zbb]);have HP:Hid (partP f skip l view fm (cts.map Ct.cp)=(⟨fm,(vtsGo (fun k=>(nilMm 6 k (view-1) 0 0 0).ms) l (quoKs f (skip%(f+1)) (2*f+1))).1,cts.map Ct.cp,msS (vtsGo (fun k=>(nilMm 6 k (view-1) 0 0 0).ms) l (quoKs f (skip%(f+1)) (2*f+1))).2 ⟨7,fm,view,0,0,0,[],(vtsGo (fun k=>(nilMm 6 k (view-1) 0 0 0).ms) l (quoKs f (skip%(f+1)) (2*f+1))).1,cts.map Ct.cp,[]⟩⟩,msSL (vtsGo (fun k=>(nilMm 6 k (view-1) 0 0 0).ms) l (quoKs f (skip%(f+1)) (2*f+1))).2 ⟨7,fm,view,0,0,0,[],(vtsGo (fun k=>(nilMm 6 k (view-1) 0 0 0).ms) l (quoKs f (skip%(f+1)) (2*f+1))).1,cts.map Ct.cp,[]⟩)):=zq rfl;generalize vtsGo (fun k=>(nilMm 6 k (view-1) 0 0 0).ms) l (quoKs f (skip%(f+1)) (2*f+1))=VG at*;generalize partP f skip l view fm (cts.map Ct.cp)=PP at*;obtain ⟨A,l3⟩:=VG;simp only at HV HL1 HN1 HVL HP;have t0:=zaa (h2.blkAt 8 rfl) 0 rfl;have t1:=zaa (h2.blkAt 8 rfl) 1 rfl;clear h h1 h2 hl;go_enter Tryz.func22,Tryz.ntmps22
 go_wp2_with fail
 refine HV.out.mono ?_;rintro e w1 ⟨v2,vp1,vt1,rfl,h3⟩;generalize W.heap.size=q at*;obtain ⟨a2,c2,rfl⟩: ∃a c,v2= .slice a (2*f+1) c:=let ⟨a,c,e,_⟩:=zad (k:=0) h3 rfl;⟨a,c,e⟩;have h4:Own B w0 w1 (blk (q+1+1+1) (paO fm (.slice none 0 0) (.slice ac cts.length cc) 0)::_):=h3.front 6 rfl rfl
 dsimp only [List.eraseIdx] at h4
 have y1:=zaa (h4.blkAt 0 rfl) 1 rfl;have z1:=zab (h4.blkAt 0 rfl) 1;have h5:=Own.storeTo h4 1 (.slice a2 (2*f+1) c2) (o':=paO fm (.slice a2 (2*f+1) c2) (.slice ac cts.length cc) 0) rfl;have h6:Own B w0 _ (twR nt nm rn vp1 vt1 l3 (blk (q+1+1+1) (paO fm (.slice a2 (2*f+1) c2) (.slice ac cts.length cc) 0)::redR (.slice a2 (2*f+1) c2) 2 (2*f+1) (zaf A)::blk (q+1+1) (paO 0 (.slice none 0 0) (.slice none 0 0) 0)::blk (q+1) (intO1' view)::blk q (twO nt rn)::redR (.slice ac cts.length cc) 5 cts.length (cts.flatMap zag)::ctsR cts::ss)):=h5.perm ((List.perm_append_comm (l₁:=[_,_]) (l₂:=[_,_,_,_,_])).append_right _);have hvl:=HVL.out;have hml:redR (.slice a2 (2*f+1) c2) 2 (2*f+1) (zaf A)=redR (.slice a2 (2*f+1) c2) 2 A.length (zaf A):=by rw [hvl]
 have k1:Own B w0 _ (redR (.slice a2 (2*f+1) c2) 2 A.length (zaf A)::_):=h6.copy (by rw [←hml];simp) rfl;have k2:Own B w0 _ (ctsR cts::_):=k1.copy (by simp) rfl;have k3:Own B w0 _ (redR (.slice ac cts.length cc) 5 cts.length (cts.flatMap zag)::_):=k2.copy (by simp) rfl;have HMS:=zq (zjy (zxs (id:=fm) (view:=view) k3) ⟨by simp,by show A.length≤_;omega,hc,by simp⟩ HL1.out (by have:=HN1.out;omega) (by show-9223372036854775808≤fm;omega) (by show fm≤9223372036854775807;omega));have x0:=zaa (h6.blkAt 9 rfl) 0 rfl;have x1:=zaa (h6.blkAt 9 rfl) 1 rfl;have v0:=zaa (h6.blkAt 8 rfl) 0 rfl;have p0:=zaa (h6.blkAt 5 rfl) 0 rfl;have p1:=zaa (h6.blkAt 5 rfl) 1 rfl;have p2:=zaa (h6.blkAt 5 rfl) 2 rfl;have p3:=zaa (h6.blkAt 5 rfl) 3 rfl;clear h3 h4 h5 h6 k1 k2 k3 hml HV t0 t1 HL1 HN1
 go_wp2_with fail
 refine HMS.out.mono ?_;rintro e w3 ⟨rfl,vp3,vt3,h7⟩;have hsl:msS l3 (vcMm fm view (.slice a2 (2*f+1) c2) A (.slice ac cts.length cc) cts).ms=PP.1.sl:=by rw [HP.out];rfl
 have hnt:msSL l3 (vcMm fm view (.slice a2 (2*f+1) c2) A (.slice ac cts.length cc) cts).ms=PP.2:=by rw [HP.out];rfl
 have hvs:A=PP.1.vs:=by rw [HP.out]
 rw [hnt] at h7;rw [hsl];have h8:=zzv h7;have h9:Own B w0 w3 (blk (q+1+1+1) (paO fm (.slice a2 (2*f+1) c2) (.slice ac cts.length cc) 0)::_):=h8.front 5 rfl rfl
 dsimp only [List.eraseIdx] at h9
 have s3:=zaa (h9.blkAt 0 rfl) 3 rfl;have z3:=zab (h9.blkAt 0 rfl) 3;have h10:=Own.storeTo h9 3 (.int .i64 PP.1.sl) (o':=paO fm (.slice a2 (2*f+1) c2) (.slice ac cts.length cc) PP.1.sl) rfl;have u0:=zaa (h10.blkAt 0 rfl) 0 rfl;have u1:=zaa (h10.blkAt 0 rfl) 1 rfl;have u2:=zaa (h10.blkAt 0 rfl) 2 rfl;have u3:=zaa (h10.blkAt 0 rfl) 3 rfl;have h11:=h10.front 7 rfl rfl
 dsimp only [List.eraseIdx] at h11
 have g0:=zab (h11.blkAt 0 rfl) 0;have g1:=zab (h11.blkAt 0 rfl) 1;have g2:=zab (h11.blkAt 0 rfl) 2;have g3:=zab (h11.blkAt 0 rfl) 3;have m0:=zaa (h11.blkAt 0 rfl) 0 rfl;have m1:=zaa (h11.blkAt 0 rfl) 1 rfl;have m2:=zaa (h11.blkAt 0 rfl) 2 rfl;have m3:=zaa (h11.blkAt 0 rfl) 3 rfl;have H12:=zq (zz4 (v0:= .int .i64 fm) (v1:= .slice a2 (2*f+1) c2) (v2:= .slice ac cts.length cc) (v3:= .int .i64 PP.1.sl) h11);clear h7 h8 h9 h10 h11 HMS hsl hnt x0 x1 v0 p0 p1 p2 p3 y1 z1
 go_wp2_with fail
 generalize World.setCell _ _ _=y at*;have f0:=zaa (H12.out.blkAt 0 rfl) 0 rfl;have f1:=zaa (H12.out.blkAt 0 rfl) 1 rfl;have f2:=zaa (H12.out.blkAt 0 rfl) 2 rfl;have f3:=zaa (H12.out.blkAt 0 rfl) 3 rfl;refine bodyPost_ret (v:= .agg #[.int .i64 fm,.slice a2 (2*f+1) c2,.slice ac cts.length cc,.int .i64 PP.1.sl]) (by simp [results,Tryz.results22,go_sem,f0,f1,f2,f3]) rfl ⟨a2,c2,vp3,vt3,rfl,?_⟩;rw [←hvs];have n1:=((H12.out.drop.drop).dropAt 6 (by simp)).dropAt 6 (by simp)
 dsimp only [List.eraseIdx] at n1
 exact n1.front 5 rfl rfl
end
theorem zxa {α:Type} {g:α→Bys} {K:Nat}: ∀(l:List α),(∀a∈l,(g a).length≤K)→(l.flatMap g).length≤K*l.length
 | [],_=>by simp
 | a::l,h=>by
  have h1:=h a (by simp);have h2:=zxa l (fun b hb=>h b (by simp [hb]));rw [List.flatMap_cons,List.length_append,List.length_cons,Nat.mul_add];omega
theorem zi8 {α:Type} {g:α→Bys} {K:Nat} (l:List α) (h: ∀a∈l,(g a).length≤K):(listB g l).length≤6+K*l.length:=by
 have h1:=zaz ((l.length:Nat):Int);have h2:=zxa l h;unfold listB;rw [List.length_append];omega
theorem vts_le (vs:Vs):(listB vtB vs).length≤6+12*vs.length:=zi8 vs (fun a _=>by
 have h1:=zaz a.1;have h2:=zaz a.2;unfold vtB;rw [List.length_append];omega)
theorem cert_le (c:Cp) (hr:c.rs.length≤1) (hv:c.vs.length≤9):(certB c).length≤180:=by
 have n1:=zaz c.view;have n2:=zaz c.inst;have n3:=zaz c.seq;have n4:=zi8 c.rs (K:=36) (fun a _=>zv3 a);have n5:=vts_le c.vs;unfold certB;simp only [List.length_append];omega
theorem zqe (cs:List Cp) (hc:cs.length≤1) (h: ∀c∈cs,c.rs.length≤1∧c.vs.length≤9):(listB certB cs).length≤186:=by
 have:=zi8 cs (K:=180) (fun c hm=>cert_le c (h c hm).1 (h c hm).2);omega
theorem part_le (p:Pa) (hv:p.vs.length≤9) (hc:p.cs.length≤1) (h: ∀c∈p.cs,c.rs.length≤1∧c.vs.length≤9):(partB p).length≤320:=by
 have n1:=zaz p.fm;have n2:=zaz p.sl;have n4:=vts_le p.vs;have n5:=zqe p.cs hc h;unfold partB;simp only [List.length_append];omega
theorem zna {m:Ms} (hw:msW m=true) (hl:(msB m).length≤65530):bodyP m=some (msB m):=by
 unfold bodyP;rw [hw,if_pos (by simp;omega)]
theorem zyk (k v:Int):(msB (chgP k v)).length≤65530:=chg_len k v
theorem chgP_w {k v:Int} (k0:0≤k) (k1:k≤100) (v0:0≤v) (v1:v≤100):msW (chgP k v)=true:=by
 have a:=zbe k0 (by omega);have b:=zbe v0 (by omega);have c:numOk 0=true:=by decide
 have d:numOk 6=true:=by decide
 have e:sgnOk 0=true:=by decide
 unfold msW chgP;simp only [a,b,c,d,e,listW,List.all_nil,List.length_nil];rfl
theorem zt6 {k v:Int} (k0:0≤k) (k1:k≤100) (v0:0≤v) (v1:v≤100):(bodyP (chgP k v)).isSome=true:=by
 rw [zna (chgP_w k0 k1 v0 v1) (zyk k v)];rfl
structure VotesC (f:Nat) (l:Nt) (v:Int) (vs:Vs):Prop where
 len:vs.length=2*f+1
 ch:zd1 l v vs f=true
 ok:zd5 vs f=true
 w:listW vtW vs=true
theorem VotesC.px {f:Nat} {l l':Nt} {v:Int} {vs:Vs} (h:VotesC f l v vs) (hp:Px l l'):VotesC f l' v vs:=by
 refine ⟨h.len,?_,h.ok,h.w⟩;have h1:=h.ch;unfold zd1 at h1⊢;simp only [Bool.and_eq_true] at h1⊢;exact ⟨h1.1,h1.2.1,zix h1.2.2 (fun k _ hk=>hp.sealed hk)⟩
theorem zwr {f:Nat} {l:Nt} {v:Int} (hn:l.length≤900000000) (hf1:1≤f) (hf2:f≤4) (v0:0≤v) (v1:v≤11):
  VotesC f (vtsGo (fun k=>chgP k v) l (quoKs f 0 (2*f+1))).2 v (vtsGo (fun k=>chgP k v) l (quoKs f 0 (2*f+1))).1∧Px l (vtsGo (fun k=>chgP k v) l (quoKs f 0 (2*f+1))).2∧(vtsGo (fun k=>chgP k v) l (quoKs f 0 (2*f+1))).2.length≤l.length+9:=by
 have hpx:=zj0 (fun k=>chgP k v) l (quoKs f 0 (2*f+1));rw [zbb] at hpx;have hvl:(vtsGo (fun k=>chgP k v) l (quoKs f 0 (2*f+1))).1.length=2*f+1:=by rw [zdp,zbb]
 have hat: ∀j,j<2*f+1→ ∃sl,(vtsGo (fun k=>chgP k v) l (quoKs f 0 (2*f+1))).1[j]?=some (quoK f 0 j,sl)∧zby (vtsGo (fun k=>chgP k v) l (quoKs f 0 (2*f+1))).2 (chgP (quoK f 0 j) v) sl=true∧1≤sl∧sl≤(l.length:Int)+12:=fun j hj=>by
  have hb: ∀k∈quoKs f 0 (2*f+1),(bodyP (chgP k v)).isSome=true:=fun k hk=>by
   unfold quoKs at hk;simp only [List.mem_map,List.mem_range] at hk;obtain ⟨i,hi,rfl⟩:=hk;have:=zho (f:=f) (s:=0) (by omega) (by omega) hi;exact zt6 (by omega) (by omega) v0 (by omega)
  obtain ⟨sl,h1,h2,h3,h4⟩:=ztg (fun k=>chgP k v) l _ hb j (by rw [zbb];exact hj);have e:(quoKs f 0 (2*f+1))[j]'(by rw [zbb];exact hj)=quoK f 0 j:=by unfold quoKs;simp
  rw [e] at h1 h2;rw [zbb] at h4;exact ⟨sl,h1,h2,h3,by omega⟩
 have hva: ∀j,j<2*f+1→ ∃sl,zc1 (vtsGo (fun k=>chgP k v) l (quoKs f 0 (2*f+1))).1 j=(quoK f 0 j,sl)∧zby (vtsGo (fun k=>chgP k v) l (quoKs f 0 (2*f+1))).2 (chgP (quoK f 0 j) v) sl=true∧1≤sl∧sl≤(l.length:Int)+12:=fun j hj=>by
  obtain ⟨sl,h1,h2⟩:=hat j hj;exact ⟨sl,by unfold zc1;rw [List.getD_eq_getElem?_getD,h1];rfl,h2⟩
 generalize vtsGo (fun k=>chgP k v) l (quoKs f 0 (2*f+1))=q at*;have hris:zci q.1 f=true:=by
  unfold zci;rw [hvl];simp only [decide_true,Bool.true_and];refine zaw (fun j hj=> ?_);obtain ⟨sl,h1,-⟩:=hva j hj;have hq:=zho (f:=f) (s:=0) (by omega) (by omega) hj;rw [h1,Bool.and_eq_true,decide_eq_true_eq,decide_eq_true_eq];refine ⟨?_,by simp only;omega⟩;cases j with
  | zero=>simp only [lastV];omega
  | succ j=>
   simp only [lastV];obtain ⟨sl',h3,-⟩:=hva j (by omega);rw [h3];exact zxy
 refine ⟨⟨hvl,?_,?_,?_⟩,hpx.1,by omega⟩
 ·unfold zd1
  rw [hris,hvl];simp only [Bool.and_eq_true,Bool.true_and];refine ⟨by unfold inW;simp only [Bool.and_eq_true,decide_eq_true_eq];omega,zaw (fun j hj=> ?_)⟩;obtain ⟨sl,h1,h2,-⟩:=hva j hj;unfold zgz;rw [h1];exact h2
 ·unfold zd5
  rw [hris,Bool.and_true,hvl];refine zaw (fun j hj=> ?_);obtain ⟨sl,h1,-,h3,h4⟩:=hva j hj;rw [h1];unfold inW;simp only [Bool.and_eq_true,decide_eq_true_eq];omega
 ·unfold listW
  rw [hvl,Bool.and_eq_true,decide_eq_true_eq,List.all_eq_true];refine ⟨by omega,fun x hx=> ?_⟩;obtain ⟨j,hj,rfl⟩:=List.getElem_of_mem hx;obtain ⟨sl,h1,-,h3,h4⟩:=hat j (by omega);rw [List.getElem?_eq_getElem hj] at h1;simp only [Option.some.injEq] at h1;have hq:=zho (f:=f) (s:=0) (by omega) (by omega) (show j<2*f+1 by omega);rw [h1];unfold vtW numOk;simp only [Bool.and_eq_true,decide_eq_true_eq];omega
structure CertsC (f:Nat) (l:Nt) (view:Int) (cs:List Cp):Prop where
 n:cs.length≤1
 s: ∀c∈cs,c.rs.length≤1∧c.vs.length≤9
 ok:zr3 f 2 view cs=true
 ct: ∀k,k<cs.length→zbp l 4 (zfa cs k) f 2=true
 w:cs.all certW=true
theorem CertsC.px {f:Nat} {l l':Nt} {view:Int} {cs:List Cp} (h:CertsC f l view cs) (hp:Px l l'):CertsC f l' view cs:=⟨h.n,h.s,h.ok,fun k hk=>hp.certified (h.ct k hk),h.w⟩
theorem CertsC.nil (f:Nat) (l:Nt) (view:Int):CertsC f l view []:=⟨by simp,by simp,rfl,by simp,rfl⟩
theorem vcQ_w {fm view:Int} {vs:Vs} {cs:List Cp} {f:Nat} {l:Nt} (h0:0≤fm) (h1:fm≤100) (v0:0≤view) (v1:view≤100) (hv:listW vtW vs=true) (hc:CertsC f l view cs):msW ⟨7,fm,view,0,0,0,[],vs,cs,[]⟩=true:=by
 have a:=zbe h0 (by omega);have b:=zbe v0 (by omega);have c:numOk 0=true:=by decide
 have d:numOk 7=true:=by decide
 have e:sgnOk 0=true:=by decide
 have g:listW certW cs=true:=by unfold listW;rw [hc.w,Bool.and_true,decide_eq_true_eq];have:=hc.n;omega
 unfold msW;simp only [a,b,c,d,e,hv,g];rfl
theorem vcQ_le {fm view:Int} {vs:Vs} {cs:List Cp} {f:Nat} {l:Nt} (hv:vs.length≤9) (hc:CertsC f l view cs):(msB ⟨7,fm,view,0,0,0,[],vs,cs,[]⟩).length≤65530:=by
 have n1:=zaz 7;have n2:=zaz fm;have n3:=zaz view;have n4:=zaz 0;have n5:=zir 0;have n6:=vts_le vs;have n7:=zqe cs hc.n hc.s;have q1:(listB reqB ([]:List Rq)).length=1:=by decide
 have q2:(listB partB ([]:List Pa)).length=1:=by decide
 unfold msB;simp only [List.length_append];rw [q1,q2];omega
theorem ztb {fm view:Int} {vs:Vs} {cs:List Cp} {f:Nat} {l:Nt} (h0:0≤fm) (h1:fm≤100) (v0:0≤view) (v1:view≤100) (hv:listW vtW vs=true) (hvl:vs.length≤9) (hc:CertsC f l view cs):bodyP ⟨7,fm,view,0,0,0,[],vs,cs,[]⟩=some (msB ⟨7,fm,view,0,0,0,[],vs,cs,[]⟩):=zna (vcQ_w h0 h1 v0 v1 hv hc) (vcQ_le hvl hc)
theorem ztc {fm view:Int} {vs:Vs} {cs:List Cp} {f:Nat} {l:Nt} (h0:0≤fm) (h1:fm≤3*f) (v0:1≤view) (v1:view≤12) (hv:zd5 vs f=true) (hc:CertsC f l view cs):formP f 2 ⟨7,fm,view,0,0,0,[],vs,cs,[]⟩=true:=by
 have a:zc4 f 2 view vs cs=true:=by
  unfold zc4 inW;rw [hv,hc.ok];simp only [Bool.and_true,Bool.and_eq_true,decide_eq_true_eq];omega
 unfold formP formK zbv inW zeros bareP;simp [a,h0,h1]
structure PartOk (f:Nat) (l:Nt) (view fm:Int) (cs:List Cp) (p:Pa):Prop where
 hfm:p.fm=fm
 hcs:p.cs=cs
 hvs:VotesC f l (view-1) p.vs
 hsl:1≤p.sl∧p.sl≤1000000000
 hseal:zby l (vwM view p) p.sl=true
 hc:CertsC f l view cs
theorem PartOk.px {f:Nat} {l l':Nt} {view fm:Int} {cs:List Cp} {p:Pa} (h:PartOk f l view fm cs p) (hp:Px l l'):PartOk f l' view fm cs p:=⟨h.hfm,h.hcs,h.hvs.px hp,h.hsl,hp.sealed h.hseal,h.hc.px hp⟩
theorem PartOk.viewed {f:Nat} {l:Nt} {view fm:Int} {cs:List Cp} {p:Pa} (h:PartOk f l view fm cs p) (h0:0≤fm) (h1:fm≤3*f) (v0:1≤view) (v1:view≤12):ze0 l view p f 2=true:=by
 unfold ze0;rw [h.hseal,h.hvs.ch];simp only [Bool.true_and,Bool.and_eq_true];constructor
 ·have:=ztc (fm:=p.fm) (vs:=p.vs) (by rw [h.hfm];exact h0) (by rw [h.hfm];exact h1) v0 v1 h.hvs.ok h.hc
  rw [←h.hcs] at this;exact this
 ·rw [h.hcs]
  exact zaw (fun k hk=>h.hc.ct k hk)
theorem PartOk.w {f:Nat} {l:Nt} {view fm:Int} {cs:List Cp} {p:Pa} (h:PartOk f l view fm cs p) (h0:0≤fm) (h1:fm≤100):partW p=true:=by
 have a:=zbe (n:=p.fm) (by rw [h.hfm];exact h0) (by rw [h.hfm];omega);have b:=zbe (n:=p.sl) (by have:=h.hsl;omega) h.hsl.2;have g:listW certW p.cs=true:=by unfold listW;rw [h.hcs,h.hc.w,Bool.and_true,decide_eq_true_eq];have:=h.hc.n;omega
 unfold partW;rw [a,b,h.hvs.w,g];rfl
theorem PartOk.le {f:Nat} {l:Nt} {view fm:Int} {cs:List Cp} {p:Pa} (h:PartOk f l view fm cs p) (hf:f≤4):(partB p).length≤320:=part_le p (by rw [h.hvs.len];omega) (by rw [h.hcs];exact h.hc.n) (by rw [h.hcs];exact h.hc.s)
theorem part_ok {f:Nat} {l:Nt} {view fm:Int} {cs:List Cp} (hn:l.length≤100000000) (hf1:1≤f) (hf2:f≤4) (v0:1≤view) (v1:view≤12) (h0:0≤fm) (h1:fm≤3*f) (hc:CertsC f l view cs):
  PartOk f (partP f 0 l view fm cs).2 view fm cs (partP f 0 l view fm cs).1∧Px l (partP f 0 l view fm cs).2∧(partP f 0 l view fm cs).2.length≤l.length+10:=by
 obtain ⟨hv,hp,hl⟩:=zwr (l:=l) (v:=view-1) (by omega) hf1 hf2 (by omega) (by omega);have e0:(0:Int)%((f:Int)+1)=0:=Int.zero_emod _;have e:partP f 0 l view fm cs=(⟨fm,(vtsGo (fun k=>chgP k (view-1)) l (quoKs f 0 (2*f+1))).1,cs,msS (vtsGo (fun k=>chgP k (view-1)) l (quoKs f 0 (2*f+1))).2 ⟨7,fm,view,0,0,0,[],(vtsGo (fun k=>chgP k (view-1)) l (quoKs f 0 (2*f+1))).1,cs,[]⟩⟩,msSL (vtsGo (fun k=>chgP k (view-1)) l (quoKs f 0 (2*f+1))).2 ⟨7,fm,view,0,0,0,[],(vtsGo (fun k=>chgP k (view-1)) l (quoKs f 0 (2*f+1))).1,cs,[]⟩):=by
  unfold partP;rw [e0];rfl
 rw [e];generalize vtsGo (fun k=>chgP k (view-1)) l (quoKs f 0 (2*f+1))=q at*;have hc2:=hc.px hp;have hb:=ztb (fm:=fm) h0 (by omega) (show 0≤view by omega) (by omega) hv.w (by rw [hv.len];omega) hc2;have hbs:(bodyP ⟨7,fm,view,0,0,0,[],q.1,cs,[]⟩).isSome=true:=by rw [hb];rfl
 have hp2:=zso q.2 ⟨7,fm,view,0,0,0,[],q.1,cs,[]⟩;have hs:=msS_in (l:=q.2) hbs;have hl2:=zmc q.2 ⟨7,fm,view,0,0,0,[],q.1,cs,[]⟩;exact ⟨⟨rfl,rfl,hv.px hp2,⟨hs.1,by show msS q.2 _≤_;omega⟩,zio hbs,hc2.px hp2⟩,hp.trans hp2,by show (msSL q.2 _).length≤_;omega⟩
theorem crt_cc {f:Nat} {l:Nt} {view seq:Int} {r r':Rq} {c:Cp} {vs:Vs} (h:CrtOk 4 f 2 l c r' vs) (hv:c.view=view-1) (hf:f≤4):CertsC f l view [c] where
 n:=by simp
 s:=fun d hd=>by rw [List.mem_singleton.1 hd,h.rs,h.vl];simp;omega
 ok:=by
  unfold zr3;refine zaw (fun k hk=> ?_);obtain rfl:k=0:=by simpa using hk
  unfold zft;have e:zfa [c] 0=c:=rfl;rw [e,h.ok,hv];simp;omega
 ct:=fun k hk=>by
  obtain rfl:k=0:=by simpa using hk
  exact h.cert
 w:=by simp [h.w]
structure PsOk (f:Nat) (l:Nt) (view:Int) (c:Cp) (n:Nat) (ps:List Pa):Prop where
 len:ps.length=n
 at_: ∀(i:Nat) (h:i<ps.length),PartOk f l view (i:Int) (if i=f then [c] else []) ps[i]
theorem PsOk.px {f:Nat} {l l':Nt} {view:Int} {c:Cp} {n:Nat} {ps:List Pa} (h:PsOk f l view c n ps) (hp:Px l l'):PsOk f l' view c n ps:=⟨h.len,fun i hi=>(h.at_ i hi).px hp⟩
theorem PsOk.nil (f:Nat) (l:Nt) (view:Int) (c:Cp):PsOk f l view c 0 []:=⟨rfl,fun i h=>by simp at h⟩
theorem PsOk.add {f:Nat} {l l':Nt} {view:Int} {c:Cp} {n:Nat} {ps:List Pa} {p:Pa} (h:PsOk f l view c n ps) (hp:Px l l') (hq:PartOk f l' view (n:Int) (if n=f then [c] else []) p):PsOk f l' view c (n+1) (ps++[p]):=by
 refine ⟨by simp [h.len],fun i hi=> ?_⟩;by_cases hn:i<ps.length
 ·rw [List.getElem_append_left hn]
  exact (h.at_ i hn).px hp
 ·have:i=n:=by have:=h.len;simp at hi;omega
  subst this;rw [List.getElem_append_right (by have:=h.len;omega)];simp only [h.len,Nat.sub_self,List.getElem_cons_zero];exact hq
section
variable {f:Nat} {l:Nt} {view k:Int} {c:Cp} {ps:List Pa}
theorem PsOk.part (h:PsOk f l view c (2*f+1) ps) (i:Nat) (hi:i<2*f+1): ∃p,ps[i]?=some p∧partAt ps i=p∧PartOk f l view (i:Int) (if i=f then [c] else []) p:=by
 have hl:i<ps.length:=by rw [h.len];exact hi
 refine ⟨ps[i],List.getElem?_eq_getElem hl,?_,h.at_ i hl⟩;unfold partAt;rw [List.getD_eq_getElem?_getD,List.getElem?_eq_getElem hl];rfl
theorem PsOk.okParts (h:PsOk f l view c (2*f+1) ps) (v0:1≤view) (v1:view≤12):okParts f 2 view ps=true:=by
 unfold Go.Proofs.YtannckelmojkoaaGreat.okParts;rw [h.len];simp only [decide_true,Bool.true_and];refine zaw (fun i hi=> ?_);obtain ⟨p,-,e1,e2⟩:=h.part i hi;unfold zse;rw [e1];have hc:zc4 f 2 view p.vs p.cs=true:=by
  unfold zc4 inW;rw [e2.hvs.ok,e2.hcs,e2.hc.ok];simp only [Bool.and_true,Bool.and_eq_true,decide_eq_true_eq];omega
 have hsl:=e2.hsl;have hn:zbv f p.fm=true:=by
  unfold zbv inW;rw [e2.hfm];simp only [Bool.and_eq_true,decide_eq_true_eq];omega
 have hs:inW p.sl 0 1099511627775=true:=by
  unfold inW;simp only [Bool.and_eq_true,decide_eq_true_eq];omega
 rw [hc,hn,hs];simp only [Bool.and_true,Bool.true_and,Bool.or_eq_true,decide_eq_true_eq];cases i with
 | zero=>exact .inl rfl
 | succ i=>
  right;obtain ⟨p',-,e3,e4⟩:=h.part i (by omega);rw [Nat.add_sub_cancel,e3,e4.hfm,e2.hfm];omega
def nvw (k view:Int) (ps:List Pa):Ms:=⟨8,k,view,0,0,0,[],[],[],ps⟩
theorem nv_form (h:PsOk f l view c (2*f+1) ps) (v0:1≤view) (v1:view≤12) (hk:k=zan f view 0) (h0:0≤k) (h1:k≤3*f):formP f 2 (nvw k view ps)=true:=by
 have a:=h.okParts v0 v1;unfold formP formK zbv inW zeros bareP nvw;simp [a,h0,h1,←hk];omega
theorem nv_w (h:PsOk f l view c (2*f+1) ps) (hf:f≤4) (v0:1≤view) (v1:view≤12) (h0:0≤k) (h1:k≤100):msW (nvw k view ps)=true:=by
 have a:=zbe h0 (by omega);have b:=zbe (show 0≤view by omega) (by omega);have c:numOk 0=true:=by decide
 have d:numOk 8=true:=by decide
 have e:sgnOk 0=true:=by decide
 have g:listW partW ps=true:=by
  unfold listW;rw [h.len,Bool.and_eq_true,decide_eq_true_eq,List.all_eq_true];refine ⟨by omega,fun p hp=> ?_⟩;obtain ⟨i,hi,rfl⟩:=List.getElem_of_mem hp;have hl:=h.len;exact (h.at_ i hi).w (by omega) (by omega)
 unfold msW nvw;simp only [a,b,c,d,e,listW,List.all_nil,List.length_nil] at g⊢;rw [g];rfl
theorem nv_le (h:PsOk f l view c (2*f+1) ps) (hf:f≤4):(msB (nvw k view ps)).length≤65530:=by
 have n1:=zaz 8;have n2:=zaz k;have n3:=zaz view;have n4:=zaz 0;have n5:=zir 0;have n6:=zi8 ps (g:=partB) (K:=320) (fun p hp=>by
  obtain ⟨i,hi,rfl⟩:=List.getElem_of_mem hp;exact (h.at_ i hi).le hf)
 have hl:=h.len;have q1:(listB reqB ([]:List Rq)).length=1:=by decide
 have q2:(listB vtB ([]:Vs)).length=1:=by decide
 have q3:(listB certB ([]:List Cp)).length=1:=by decide
 unfold msB nvw;simp only [List.length_append];rw [q1,q2,q3];have:320*ps.length≤320*9:=Nat.mul_le_mul_left _ (by omega);omega
theorem nv_body (h:PsOk f l view c (2*f+1) ps) (hf:f≤4) (v0:1≤view) (v1:view≤12) (h0:0≤k) (h1:k≤100):bodyP (nvw k view ps)=some (msB (nvw k view ps)):=zna (nv_w h hf v0 v1 h0 h1) (nv_le h hf)
theorem zxk (h:PsOk f l view c (2*f+1) ps) (v0:1≤view) (v1:view≤12):ps.any (fun a=> !ze0 l view a f 2)=false:=by
 rw [List.any_eq_false];intro p hp;obtain ⟨i,hi,rfl⟩:=List.getElem_of_mem hp;have hl:=h.len;rw [(h.at_ i hi).viewed (by omega) (by omega) v0 v1];simp
end
theorem zx3 {s:Ns} {l:Nt} {m:Ms} (hn:l.length≤1000000000) (hb:bodyP (zfp m s.id)=some (msB (zfp m s.id))) (hl:(msB (zfp m s.id)).length≤65530) (hf:formP s.c.f s.c.cl (zfp m s.id)=true):
  ∃(b:Bys) (l':Nt) (sl:Int),sendS (s,l) m=({s with out:=s.out++(zas (3*s.c.f+1) s.id).map fun k=>(k,b)},l')∧Px l l'∧l'.length≤l.length+1∧openP l' s.c.f s.c.cl b=some (zfp m s.id,sl):=by
 obtain ⟨M,hM⟩: ∃M,M=zfp m s.id:=⟨_,rfl⟩;have hfm:M.fm=s.id:=by rw [hM];rfl
 rw [←hM] at hb hl hf⊢;obtain ⟨B,hB⟩: ∃B,B=msB M:=⟨_,rfl⟩;rw [←hB] at hb hl;have ho:=znz (l:=l) (f:=s.c.f) (cl:=s.c.cl) (m:=M) hb hl hn;rw [hf,if_pos rfl,hfm] at ho;have hg:=zq4 hn s.id hl;have hs:sealP l M=(some (givE l s.id B),sealL l s.id B):=by
  unfold sealP;rw [hb];simp only;have e:envP (sealN l s.id B) B=some (numB (sealN l s.id B)++B):=by
   unfold envP;have h8:=zjv hn s.id B;have h9:=zaz (sealN l s.id B);rw [if_pos];simp only [Bool.and_eq_true,decide_eq_true_eq];exact ⟨h8,by omega⟩
  rw [hfm,e,hg]
 refine ⟨givE l s.id B,sealL l s.id B,_,?_,zod _ _ _,(zet _ _ _).2,ho⟩;unfold sendS;simp only;rw [←hM,hs]
section
variable {f id j k:Nat} {l:Nt} {view seq:Int} {c:Cp} {r:Rq} {ps:List Pa} {rs:List Rq} {s:Ns} {st:In}
theorem zqu {α β:Type} {g:α→List β} {b:List β}: ∀(l:List α) (i:Nat),i<l.length→(∀(j:Nat) (h:j<l.length),g l[j]=if j=i then b else [])→l.flatMap g=b
 | [],i,h,_=>by simp at h
 | a::l,0,_,h=>by
  have h0:=h 0 (by simp);have hr:l.flatMap g=[]:=by
   rw [List.flatMap_eq_nil_iff];intro x hx;obtain ⟨j,hj,rfl⟩:=List.getElem_of_mem hx;have:=h (j+1) (by simp;exact hj)
   simpa using this
  rw [List.flatMap_cons,hr,List.append_nil]
  simpa using h0
 | a::l,i+1,hi,h=>by
  have h0:=h 0 (by simp);have hr:=zqu (g:=g) (b:=b) l i (by simpa using hi) (fun j hj=>by
   have:=h (j+1) (by simp;exact hj)
   simpa using this)
  rw [List.flatMap_cons,hr];have:g a=[]:=by simpa using h0
  rw [this,List.nil_append]
theorem PsOk.certs (h:PsOk f l view c (2*f+1) ps):za4 ps=[c]:=by
 unfold za4;refine zqu ps f (by rw [h.len];omega) (fun j hj=> ?_);exact (h.at_ j hj).hcs
def nvB (r:Rq) (n:Nat):List (List Rq):=(List.range n).map fun (j:Nat)=>if j+1=n then [r] else []
theorem PsOk.batches {n:Nat} (h:PsOk f l view c (2*f+1) ps) (hi:c.inst=0) (hs:c.seq=(n:Int)) (hr:c.rs=[r]) (h1:1≤n) (h2:n≤16):za8 0 ps=nvB r n:=by
 have hg:zi5 0 ps=(n:Int):=by
  unfold zi5;rw [h.certs,List.foldl_cons,List.foldl_nil,if_pos ⟨hi,by omega⟩,hs];omega
 unfold za8 nvB;rw [hg,Int.toNat_natCast];refine List.map_congr_left (fun j hj=> ?_);have hb:bestP 0 ((j:Int)+1) ps=if j+1=n then some c else none:=by
  unfold bestP;rw [h.certs,List.foldl_cons,List.foldl_nil];by_cases e:j+1=n
  ·rw [if_pos ⟨hi,by omega,fun d hd=>by cases hd⟩,if_pos e]
  ·rw [if_neg (fun h=>e (by omega)),if_neg e]
 rw [hb];by_cases e:j+1=n
 ·rw [if_pos e,if_pos e]
  exact hr
 ·rw [if_neg e,if_neg e]
  rfl
theorem znr {α:Type} (g:α→α): ∀(l:List α) (j:Nat) (a:α),l[j]?=some a→l.modify j g=l.set j (g a)
 | [],_,_,h=>by simp at h
 | b::l,0,a,h=>by
  simp only [List.getElem?_cons_zero,Option.some.injEq] at h;subst h;rfl
 | b::l,j+1,a,h=>by
  rw [List.modify_succ_cons,List.set_cons_succ,znr g l j a (by simpa using h)]
theorem vt_body {kind k:Int} {rs:List Rq} (hr: ∀r∈rs,reqW r=true) (hl:rs.length≤2) (h1:0≤kind) (h2:kind≤100) (v0:0≤view) (v1:view≤100) (s0:0≤seq) (s1:seq≤100) (k0:0≤k) (k1:k≤100):bodyP (crtM kind view 0 seq rs k)=some (msB (crtM kind view 0 seq rs k)):=by
 have a:=zbe h1 (by omega);have b:=zbe v0 (by omega);have c:=zbe (n:=0) (by omega) (by omega);have d:=zbe s0 (by omega);have e:=zbe k0 (by omega);have g:sgnOk 0=true:=by decide
 have hall:rs.all reqW=true:=List.all_eq_true.2 hr;refine zna ?_ (zw1 _ _ _ _ _ _ hl);unfold msW crtM;simp only [a,b,c,d,e,g,listW,hall,List.all_nil,List.length_nil,decide_eq_true (show rs.length≤256 by omega)];rfl
theorem vt_form {k:Int} {rs:List Rq} (hq: ∀r∈rs,okReq r 2=true) (hl:rs.length≤2) (v0:0≤view) (v1:view≤12) (s0:1≤seq) (s1:seq≤16) (k0:0≤k) (k1:k≤3*f):formP f 2 (crtM 4 view 0 seq rs k)=true:=by
 have hb:allR rs.length (fun j=>okReq (reqAt rs j) 2)=true:=zaw (fun j hj=>by
  unfold reqAt;rw [List.getD_eq_getElem?_getD,List.getElem?_eq_getElem hj];exact hq _ (List.getElem_mem hj))
 have l0:(0:Int)≤(rs.length:Int):=by omega
 have l2:(rs.length:Int)≤4:=by omega
 unfold formP crtM formK zbv inW bareP zce zbm inW;simp [hb,k0,k1,v0,v1,s0,s1,l0,l2]
theorem at_vote (hl:st.l[j]?=some (proP f rs)) (hj:j<16) (hon:st.on=true) (sl:Int) (hk:k≤3*f) (hst:st.f=f) (hf1:1≤f):
  ∃p,voteI st 4 ((j:Int)+1) (k:Int) sl rs= {st with l:=st.l.set j p}∧prepI {st with l:=st.l.set j p} ((j:Int)+1)=none∧commI {st with l:=st.l.set j p} ((j:Int)+1)=none:=by
 have hidx:idx ((j:Int)+1)=some j:=by
  rw [idx_of (by omega) (by omega)];congr 1<;>omega
 have hV:VtL f rs (fun _=>false) 0 (proP f rs).sl.ps:=VtL.none f rs;have hC:VtL f rs (fun _=>false) 0 (proP f rs).sl.cs:=VtL.none f rs;have hc:zdl (proP f rs).sl 4 (k:Int)=true:=by
  have h1:=hV.can (m:=k) hk;show openB (proP f rs).sl.ps (k:Int)=true;rw [h1];rfl
 have e:voteS (proP f rs).sl 4 (k:Int) sl rs= {(proP f rs).sl with ps:=(proP f rs).sl.ps.set k ⟨true,sl,rs⟩}:=by
  unfold voteS;rw [hc];rfl
 have hV2:=hV.put (sl:=sl) hk rfl;obtain ⟨hjl,hget⟩:=List.getElem?_eq_some_iff.1 hl;obtain ⟨p,hp⟩: ∃p,p=({proP f rs with sl:= {(proP f rs).sl with ps:=(proP f rs).sl.ps.set k ⟨true,sl,rs⟩}}:Pl):=⟨_,rfl⟩;have hmod:st.l.modify j (fun q=> {q with sl:=voteS q.sl 4 (k:Int) sl rs})=st.l.set j p:=by
  rw [znr _ st.l j _ hl,hp,←e]
 have hat:plAt {st with l:=st.l.set j p} ((j:Int)+1)=some p:=by
  unfold plAt;rw [hidx];simp only [Option.bind_some];rw [List.getElem?_set_self hjl]
 refine ⟨p,?_,?_,?_⟩
 ·unfold voteI
  rw [hidx];show (if st.on=true then st.upd j (fun q=> {q with sl:=voteS q.sl 4 (k:Int) sl rs}) else st)=_;rw [if_pos hon];unfold In.upd;rw [hmod]
 ·unfold prepI
  rw [hat];simp only [hon,hst,Bool.true_and];have h2:zbo f p.sl=none:=by
   unfold zbo;rw [hp];show (if true=true then zb2 ((proP f rs).sl.ps.set k ⟨true,sl,rs⟩) rs (2*f+1) else none)=none;rw [hV2.few (by omega)];rfl
  rw [h2];simp
 ·unfold commI
  rw [hat];simp only [hst];have h2:zaq f p.sl=none:=by
   rw [hp];show zaq f ⟨true,rs,(proP f rs).sl.ps.set k ⟨true,sl,rs⟩,(proP f rs).sl.cs⟩=none;have:=hC.comm (ps:=(proP f rs).sl.ps.set k ⟨true,sl,rs⟩) (hs:=true) (bt:=rs);rw [this,hC.few (by omega)];rfl
  rw [h2];simp
theorem acc_go (hl2:l.length≤900000000) (hc:s.c=stdC f) (hv:s.view=view) (hi:s.id=(id:Int)) (hin:insAt s 0=st) (hlen:0<s.ins.length) (hst:st.f=f) (hon:st.on=true) (hat:st.l[j]?=some (proP f rs)) (hj:j<16) (hf1:1≤f) (hf:f≤4) (hid:id≤3*f) (v0:0≤view) (v1:view≤12) (hq: ∀r∈rs,RqGood 2 r) (hrl:rs.length≤2):
  ∃(b:Bys) (l':Nt) (sl:Int) (p:Pl),zd3 0 ((j:Int)+1) (s,l)=(zbn {s with out:=s.out++(zas (3*f+1) (id:Int)).map fun k=>(k,b)} 0 {st with l:=st.l.set j p},l')∧zmm 0 ((j:Int)+1) (s,l)∧Px l l'∧l'.length≤l.length+1∧openP l' f 2 b=some (crtM 4 view 0 ((j:Int)+1) rs id,sl):=by
 have hidx:idx ((j:Int)+1)=some j:=by
  rw [idx_of (by omega) (by omega)];congr 1<;>omega
 have hch:(zbj (insAt s 0) ((j:Int)+1)).1=rs:=by
  rw [hin];unfold zbj plAt;rw [hidx];simp only [Option.bind_some,hat];rfl
 have hm:zfp (balM' 4 view ((0:Nat):Int) ((j:Int)+1) rs) s.id=crtM 4 view 0 ((j:Int)+1) rs s.id:=rfl;obtain ⟨b,l',sl,e1,e2,e3,e4⟩:=zx3 (s:=s) (l:=l) (m:=balM' 4 view ((0:Nat):Int) ((j:Int)+1) rs) (by omega) (by rw [hm,hi];exact vt_body (fun r hr=>(hq r hr).w) hrl (by omega) (by omega) v0 (by omega) (by omega) (by omega) (by omega) (by omega)) (by rw [hm];exact zw1 _ _ _ _ _ _ hrl) (by rw [hm,hi,hc];show formP f 2 _=true;exact vt_form (fun r hr=>(hq r hr).ok) hrl v0 v1 (by omega) (by omega) (by omega) (by omega));rw [hm,hi,hc] at e4;have hcf:s.c.f=f:=by rw [hc];rfl
 obtain ⟨sv,hsv⟩: ∃sv,sv=sendN (s,l) (balM' 4 view ((0:Nat):Int) ((j:Int)+1) rs):=⟨_,rfl⟩;obtain ⟨p,q1,q2,q3⟩:=at_vote hat hj hon sv (k:=id) hid hst hf1;obtain ⟨s2,hs2⟩: ∃s2:Ns,s2= {s with out:=s.out++(zas (3*s.c.f+1) s.id).map fun k=>(k,b)}:=⟨_,rfl⟩;rw [←hs2] at e1;have hs3:({s with out:=s.out++(zas (3*f+1) (id:Int)).map fun k=>(k,b)}:Ns)=s2:=by rw [hs2,hcf,hi]
 have ha:insAt s2 0=st:=by rw [hs2];exact hin
 have hi2:s2.id=(id:Int):=by rw [hs2];exact hi
 have hl3:0<s2.ins.length:=by rw [hs2];exact hlen
 have hbal:zcw 4 0 ((j:Int)+1) rs (s,l)=(zbn s2 0 {st with l:=st.l.set j p},l'):=by
  unfold zcw;simp only;rw [hv,e1];simp only;rw [ha,hi2,←hsv,q1]
 have h3:insAt (zbn s2 0 {st with l:=st.l.set j p}) 0= {st with l:=st.l.set j p}:=by
  show (s2.ins.set 0 _).getD 0 noIn=_;rw [List.getD_eq_getElem?_getD,List.getElem?_set_self hl3];rfl
 refine ⟨b,l',sl,p,?_,?_,e2,e3,e4⟩
 ·unfold zd3
  simp only;rw [hch,hbal,hs3];unfold lookS;simp only;rw [h3,q2];simp only;rw [h3,q3]
 ·unfold zmm
  simp only;rw [hch,hbal];have:look1 0 ((j:Int)+1) (zbn s2 0 {st with l:=st.l.set j p},l')=(zbn s2 0 {st with l:=st.l.set j p},l'):=by
   unfold look1;simp only;rw [h3,q2]
  rw [this];simp only;rw [h3,q3]
end
structure OutV (f id:Nat) (view:Int) (n:Nat) (r:Rq) (l:Nt) (m:Nat) (out:List (Int×Bys)):Prop where
 len:out.length=m
 vc: ∀(i:Nat) (o:Int×Bys),i<3*f→out[i]?=some o→ ∃M sl,openP l f 2 o.2=some (M,sl)∧M.kind=7
 vt: ∀(i:Nat) (o:Int×Bys),3*f≤i→out[i]?=some o→ ∃sl,openP l f 2 o.2=some (crtM 4 view 0 ((i/(3*f):Nat):Int) (if i/(3*f)=n then [r] else []) id,sl)
section
variable {f id j n m:Nat} {l l' L:Nt} {view:Int} {c:Cp} {r:Rq} {ps:List Pa} {out:List (Int×Bys)} {p:NSt} {s:Ns}
theorem OutV.px (h:OutV f id view n r l m out) (hp:Px l l'):OutV f id view n r l' m out:=⟨h.len,fun i o a b=>by
 obtain ⟨M,sl,e,k⟩:=h.vc i o a b;exact ⟨M,sl,zn0 e hp,k⟩,fun i o a b=>by
 obtain ⟨sl,e⟩:=h.vt i o a b;exact ⟨sl,zn0 e hp⟩⟩
theorem OutV.first {b:Bys} {M:Ms} {sl:Int} (hid:id≤3*f) (e:openP l f 2 b=some (M,sl)) (hk:M.kind=7):OutV f id view n r l (3*f) ((zas (3*f+1) (id:Int)).map fun k=>(k,b)) where
 len:=by have:=zjf hid;unfold zkn at this;simpa using this
 vc:=fun i o _ h=>by
  rw [List.getElem?_map] at h;cases hp:(zas (3*f+1) (id:Int))[i]? with
  | none=>rw [hp] at h;simp at h
  | some q=>
   rw [hp] at h;simp only [Option.map_some,Option.some.injEq] at h;subst h;exact ⟨M,sl,e,hk⟩
 vt:=fun i o hi h=>by
  have hl:=zjf hid;unfold zkn at hl;have:i<((zas (3*f+1) (id:Int)).map fun k=>(k,b)).length:=(List.getElem?_eq_some_iff.1 h).1;rw [List.length_map,hl] at this;omega
theorem OutV.more {b:Bys} {sl:Int} (h:OutV f id view n r l (3*f*(j+1)) out) (hf:1≤f) (hid:id≤3*f) (e:openP l f 2 b=some (crtM 4 view 0 ((j:Int)+1) (if j+1=n then [r] else []) id,sl)):OutV f id view n r l (3*f*(j+2)) (out++(zas (3*f+1) (id:Int)).map fun k=>(k,b)):=by
 have hl:=zjf hid;unfold zkn at hl;have hm:3*f*(j+2)=3*f*(j+1)+3*f:=Nat.mul_succ _ _;have h1:3*f≤3*f*(j+1):=Nat.le_mul_of_pos_right _ (by omega);refine ⟨by rw [List.length_append,List.length_map,hl,h.len,hm],fun i o a q=> ?_,fun i o a q=> ?_⟩
 ·rw [List.getElem?_append_left (by rw [h.len];omega)] at q
  exact h.vc i o a q
 ·by_cases hi:i<out.length
  ·rw [List.getElem?_append_left hi] at q
   exact h.vt i o a q
  ·rw [List.getElem?_append_right (by omega),h.len] at q
   have hi2:i-3*f*(j+1)<3*f:=by
    have:=(List.getElem?_eq_some_iff.1 q).1;rw [List.length_map,hl] at this;exact this
   have hd:i/(3*f)=j+1:=by
    have hi3:3*f*(j+1)≤i:=by rw [←h.len];omega
    refine Nat.div_eq_of_lt_le ?_ ?_
    ·rw [Nat.mul_comm];exact hi3
    ·rw [Nat.mul_comm]
     have:3*f*(j+1+1)=3*f*(j+1)+3*f:=Nat.mul_succ _ _;omega
   rw [List.getElem?_map] at q;cases hp:(zas (3*f+1) (id:Int))[i-3*f*(j+1)]? with
   | none=>rw [hp] at q;simp at q
   | some q'=>
    rw [hp] at q;simp only [Option.map_some,Option.some.injEq] at q;subst q;rw [hd];exact ⟨sl,e⟩
def bAt (r:Rq) (n i:Nat):List Rq:=if i+1=n then [r] else []
theorem zp5 {cl:Int} (h:RqGood cl r) (n i:Nat):(∀q∈bAt r n i,RqGood cl q)∧(bAt r n i).length≤2:=by
 unfold bAt;by_cases e:i+1=n
 ·rw [if_pos e]
  exact ⟨fun q hq=>by rw [List.mem_singleton.1 hq];exact h,by simp⟩
 ·rw [if_neg e]
  exact ⟨fun q hq=>absurd hq (by simp),by simp⟩
def Zero5 (s:Ns):Prop:=s.gd=[]∧s.used=0∧s.bad=0∧s.stale=0∧s.full=0
structure IG (f id:Nat) (view:Int) (n:Nat) (r:Rq) (l0:Nt) (j:Nat) (p:NSt):Prop where
 c:p.1.c=stdC f
 v:p.1.view=view
 i:p.1.id=(id:Int)
 len:0<p.1.ins.length
 sf:(insAt p.1 0).f=f
 on:(insAt p.1 0).on=true
 at_: ∀i,j≤i→i<n→(insAt p.1 0).l[i]?=some (proP f (bAt r n i))
 o:OutV f id view n r p.2 (3*f*(j+1)) p.1.out
 px:Px l0 p.2
 z:Zero5 p.1
 n:p.2.length≤l0.length+j
theorem IG.step {l0:Nt} (h:IG f id view n r l0 j p) (hj:j<n) (hn:n≤16) (hl:l0.length≤100000000) (hf1:1≤f) (hf:f≤4) (hid:id≤3*f) (v0:0≤view) (v1:view≤12) (hq:RqGood 2 r):
  IG f id view n r l0 (j+1) (zd3 0 ((j:Int)+1) p)∧zmm 0 ((j:Int)+1) p:=by
 obtain ⟨s,l⟩:=p;have hln:=h.n;simp only at hln;obtain ⟨b,l',sl,q,e1,e2,e3,e4,e5⟩:=acc_go (s:=s) (l:=l) (j:=j) (st:=insAt s 0) (by omega) h.c h.v h.i rfl h.len h.sf h.on (h.at_ j (Nat.le_refl _) hj) (by omega) hf1 hf hid v0 v1 (zp5 hq n j).1 (zp5 hq n j).2;refine ⟨?_,e2⟩;rw [e1];have hlen:=h.len;simp only at hlen;have hin: ∀(o:List (Int×Bys)) (st:In),insAt (zbn {s with out:=o} 0 st) 0=st:=fun o st=>by
  show (s.ins.set 0 st).getD 0 noIn=st;rw [List.getD_eq_getElem?_getD,List.getElem?_set_self hlen];rfl
 refine ⟨h.c,h.v,h.i,by show 0<(s.ins.set 0 _).length;rw [List.length_set];exact hlen,by simp only;rw [hin];exact h.sf,by simp only;rw [hin];exact h.on,fun i hi hin2=> ?_,(h.o.px e3).more hf1 hid e5,h.px.trans e3,h.z,by simp only;omega⟩;simp only;rw [hin];show ((insAt s 0).l.set j q)[i]?=_;rw [List.getElem?_set_ne (by omega)];exact h.at_ i (by omega) hin2
theorem IG.go {l0:Nt} (hn:n≤16) (hl:l0.length≤100000000) (hf1:1≤f) (hf:f≤4) (hid:id≤3*f) (v0:0≤view) (v1:view≤12) (hq:RqGood 2 r) (h:IG f id view n r l0 0 p): ∀j,j≤n→IG f id view n r l0 j (zdk 0 p j)∧ ∀i,i<j→zmm 0 ((i:Int)+1) (zdk 0 p i)
 | 0,_=>⟨h,fun i hi=>absurd hi (by omega)⟩
 | j+1,hj=>by
  obtain ⟨h1,h2⟩:=IG.go hn hl hf1 hf hid v0 v1 hq h j (by omega);obtain ⟨h3,h4⟩:=h1.step (by omega) hn hl hf1 hf hid v0 v1 hq;rw [zfy];refine ⟨h3,fun i hi=> ?_⟩;by_cases e:i=j
  ·subst e;exact h4
  ·exact h2 i (by omega)
theorem zoa: ∀(bs:List (List Rq)) (ps:List Pl) (k:Nat),k<bs.length→k<ps.length→(zb6 bs ps)[k]?=some {ps.getD k (zbg 0) with sl:=slPre (bs.getD k []) (ps.getD k (zbg 0)).sl}
 | [],_,k,h,_=>by simp at h
 | _::_,[],k,_,h=>by simp at h
 | b::bs,q::ps,0,_,_=>by simp [zb6]
 | b::bs,q::ps,k+1,h1,h2=>by
  have:=zoa bs ps k (by simpa using h1) (by simpa using h2)
  simpa [zb6] using this
theorem zuy (hf:f≤4) (v0:1≤view) (v1:view≤12) (k:Int):zev (newI f k 4) view=⟨f,k,4,view,false,List.replicate 16 (zbg f)⟩:=by
 unfold zev zh3;have h1:(newI f k 4).view=0:=rfl;rw [h1,if_pos (by simp;omega)];have h2:(newI f k 4).l=List.replicate 16 (zbg f):=rfl;rw [h2,List.map_replicate];rfl
theorem zl2 (hf:f≤4) (v0:1≤view) (v1:view≤12):(gone view (newS (stdC f) (id:Int))).ins=(List.range (f+1)).map fun (k:Nat)=>(⟨f,(k:Int),4,view,false,List.replicate 16 (zbg f)⟩:In):=by
 show ((List.range (f+1)).map fun (k:Nat)=>newI f (k:Int) 4).map (zev · view)=_;rw [List.map_map];exact List.map_congr_left (fun k _=>zuy hf v0 v1 _)
theorem zq5 (hf:f≤4) (v0:1≤view) (v1:view≤12):za9 (gone view (newS (stdC f) (id:Int)))=[]:=by
 unfold za9;rw [zl2 hf v0 v1,List.flatMap_eq_nil_iff];intro st hst;obtain ⟨k,-,rfl⟩:=List.mem_map.1 hst;unfold ziy;rw [List.map_eq_nil_iff,List.filter_eq_nil_iff];intro q hq;rw [List.eq_of_mem_replicate hq];simp [zbg]
theorem zp9 (h:(lowP p.1).length≠2*p.1.c.f+1):zlq p=p:=by
 rw [ztx];have e: ∀k,begGo p k=p:=fun k=>by
  induction k with
  | zero=>rfl
  | succ k ih=>
   rw [zp8,ih];exact zou (by simp [h])
 exact e _
theorem mv_go {vs:Vs} (hv:VotesC f L (view-1) vs) (hl:L.length≤100000000) (hf1:1≤f) (hf:f≤4) (hid:id≤3*f) (v0:1≤view) (v1:view≤12):
  ∃(s:Ns) (l:Nt),zff view vs (newS (stdC f) (id:Int),L)=(s,l)∧(lowP s).length≠2*s.c.f+1∧s.c=stdC f∧s.view=view∧s.id=(id:Int)∧s.ins=(gone view (newS (stdC f) (id:Int))).ins∧OutV f id view n r l (3*f) s.out∧Px L l∧l.length≤L.length+1∧Zero5 s:=by
 obtain ⟨g,hg⟩: ∃g:Ns,g=gone view (newS (stdC f) (id:Int)):=⟨_,rfl⟩;have hgc:g.c=stdC f:=by rw [hg];rfl
 have hgi:g.id=(id:Int):=by rw [hg];rfl
 have hgo:g.out=[]:=by rw [hg];rfl
 have hgv:g.view=view:=by rw [hg];rfl
 have hgp:g.pts=List.replicate (3*f+1) (0,noPa):=by rw [hg];rfl
 have hce:za9 g=[]:=by rw [hg];exact zq5 hf v0 v1
 have hm:zfp (vcM g.id view vs (za9 g)) g.id=⟨7,id,view,0,0,0,[],vs,[],[]⟩:=by rw [hce,hgi];rfl
 have hcn:=CertsC.nil f L view;obtain ⟨b,l,sl,e1,e2,e3,e4⟩:=zx3 (s:=g) (l:=L) (m:=vcM g.id view vs (za9 g)) (by omega) (by rw [hm];exact ztb (by omega) (by omega) (by omega) (by omega) hv.w (by rw [hv.len];omega) hcn) (by rw [hm];exact vcQ_le (by rw [hv.len];omega) hcn) (by rw [hm,hgc];show formP f 2 _=true;exact ztc (by omega) (by omega) v0 v1 hv.ok hcn);rw [hm,hgc] at e4;obtain ⟨pa,hpa⟩: ∃pa:Pa,pa=⟨g.id,vs,za9 g,sendN (g,L) (vcM g.id view vs (za9 g))⟩:=⟨_,rfl⟩;have hmv:zff view vs (newS (stdC f) (id:Int),L)=({(sendS (g,L) (vcM g.id view vs (za9 g))).1 with pts:=(sendS (g,L) (vcM g.id view vs (za9 g))).1.pts.set g.id.toNat (view,pa)},(sendS (g,L) (vcM g.id view vs (za9 g))).2):=by
  unfold zff;simp only;rw [←hg,hpa]
 rw [e1] at hmv;simp only at hmv;refine ⟨_,_,hmv,?_,hgc,hgv,hgi,by show g.ins=_;rw [hg],?_,e2,e3,by show Zero5 g;rw [hg];exact ⟨rfl,rfl,rfl,rfl,rfl⟩⟩
 ·have hlow:(lowP ({({g with out:=g.out++(zas (3*g.c.f+1) g.id).map fun k=>(k,b)}:Ns) with pts:=g.pts.set g.id.toNat (view,pa)}:Ns)).length≤1:=by
   unfold lowP;simp only;rw [List.length_take,List.length_map,hgv,hgp,hgi,Int.toNat_natCast];have hcnt:((List.replicate (3*f+1) ((0,noPa):Int×Pa)).set id (view,pa)).countP (fun q=>decide (0<view)&&decide (q.1=view))=0+1:=by
    have h0:(List.replicate (3*f+1) ((0,noPa):Int×Pa)).countP (fun q=>decide (0<view)&&decide (q.1=view))=0:=by
     rw [List.countP_eq_zero];intro q hq;rw [List.eq_of_mem_replicate hq];simp;omega
    have hx:id<(List.replicate (3*f+1) ((0,noPa):Int×Pa)).length:=by simp;omega
    rw [zg0 _ _ id hx _ (by rw [List.getElem_replicate];simp;omega) (by simp;omega),h0]
   rw [List.countP_eq_length_filter] at hcnt;rw [hcnt];omega
  have hf3:({({g with out:=g.out++(zas (3*g.c.f+1) g.id).map fun k=>(k,b)}:Ns) with pts:=g.pts.set g.id.toNat (view,pa)}:Ns).c.f=f:=by
   show g.c.f=f;rw [hgc];rfl
  exact Nat.ne_of_lt (Nat.lt_of_le_of_lt hlow (by rw [hf3];omega))
 ·show OutV f id view n r l (3*f) (g.out++(zas (3*g.c.f+1) g.id).map fun k=>(k,b))
  rw [hgo,hgi,hgc,List.nil_append];exact OutV.first hid e4 rfl
end
end Go.Proofs.YtannckelmojkoaaGreat
