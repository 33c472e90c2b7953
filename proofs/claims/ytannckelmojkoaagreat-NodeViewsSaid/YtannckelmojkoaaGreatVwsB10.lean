/- Parts of the proof, one behind the other. -/
import Derived.Test.YtannckelmojkoaaGreatVwsB9
set_option maxHeartbeats 32000000
set_option maxRecDepth 100000
set_option linter.unusedVariables false
set_option linter.unusedSimpArgs false
namespace Go.Proofs.YtannckelmojkoaaGreat
open Go.RowKit Go.Heap
theorem zsp {α:Type} (one:Rs→α×Rs): ∀(n:Nat) (acc:List α) (s:Rs),(rdGo one n acc s).1.length≤acc.length+n
 | 0,acc,s=>by unfold rdGo;split<;>simp
 | n+1,acc,s=>by
  unfold rdGo;split
  ·simp
  ·have:=zsp one n (acc++[(one s).1]) (one s).2
   simp at this;omega
theorem zkz {α:Type} (b:Bys) (one:Rs→α×Rs) (s:Rs):(rdL b one s).1.length≤256:=by
 unfold rdL;split
 ·simp
 ·have:=zsp one (rdN b s).1 [] (rdN b s).2
  simp at this;omega
section
variable {B:Nat} {w0 w W W':World} {ss rs:List Res} {r:Nat} {bv:Value} {bs:Bys} {s:Rs}
theorem zf9 {E sz n:Nat} {v:Value} {xs:List Value} (h:Own B w0 W (ownR E sz v n xs::rs)):Own B w0 W (redR v sz n xs::rs):=by
 refine h.drop.red (owns_reads (zam h.head)) (fun k hk hm=> ?_);obtain ⟨r',hr,hk'⟩:=(zj9 _ _).1 hm;exact (List.pairwise_cons.1 h.apart).1 r' hr k (zc8 hk) hk'
theorem zsr (h:Own B w0 W (rdB r bv s::ss)) (hb:RdOk w0 B bv bs ss) (hs:s.at_≤65536):
  Calls Tryz.prog 208 #[.pointer (some ⟨r,0,none⟩)] W fun e w'=> ∃c:Ct,e= .returned (ctAgg c)∧c.cp=(zch bs s).1∧(zch bs s).2.at_≤65536∧Own B w0 w' (rdB r bv (zch bs s).2::redR c.vv 2 c.vs.length (zaf c.vs)::redR c.vb 6 c.rs.length (zak c.rs)::ss)∧(∃a1 n1 c1 a2 n2 c2,c.vb= .slice a1 n1 c1∧c.vv= .slice a2 n2 c2)∧c.rs.length≤256∧c.vs.length≤256:=by
 have H0:=zq (zfk h (.cells #[.int .i64 0,.int .i64 0,.int .i64 0,.slice none 0 0,.slice none 0 0] 42 (0,0))).rot;have HB:=zq hb;obtain ⟨p0,hp0⟩: ∃p,p=rdN bs s:=⟨_,rfl⟩;have hs0:p0.2.at_≤65536:=by rw [hp0];exact (zek (bs:=bs) hs hb.l).1
 obtain ⟨p1,hp1⟩: ∃p,p=rdN bs p0.2:=⟨_,rfl⟩;have hs1:p1.2.at_≤65536:=by rw [hp1];exact (zek (bs:=bs) hs0 hb.l).1
 obtain ⟨p2,hp2⟩: ∃p,p=rdN bs p1.2:=⟨_,rfl⟩;have hs2:p2.2.at_≤65536:=by rw [hp2];exact (zek (bs:=bs) hs1 hb.l).1
 obtain ⟨p3,hp3⟩: ∃p,p=rdL bs (rdReq bs) p2.2:=⟨_,rfl⟩;obtain ⟨p4,hp4⟩: ∃p,p=rdL bs (zb0 bs) p3.2:=⟨_,rfl⟩;have HP:Hid (zch bs s=(⟨p0.1,p1.1,p2.1,p3.1,p4.1⟩,p4.2)):=zq (by rw [hp4,hp3,hp2,hp1,hp0];rfl);have HL3:Hid (p3.1.length≤256):=zq (by rw [hp3];exact zkz _ _ _);have HL4:Hid (p4.1.length≤256):=zq (by rw [hp4];exact zkz _ _ _);have HQ0:=zq hp0;have HQ1:=zq hp1;have HQ2:=zq hp2;have HQ3:=zq hp3;have HQ4:=zq hp4;clear h hb hp0 hp1 hp2 hp3 hp4;go_enter Tryz.func208,Tryz.ntmps208
 have HC0:=zq (za3 H0.out (HB.out.sub (by simp+contextual)) hs);rw [←HQ0.out] at HC0
 go_wp2_with fail
 refine HC0.out.mono ?_;rintro e wx0 ⟨rfl,h0⟩;have x0:wx0.cell? ⟨W.heap.size+1,0,none⟩=some (.int .i64 0):=by rw [zac (h0.blkAt 1 rfl)];rfl
 have z0:=zab (h0.blkAt 1 rfl) 0;have H1:=zq (h0.swap.store 0 (.int .i64 p0.1)).swap;clear HC0 H0 h0;have HC1:=zq (za3 H1.out (HB.out.sub (by simp+contextual)) hs0);rw [←HQ1.out] at HC1
 go_wp2_with fail
 refine HC1.out.mono ?_;rintro e wx1 ⟨rfl,h1⟩;have x1:wx1.cell? ⟨W.heap.size+1,1,none⟩=some (.int .i64 0):=by rw [zac (h1.blkAt 1 rfl)];rfl
 have z1:=zab (h1.blkAt 1 rfl) 1;have H2:=zq (h1.swap.store 1 (.int .i64 p1.1)).swap;clear HC1 H1 h1 x0 z0;have HC2:=zq (za3 H2.out (HB.out.sub (by simp+contextual)) hs1);rw [←HQ2.out] at HC2
 go_wp2_with fail
 refine HC2.out.mono ?_;rintro e wx2 ⟨rfl,h2⟩;have x2:wx2.cell? ⟨W.heap.size+1,2,none⟩=some (.int .i64 0):=by rw [zac (h2.blkAt 1 rfl)];rfl
 have z2:=zab (h2.blkAt 1 rfl) 2;have H3:=zq (h2.swap.store 2 (.int .i64 p2.1)).swap;clear HC2 H2 h2 x1 z1;have HC3:=zq (zhx H3.out (HB.out.sub (by simp+contextual)) hs2);rw [←HQ3.out] at HC3
 go_wp2_with fail
 refine HC3.out.mono ?_;rintro e wx3 ⟨ao3,cap3,rfl,hs3,g3⟩;have h3:=g3.perm (.cons _ (List.perm_append_comm (l₁:=[_]) (l₂:=[_,_]) |>.append_right _));have x3:wx3.cell? ⟨W.heap.size+1,3,none⟩=some (.slice none 0 0):=by rw [zac (h3.blkAt 1 rfl)];rfl
 have z3:=zab (h3.blkAt 1 rfl) 3;have H4:=zq (h3.swap.store 3 (.slice ao3 p3.1.length cap3)).swap;clear HC3 H3 h3 g3 x2 z2;have HC4:=zq (zen H4.out (HB.out.sub (by simp+contextual)) hs3);rw [←HQ4.out] at HC4
 go_wp2_with fail
 refine HC4.out.mono ?_;rintro e wx4 ⟨ao4,cap4,rfl,hs4,g4⟩;have h4:=g4.perm (.cons _ (List.perm_append_comm (l₁:=[_]) (l₂:=[_,_]) |>.append_right _));have x4:wx4.cell? ⟨W.heap.size+1,4,none⟩=some (.slice none 0 0):=by rw [zac (h4.blkAt 1 rfl)];rfl
 have z4:=zab (h4.blkAt 1 rfl) 4;have H5:=zq (h4.swap.store 4 (.slice ao4 p4.1.length cap4)).swap;clear HC4 H4 h4 g4 x3 z3
 go_upto_region 7 with fail
 generalize World.setCell _ _ _=w9 at*;clear x4 z4;have h9:=H5.out;have a0:w9.cell? ⟨W.heap.size+1,0,none⟩=some (.int .i64 p0.1):=by rw [zac (h9.blkAt 1 rfl)];rfl
 have b0:w9.cell? ⟨W.heap.size,0,none⟩=some (.int .i64 0):=by rw [zac (h9.blkAt 2 rfl)];rfl
 have y0:=zab (h9.blkAt 2 rfl) 0;have a1:w9.cell? ⟨W.heap.size+1,1,none⟩=some (.int .i64 p1.1):=by rw [zac (h9.blkAt 1 rfl)];rfl
 have b1:w9.cell? ⟨W.heap.size,1,none⟩=some (.int .i64 0):=by rw [zac (h9.blkAt 2 rfl)];rfl
 have y1:=zab (h9.blkAt 2 rfl) 1;have a2:w9.cell? ⟨W.heap.size+1,2,none⟩=some (.int .i64 p2.1):=by rw [zac (h9.blkAt 1 rfl)];rfl
 have b2:w9.cell? ⟨W.heap.size,2,none⟩=some (.int .i64 0):=by rw [zac (h9.blkAt 2 rfl)];rfl
 have y2:=zab (h9.blkAt 2 rfl) 2;have a3:w9.cell? ⟨W.heap.size+1,3,none⟩=some (.slice ao3 p3.1.length cap3):=by rw [zac (h9.blkAt 1 rfl)];rfl
 have b3:w9.cell? ⟨W.heap.size,3,none⟩=some (.slice none 0 0):=by rw [zac (h9.blkAt 2 rfl)];rfl
 have y3:=zab (h9.blkAt 2 rfl) 3;have a4:w9.cell? ⟨W.heap.size+1,4,none⟩=some (.slice ao4 p4.1.length cap4):=by rw [zac (h9.blkAt 1 rfl)];rfl
 have b4:w9.cell? ⟨W.heap.size,4,none⟩=some (.slice none 0 0):=by rw [zac (h9.blkAt 2 rfl)];rfl
 have y4:=zab (h9.blkAt 2 rfl) 4;have HR:=zq ((((((h9.rot).store 0 (.int .i64 p0.1)).store 1 (.int .i64 p1.1)).store 2 (.int .i64 p2.1)).store 3 (.slice ao3 p3.1.length cap3)).store 4 (.slice ao4 p4.1.length cap4));clear h9
 go_wp2_with fail
 clear a0 b0 y0 a1 b1 y1 a2 b2 y2 a3 b3 y3 a4 b4 y4;generalize World.setCell _ _ _=w10 at*;have f0:w10.cell? ⟨W.heap.size,0,none⟩=some (.int .i64 p0.1):=by rw [zac (HR.out.blkAt 0 rfl)];rfl
 have f1:w10.cell? ⟨W.heap.size,1,none⟩=some (.int .i64 p1.1):=by rw [zac (HR.out.blkAt 0 rfl)];rfl
 have f2:w10.cell? ⟨W.heap.size,2,none⟩=some (.int .i64 p2.1):=by rw [zac (HR.out.blkAt 0 rfl)];rfl
 have f3:w10.cell? ⟨W.heap.size,3,none⟩=some (.slice ao3 p3.1.length cap3):=by rw [zac (HR.out.blkAt 0 rfl)];rfl
 have f4:w10.cell? ⟨W.heap.size,4,none⟩=some (.slice ao4 p4.1.length cap4):=by rw [zac (HR.out.blkAt 0 rfl)];rfl
 have h11:=HR.out.drop.dropAt 1 (by simp);have h12:=zf9 (h11.swap:Own B w0 w10 (ownR 177 2 (.slice ao4 p4.1.length cap4) p4.1.length (p4.1.flatMap za2)::rdB r bv p4.2::ownR 38 6 (.slice ao3 p3.1.length cap3) p3.1.length (p3.1.flatMap zbh)::ss));have h13:=zf9 (h12.rot);have h14:=h13.rot;exact bodyPost_ret (v:= .agg #[.int .i64 p0.1,.int .i64 p1.1,.int .i64 p2.1,.slice ao3 p3.1.length cap3,.slice ao4 p4.1.length cap4]) (by simp [results,Tryz.results208,go_sem,f0,f1,f2,f3,f4]) rfl ⟨⟨p0.1,p1.1,p2.1,.slice ao3 p3.1.length cap3,.slice ao4 p4.1.length cap4,p3.1,p4.1⟩,rfl,by rw [HP.out];rfl,by rw [HP.out];exact hs4,by rw [HP.out];exact (h14.perm (.cons _ (.swap _ _ _))),⟨_,_,_,_,_,_,rfl,rfl⟩,HL3.out,HL4.out⟩
end
theorem Tryz.infoCert9:(Tryz.prog.info? 42).map (fun i=>(i.zero,i.size,i.bytes))=some (some (.agg #[.int .i64 0,.int .i64 0,.int .i64 0,.slice none 0 0,.slice none 0 0]),5,72):=by kernel_rfl
section
variable {B:Nat} {w0 w W W':World} {ss rs:List Res} {r:Nat} {bv:Value} {bs:Bys} {s:Rs}
theorem zw7 (h:Own B w0 W rs):Own B w0 W (ctsR []::rs):=h.new (Upd.refl [] _) ⟨[],⟨by simp,by simp⟩,by simp,fun k hk=>h.lt k hk⟩ (by simp [ctsR,imm])
theorem zge (h:Own B w0 W (rdB r bv s::ss)) (hb:RdOk w0 B bv bs ss) (hs:s.at_≤65536):
  Calls Tryz.prog 249 #[.pointer (some ⟨r,0,none⟩),.func (.func 208) #[] #[]] W fun e w'=> ∃ao cap,∃cts:List Ct,e= .returned (.slice ao cts.length cap)∧cts.map Ct.cp=(rdL bs (zch bs) s).1∧(rdL bs (zch bs) s).2.at_≤65536∧Own B w0 w' (rdB r bv (rdL bs (zch bs) s).2::ownR 42 5 (.slice ao cts.length cap) cts.length (cts.flatMap zag)::ctsR cts::ss):=by
 obtain ⟨i0,hi,hz0,hz1,hz2⟩:=info_parts Tryz.infoCert9;have HB:=zq hb;have hs1:=(zek (bs:=bs) hs hb.l).1;have HC:=zq (za3 h hb hs);have HL:Hid (rdL bs (zch bs) s=if 256<(rdN bs s).1 then ([],⟨(rdN bs s).2.at_,true⟩) else rdGo (zch bs) (rdN bs s).1 [] (rdN bs s).2):=zq rfl;generalize rdL bs (zch bs) s=res at*;generalize (rdN bs s).1=n at*;generalize (rdN bs s).2=s1 at*;clear h hb hs;go_enter Tryz.func249,Tryz.ntmps249
 go_wp2_with fail
 refine zc2 0 1 (fun a' w'=> ∃(st:Rs) (u1 u2 u3 u4 u5 u6 u7 u8 u9 u10 u11 u12 u13 u14 u15 u16 u17 u18 u19 u20 u21 u22 u23 u24 u25 u26 u27 u28:Value),a'= {tmps:=#[.pointer (some ⟨r,0,none⟩),u1,u2,u3,u4,u5,u6,u7,u8,u9,u10,u11,u12,u13,u14,u15,u16,u17,u18,u19,u20,u21,u22,u23,u24,u25,u26,u27,u28],defers:=[]}∧st.at_≤65536∧res=([],⟨st.at_,true⟩)∧Own B w0 w' (rdB r bv st::ss))
  (fun a' w'=> ∃(acc:List Ct) (st:Rs) (m:Nat) (ao:Option Addr) (k cap:Nat) (nI:Int) (t2 t3 t7 t8 t9 t10 t11 t12 t13 t14 t15 t16 t17 t18 t19 t20 t21 t22 t23 t24 t25 t26 t27 t28:Value),a'= {tmps:=#[.pointer (some ⟨r,0,none⟩),.func (.func 208) #[] #[],t2,t3,.slice none 0 0,.slice ao k cap,.int .i64 nI,t7,t8,t9,t10,t11,t12,t13,t14,t15,t16,t17,t18,t19,t20,t21,t22,t23,t24,t25,t26,t27,t28],defers:=[]}∧nI=(n:Int)∧k=acc.length∧n=acc.length+m∧n≤256∧st.at_≤65536∧res=rdGo (zch bs) m (acc.map Ct.cp) st∧Own B w0 w' (rdB r bv st::ownR 42 5 (.slice ao acc.length cap) acc.length (acc.flatMap zag)::ctsR acc::ss))
  (fun _ _=>0) (fun a _=>300-lenOf (a.tmps.getD 5 undef)) rfl rfl (by decide) ?_ ?_ ?_
 ·rintro a' w' ⟨st,u1,u2,u3,u4,u5,u6,u7,u8,u9,u10,u11,u12,u13,u14,u15,u16,u17,u18,u19,u20,u21,u22,u23,u24,u25,u26,u27,u28,rfl,hat,hres,ho⟩
  have z2:=zab ho.blk_out 2;have x2:w'.cell? ⟨r,2,none⟩=some (.bool st.bad):=by rw [zac ho.blk_out];rfl
  have HE:=zq (ho.store 2 (.bool true));clear ho
  go_wp2_with fail
  simp only [Exit.two];go_ret
  refine ⟨none,0,[],rfl,?_,?_,?_⟩
  ·rw [hres];rfl
  ·rw [hres];exact hat
  ·rw [hres];exact (((zw7 HE.out).row0 (E:=42) (sz:=5)).rot)
 ·rintro a' w' ⟨acc,st,m,ao,k,cap,nI,t2,t3,t7,t8,t9,t10,t11,t12,t13,t14,t15,t16,t17,t18,t19,t20,t21,t22,t23,t24,t25,t26,t27,t28,rfl,rfl,rfl,hnm,hn,hat,hres,ho⟩
  have x2:w'.cell? ⟨r,2,none⟩=some (.bool st.bad):=by rw [zac ho.blk_out];rfl
  have HO:=zq ho;obtain ⟨at_,bad⟩:=st;simp only at x2 hat;cases bad with
  | true=>
   have HNO:=zq (hres.trans (zjo _ _ _ _ rfl));clear ho hres
   go_wp2_with fail
   go_step3
   exact .inl ⟨rfl,⟨⟨at_,true⟩,_,_,_,_,_,_,_,_,_,_,_,_,_,_,_,_,_,_,_,_,_,_,_,_,_,_,_,_,rfl,hat,HNO.out,(HO.out.dropAt 1 (by simp)).dropAt 1 (by simp)⟩,by simp [lenOf];omega⟩
  | false=>
   cases m with
   | zero=>
    have hlI:((acc.length:Int)==(n:Int))=true:=by simp;omega
    have HNO:=zq (hres.trans (zgp _ _ _ rfl));clear ho hres
    go_wp2_with fail
    simp only [Exit.two];go_ret
    refine ⟨ao,cap,acc,rfl,?_,?_,?_⟩
    ·rw [HNO.out]
    ·rw [HNO.out];exact hat
    ·rw [HNO.out];exact HO.out
   | succ m=>
    have hlI:((acc.length:Int)==(n:Int))=false:=by simp;omega
    have HNX:=zq (hres.trans (zfi _ m (acc.map Ct.cp) ⟨at_,false⟩ rfl));have HC1:=zq (zsr ho (HB.out.sub (by simp+contextual)) hat);clear ho hres
    go_wp2_with fail
    refine HC1.out.mono ?_;rintro e w1 ⟨x,rfl,hcp,hat1,h1,hfm,hl1,hl2⟩;generalize hone:zch bs ⟨at_,false⟩=o1 at*;obtain ⟨xp,st1⟩:=o1;simp only at hcp hat1 h1;obtain ⟨a1,n1,c1,a2,n2,c2,hvb,hvv⟩:=hfm;have HON:=zq (zfu hvb hvv);have hp1:=h1.perm (ss:=redR x.vv 2 x.vs.length (zaf x.vs)::redR x.vb 6 x.rs.length (zak x.rs)::ctsR acc::rdB r bv st1::ownR 42 5 (.slice ao acc.length cap) acc.length (acc.flatMap zag)::ss) (by
     refine (List.perm_append_comm (l₁:=[_]) (l₂:=[_,_]) |>.append_right _).trans ?_;refine .cons _ (.cons _ ?_);exact List.perm_append_comm (l₁:=[_,_]) (l₂:=[_]) |>.append_right _)
    have h2:=(zqp hp1 (by omega) (by omega)).perm (ss:=rdB r bv st1::ownR 42 5 (.slice ao acc.length cap) acc.length (acc.flatMap zag)::ctsR (acc++[x])::ss) (List.perm_append_comm (l₁:=[_]) (l₂:=[_,_]) |>.append_right _);clear hvb hvv;have hd:=h2.alloc (.cells #[.int .i64 x.view,.int .i64 x.inst,.int .i64 x.seq,x.vb,x.vv] 42 (0,0));have HD:=zq hd;have HCP:=zq hcp;have HW:=zq (zam (hd.get 1 rfl));have HNW:Hid (∀j u,(zag x)[j]?=some u→(w1.alloc (.cells #[.int .i64 x.view,.int .i64 x.inst,.int .i64 x.seq,x.vb,x.vv] 42 (0,0))).cell? ((⟨w1.heap.size,0,none⟩:Addr).add j)=some u):=zq (World.news_of_block (heap_alloc_new w1 (.cells #[.int .i64 x.view,.int .i64 x.inst,.int .i64 x.seq,x.vb,x.vv] 42 (0,0))));have HMX:=zq (small_max' (k:=acc.length) (by omega));have HM4:Hid ((acc.length+1)*72≤140737488355328):=zq (by omega);clear hd h1 h2 HC1 x2 hcp hone
    go_wp2_with (at_builtin;refine wpList_append_lies _ rfl (.tmp 20) (.tmp 24) 44 rfl 0 42 i0 (.agg #[.int .i64 0,.int .i64 0,.int .i64 0,.slice none 0 0,.slice none 0 0]) 5 72 Tryz.underlying44 hi hz0 hz1 hz2 rfl (by decide) _ acc.length _ rfl HW.out ⟨w1.heap.size,0,none⟩ 1 1 (zag x) rfl rfl HNW.out HON.out (by decide) HMX.out HM4.out (Nat.zero_le _) _ rfl ?_)
    intro g9 cap9 w9 hown hgrow hat9 hlt9;have h6:=HD.out.growAt 1 rfl hgrow (by simpa using hat9) hown;have HZ:Hid (Own B w0 w9 (rdB r bv st1::ownR 42 5 (.slice (some ⟨g9,0,none⟩) (acc++[x]).length cap9) (acc++[x]).length ((acc++[x]).flatMap zag)::ctsR (acc++[x])::ss)):=zq (by
     have e1:(acc++[x]).flatMap zag=acc.flatMap zag++zag x:=by rw [List.flatMap_append,zi3]
     have e2:(acc++[x]).length=acc.length+1:=by simp
     rw [e1,e2];exact h6)
    have HNY:Hid (res=rdGo (zch bs) m ((acc++[x]).map Ct.cp) st1):=zq (by rw [HNX.out,List.map_append,List.map_singleton,HCP.out]);clear hown hgrow hat9 hlt9 h6 HD HW HNW HON HMX HM4 HO HNX
    go_wp2_with fail
    go_step3
    exact .inr ⟨rfl,⟨acc++[x],st1,m,_,_,_,_,_,_,_,_,_,_,_,_,_,_,_,_,_,_,_,_,_,_,_,_,_,_,_,_,rfl,by omega,by simp,by rw [List.length_append];simp;omega,hn,hat1,HNY.out,HZ.out⟩,by simp [lenOf];omega⟩
 ·intro K1
  go_wp2_with fail
  refine HC.out.mono ?_;rintro e w1 ⟨rfl,h1⟩;have H1:=zq h1;clear h1 HC;by_cases hbig:256<n
  ·have hbI:(256:Int)<(n:Int):=by omega
   have HNO:Hid (res=([],⟨s1.at_,true⟩)):=zq (by rw [HL.out,if_pos hbig])
   go_wp2_with fail
   go_step3
   exact .inl ⟨rfl,s1,_,_,_,_,_,_,_,_,_,_,_,_,_,_,_,_,_,_,_,_,_,_,_,_,_,_,_,_,rfl,hs1,HNO.out,H1.out⟩
  ·have hbI:decide ((256:Int)<(n:Int))=false:=by simp;omega
   have HNO:Hid (res=rdGo (zch bs) n [] s1):=zq (by rw [HL.out,if_neg hbig])
   go_wp2_with fail
   go_step3
   rename_i hK
   refine hK _ _ ?_;exact K1 _ _ ⟨[],s1,n,none,0,0,_,_,_,_,_,_,_,_,_,_,_,_,_,_,_,_,_,_,_,_,_,_,_,_,_,rfl,rfl,rfl,by simp,by omega,hs1,HNO.out,((zw7 H1.out).row0 (E:=42) (sz:=5)).rot⟩
end
structure Pt where
 fm:Int
 vv:Value
 vs:Vs
 cv:Value
 cts:List Ct
 sl:Int
def Pt.pa (p:Pt):Pa:=⟨p.fm,p.vs,p.cts.map Ct.cp,p.sl⟩
def zaj (p:Pt):List Value:=[.int .i64 p.fm,p.vv,p.cv,.int .i64 p.sl]
abbrev ptAgg (p:Pt):Value:= .agg #[.int .i64 p.fm,p.vv,p.cv,.int .i64 p.sl]
structure PtIn (w:World) (p:Pt) (D:List Nat):Prop where
 v:VtsIn w p.vv p.vs D
 vn:p.vs.length≤100000
 c:zat w p.cv 5 p.cts.length (p.cts.flatMap zag) D
 cn:p.cts.length≤100000
 cs: ∀c∈p.cts,CtIn w c D
theorem PtIn.dep {w w':World} {p:Pt} {D:List Nat} (h:PtIn w p D) (hk: ∀k∈D,w'.heap[k]?=w.heap[k]?) (hs:w.heap.size≤w'.heap.size):PtIn w' p D:=
 ⟨zat.dep h.v hk hs,h.vn,zat.dep h.c hk hs,h.cn,fun c hc=>(h.cs c hc).dep hk hs⟩
theorem PtIn.mono {w:World} {p:Pt} {D D':List Nat} (h:PtIn w p D) (hs: ∀k∈D,k∈D'):PtIn w p D':=
 ⟨zat.mono h.v hs,h.vn,zat.mono h.c hs,h.cn,fun c hc=>(h.cs c hc).mono hs⟩
def ptsR (ps:List Pt):Res:=imm (fun w D=> ∀p∈ps,PtIn w p D) (fun h hk hs p hp=>(h p hp).dep hk hs)
section
variable {B:Nat} {w0 w W W':World} {ss rs:List Res} {r:Nat} {bv:Value} {bs:Bys} {s:Rs}
theorem zxw (h:Own B w0 W rs):Own B w0 W (ptsR []::rs):=h.new (Upd.refl [] _) ⟨[],⟨by simp,by simp⟩,by simp,fun k hk=>h.lt k hk⟩ (by simp [ptsR,imm])
theorem pts_add {ps:List Pt} {p:Pt} (h:Own B w0 W (ptsR ps::redR p.vv 2 p.vs.length (zaf p.vs)::redR p.cv 5 p.cts.length (p.cts.flatMap zag)::ctsR p.cts::rs)) (hn:p.vs.length≤100000) (hm:p.cts.length≤100000):Own B w0 W (ptsR (ps++[p])::rs):=by
 refine (((h.alter (r':=ptsR (ps++[p])) ?_ (by simp [ptsR,imm])).dropAt 1 (by simp)).dropAt 1 (by simp)).dropAt 1 (by simp);obtain ⟨D,⟨q1,q2⟩,q3,q4⟩:=h.head;obtain ⟨D1,⟨v1,v2⟩,v3,_⟩:=h.get 1 rfl;obtain ⟨D2,⟨b1,b2⟩,b3,_⟩:=h.get 2 rfl;obtain ⟨D3,⟨c1,c2⟩,c3,_⟩:=h.get 3 rfl;refine ⟨D++(D1++(D2++D3)),⟨fun p' hp'=> ?_,fun k hk=> ?_⟩,fun k hk=> ?_,q4⟩
 ·rcases List.mem_append.1 hp' with hp' | hp'
  ·exact (q1 p' hp').mono (by simp+contextual)
  ·simp at hp';subst hp'
   exact ⟨v1.mono (by simp+contextual),hn,b1.mono (by simp+contextual),hm,fun c hc=>(c1 c hc).mono (by simp+contextual)⟩
 ·simp only [List.mem_append] at hk
  rcases hk with hk | hk | hk | hk
  ·exact q2 k hk
  ·exact v2 k hk
  ·exact b2 k hk
  ·exact c2 k hk
 ·simp only [List.mem_append] at hk
  rcases hk with hk | hk | hk | hk
  ·exact q3 k hk
  ·exact v3 k hk
  ·exact b3 k hk
  ·exact c3 k hk
theorem zpo {p:Pt} {a1:Option Addr} {n1 c1:Nat} {a2:Option Addr} {n2 c2:Nat} (h1:p.vv= .slice a1 n1 c1) (h2:p.cv= .slice a2 n2 c2): ∀u∈zaj p,u.oneCell'=true:=by
 intro u hu;simp only [zaj,h1,h2,List.mem_cons,List.not_mem_nil,or_false] at hu;rcases hu with rfl | rfl | rfl | rfl<;>rfl
theorem zss (h:Own B w0 W (rdB r bv s::ss)) (hb:RdOk w0 B bv bs ss) (hs:s.at_≤65536):
  Calls Tryz.prog 210 #[.pointer (some ⟨r,0,none⟩)] W fun e w'=> ∃p:Pt,e= .returned (ptAgg p)∧p.pa=(zcr bs s).1∧(zcr bs s).2.at_≤65536∧Own B w0 w' (rdB r bv (zcr bs s).2::redR p.vv 2 p.vs.length (zaf p.vs)::redR p.cv 5 p.cts.length (p.cts.flatMap zag)::ctsR p.cts::ss)∧(∃a1 n1 c1 a2 n2 c2,p.vv= .slice a1 n1 c1∧p.cv= .slice a2 n2 c2)∧p.vs.length≤256∧p.cts.length≤256:=by
 have H0:=zq (zfk h (.cells #[.int .i64 0,.slice none 0 0,.slice none 0 0,.int .i64 0] 49 (0,0))).rot;have HB:=zq hb;obtain ⟨p0,hp0⟩: ∃p,p=rdN bs s:=⟨_,rfl⟩;have hs0:p0.2.at_≤65536:=by rw [hp0];exact (zek (bs:=bs) hs hb.l).1
 obtain ⟨p1,hp1⟩: ∃p,p=rdL bs (zb0 bs) p0.2:=⟨_,rfl⟩;obtain ⟨p2,hp2⟩: ∃p,p=rdL bs (zch bs) p1.2:=⟨_,rfl⟩;obtain ⟨p3,hp3⟩: ∃p,p=rdN bs p2.2:=⟨_,rfl⟩;have HL1:Hid (p1.1.length≤256):=zq (by rw [hp1];exact zkz _ _ _);have HL2:Hid (p2.1.length≤256):=zq (by rw [hp2];exact zkz _ _ _);have HL0:=zq hb.l;have HP:Hid (zcr bs s=(⟨p0.1,p1.1,p2.1,p3.1⟩,p3.2)):=zq (by rw [hp3,hp2,hp1,hp0];rfl);have HQ0:=zq hp0;have HQ1:=zq hp1;have HQ2:=zq hp2;have HQ3:=zq hp3;clear h hb hp0 hp1 hp2 hp3;go_enter Tryz.func210,Tryz.ntmps210
 have HC0:=zq (za3 H0.out (HB.out.sub (by simp+contextual)) hs);rw [←HQ0.out] at HC0
 go_wp2_with fail
 refine HC0.out.mono ?_;rintro e wx0 ⟨rfl,h0⟩;have x0:wx0.cell? ⟨W.heap.size+1,0,none⟩=some (.int .i64 0):=by rw [zac (h0.blkAt 1 rfl)];rfl
 have z0:=zab (h0.blkAt 1 rfl) 0;have H1:=zq (h0.swap.store 0 (.int .i64 p0.1)).swap;clear HC0 H0 h0;have HC1:=zq (zen H1.out (HB.out.sub (by simp+contextual)) hs0);rw [←HQ1.out] at HC1
 go_wp2_with fail
 refine HC1.out.mono ?_;rintro e wx1 ⟨ao1,cap1,rfl,hs1,g1⟩;have h1:=g1.perm (.cons _ (List.perm_append_comm (l₁:=[_]) (l₂:=[_,_]) |>.append_right _));have x1:wx1.cell? ⟨W.heap.size+1,1,none⟩=some (.slice none 0 0):=by rw [zac (h1.blkAt 1 rfl)];rfl
 have z1:=zab (h1.blkAt 1 rfl) 1;have H2:=zq (h1.swap.store 1 (.slice ao1 p1.1.length cap1)).swap;clear HC1 H1 h1 g1 x0 z0;have HC2:=zq (zge H2.out (HB.out.sub (by simp+contextual)) hs1);rw [←HQ2.out] at HC2
 go_wp2_with fail
 refine HC2.out.mono ?_;rintro e wx2 ⟨ao2,cap2,cts,rfl,hcts,hs2,g2⟩;have HCT:=zq hcts;clear hcts;have h2:=g2.perm (.cons _ (List.perm_append_comm (l₁:=[_,_]) (l₂:=[_,_]) |>.append_right _));have x2:wx2.cell? ⟨W.heap.size+1,2,none⟩=some (.slice none 0 0):=by rw [zac (h2.blkAt 1 rfl)];rfl
 have z2:=zab (h2.blkAt 1 rfl) 2;have H3:=zq (h2.swap.store 2 (.slice ao2 cts.length cap2)).swap;clear HC2 H2 h2 g2 x1 z1;have hs3:p3.2.at_≤65536:=by rw [HQ3.out];exact (zek (bs:=bs) hs2 HL0.out).1
 have HC3:=zq (za3 H3.out (HB.out.sub (by simp+contextual)) hs2);rw [←HQ3.out] at HC3
 go_wp2_with fail
 refine HC3.out.mono ?_;rintro e wx3 ⟨rfl,h3⟩;have x3:wx3.cell? ⟨W.heap.size+1,3,none⟩=some (.int .i64 0):=by rw [zac (h3.blkAt 1 rfl)];rfl
 have z3:=zab (h3.blkAt 1 rfl) 3;have H4:=zq (h3.swap.store 3 (.int .i64 p3.1)).swap;clear HC3 H3 h3 x2 z2
 go_upto_region 6 with fail
 generalize World.setCell _ _ _=w9 at*;clear x3 z3;have h9:=H4.out;have a0:w9.cell? ⟨W.heap.size+1,0,none⟩=some (.int .i64 p0.1):=by rw [zac (h9.blkAt 1 rfl)];rfl
 have b0:w9.cell? ⟨W.heap.size,0,none⟩=some (.int .i64 0):=by rw [zac (h9.blkAt 2 rfl)];rfl
 have y0:=zab (h9.blkAt 2 rfl) 0;have a1:w9.cell? ⟨W.heap.size+1,1,none⟩=some (.slice ao1 p1.1.length cap1):=by rw [zac (h9.blkAt 1 rfl)];rfl
 have b1:w9.cell? ⟨W.heap.size,1,none⟩=some (.slice none 0 0):=by rw [zac (h9.blkAt 2 rfl)];rfl
 have y1:=zab (h9.blkAt 2 rfl) 1;have a2:w9.cell? ⟨W.heap.size+1,2,none⟩=some (.slice ao2 cts.length cap2):=by rw [zac (h9.blkAt 1 rfl)];rfl
 have b2:w9.cell? ⟨W.heap.size,2,none⟩=some (.slice none 0 0):=by rw [zac (h9.blkAt 2 rfl)];rfl
 have y2:=zab (h9.blkAt 2 rfl) 2;have a3:w9.cell? ⟨W.heap.size+1,3,none⟩=some (.int .i64 p3.1):=by rw [zac (h9.blkAt 1 rfl)];rfl
 have b3:w9.cell? ⟨W.heap.size,3,none⟩=some (.int .i64 0):=by rw [zac (h9.blkAt 2 rfl)];rfl
 have y3:=zab (h9.blkAt 2 rfl) 3;have HR:=zq (((((h9.rot).store 0 (.int .i64 p0.1)).store 1 (.slice ao1 p1.1.length cap1)).store 2 (.slice ao2 cts.length cap2)).store 3 (.int .i64 p3.1));clear h9
 go_wp2_with fail
 clear a0 b0 y0 a1 b1 y1 a2 b2 y2 a3 b3 y3;generalize World.setCell _ _ _=w10 at*;have f0:w10.cell? ⟨W.heap.size,0,none⟩=some (.int .i64 p0.1):=by rw [zac (HR.out.blkAt 0 rfl)];rfl
 have f1:w10.cell? ⟨W.heap.size,1,none⟩=some (.slice ao1 p1.1.length cap1):=by rw [zac (HR.out.blkAt 0 rfl)];rfl
 have f2:w10.cell? ⟨W.heap.size,2,none⟩=some (.slice ao2 cts.length cap2):=by rw [zac (HR.out.blkAt 0 rfl)];rfl
 have f3:w10.cell? ⟨W.heap.size,3,none⟩=some (.int .i64 p3.1):=by rw [zac (HR.out.blkAt 0 rfl)];rfl
 have h11:=HR.out.drop.dropAt 1 (by simp);have h12:=zf9 (h11.swap:Own B w0 w10 (ownR 42 5 (.slice ao2 cts.length cap2) cts.length (cts.flatMap zag)::rdB r bv p3.2::ctsR cts::ownR 177 2 (.slice ao1 p1.1.length cap1) p1.1.length (p1.1.flatMap za2)::ss));have h13:=zf9 (h12.perm (List.perm_append_comm (l₁:=[_,_,_]) (l₂:=[_]) |>.append_right _));have h14:=h13.perm (ss:=rdB r bv p3.2::redR (.slice ao1 p1.1.length cap1) 2 p1.1.length (zaf p1.1)::redR (.slice ao2 cts.length cap2) 5 cts.length (cts.flatMap zag)::ctsR cts::ss) (by
  refine (List.Perm.cons _ (.swap _ _ _)).trans ?_;exact .swap _ _ _)
 have HLC:cts.length≤256:=by
  have e:=congrArg List.length HCT.out;rw [List.length_map] at e;rw [e];exact HL2.out
 exact bodyPost_ret (v:= .agg #[.int .i64 p0.1,.slice ao1 p1.1.length cap1,.slice ao2 cts.length cap2,.int .i64 p3.1]) (by simp [results,Tryz.results210,go_sem,f0,f1,f2,f3]) rfl ⟨⟨p0.1,.slice ao1 p1.1.length cap1,p1.1,.slice ao2 cts.length cap2,cts,p3.1⟩,rfl,by rw [HP.out];simp only [Pt.pa,HCT.out],by rw [HP.out];exact hs3,by rw [HP.out];exact h14,⟨_,_,_,_,_,_,rfl,rfl⟩,HL1.out,HLC⟩
end
theorem Tryz.infoPart9:(Tryz.prog.info? 49).map (fun i=>(i.zero,i.size,i.bytes))=some (some (.agg #[.int .i64 0,.slice none 0 0,.slice none 0 0,.int .i64 0]),4,64):=by kernel_rfl
section
variable {B:Nat} {w0 w W W':World} {ss rs:List Res} {r:Nat} {bv:Value} {bs:Bys} {s:Rs}
theorem zld (h:Own B w0 W (rdB r bv s::ss)) (hb:RdOk w0 B bv bs ss) (hs:s.at_≤65536):
  Calls Tryz.prog 250 #[.pointer (some ⟨r,0,none⟩),.func (.func 210) #[] #[]] W fun e w'=> ∃ao cap,∃cts:List Pt,e= .returned (.slice ao cts.length cap)∧cts.map Pt.pa=(rdL bs (zcr bs) s).1∧(rdL bs (zcr bs) s).2.at_≤65536∧Own B w0 w' (rdB r bv (rdL bs (zcr bs) s).2::ownR 49 4 (.slice ao cts.length cap) cts.length (cts.flatMap zaj)::ptsR cts::ss):=by
 obtain ⟨i0,hi,hz0,hz1,hz2⟩:=info_parts Tryz.infoPart9;have HB:=zq hb;have hs1:=(zek (bs:=bs) hs hb.l).1;have HC:=zq (za3 h hb hs);have HL:Hid (rdL bs (zcr bs) s=if 256<(rdN bs s).1 then ([],⟨(rdN bs s).2.at_,true⟩) else rdGo (zcr bs) (rdN bs s).1 [] (rdN bs s).2):=zq rfl;generalize rdL bs (zcr bs) s=res at*;generalize (rdN bs s).1=n at*;generalize (rdN bs s).2=s1 at*;clear h hb hs;go_enter Tryz.func250,Tryz.ntmps250
 go_wp2_with fail
 refine zc2 0 1 (fun a' w'=> ∃(st:Rs) (u1 u2 u3 u4 u5 u6 u7 u8 u9 u10 u11 u12 u13 u14 u15 u16 u17 u18 u19 u20 u21 u22 u23 u24 u25 u26 u27 u28:Value),a'= {tmps:=#[.pointer (some ⟨r,0,none⟩),u1,u2,u3,u4,u5,u6,u7,u8,u9,u10,u11,u12,u13,u14,u15,u16,u17,u18,u19,u20,u21,u22,u23,u24,u25,u26,u27,u28],defers:=[]}∧st.at_≤65536∧res=([],⟨st.at_,true⟩)∧Own B w0 w' (rdB r bv st::ss))
  (fun a' w'=> ∃(acc:List Pt) (st:Rs) (m:Nat) (ao:Option Addr) (k cap:Nat) (nI:Int) (t2 t3 t7 t8 t9 t10 t11 t12 t13 t14 t15 t16 t17 t18 t19 t20 t21 t22 t23 t24 t25 t26 t27 t28:Value),a'= {tmps:=#[.pointer (some ⟨r,0,none⟩),.func (.func 210) #[] #[],t2,t3,.slice none 0 0,.slice ao k cap,.int .i64 nI,t7,t8,t9,t10,t11,t12,t13,t14,t15,t16,t17,t18,t19,t20,t21,t22,t23,t24,t25,t26,t27,t28],defers:=[]}∧nI=(n:Int)∧k=acc.length∧n=acc.length+m∧n≤256∧st.at_≤65536∧res=rdGo (zcr bs) m (acc.map Pt.pa) st∧Own B w0 w' (rdB r bv st::ownR 49 4 (.slice ao acc.length cap) acc.length (acc.flatMap zaj)::ptsR acc::ss))
  (fun _ _=>0) (fun a _=>300-lenOf (a.tmps.getD 5 undef)) rfl rfl (by decide) ?_ ?_ ?_
 ·rintro a' w' ⟨st,u1,u2,u3,u4,u5,u6,u7,u8,u9,u10,u11,u12,u13,u14,u15,u16,u17,u18,u19,u20,u21,u22,u23,u24,u25,u26,u27,u28,rfl,hat,hres,ho⟩
  have z2:=zab ho.blk_out 2;have x2:w'.cell? ⟨r,2,none⟩=some (.bool st.bad):=by rw [zac ho.blk_out];rfl
  have HE:=zq (ho.store 2 (.bool true));clear ho
  go_wp2_with fail
  simp only [Exit.two];go_ret
  refine ⟨none,0,[],rfl,?_,?_,?_⟩
  ·rw [hres];rfl
  ·rw [hres];exact hat
  ·rw [hres];exact (((zxw HE.out).row0 (E:=49) (sz:=4)).rot)
 ·rintro a' w' ⟨acc,st,m,ao,k,cap,nI,t2,t3,t7,t8,t9,t10,t11,t12,t13,t14,t15,t16,t17,t18,t19,t20,t21,t22,t23,t24,t25,t26,t27,t28,rfl,rfl,rfl,hnm,hn,hat,hres,ho⟩
  have x2:w'.cell? ⟨r,2,none⟩=some (.bool st.bad):=by rw [zac ho.blk_out];rfl
  have HO:=zq ho;obtain ⟨at_,bad⟩:=st;simp only at x2 hat;cases bad with
  | true=>
   have HNO:=zq (hres.trans (zjo _ _ _ _ rfl));clear ho hres
   go_wp2_with fail
   go_step3
   exact .inl ⟨rfl,⟨⟨at_,true⟩,_,_,_,_,_,_,_,_,_,_,_,_,_,_,_,_,_,_,_,_,_,_,_,_,_,_,_,_,rfl,hat,HNO.out,(HO.out.dropAt 1 (by simp)).dropAt 1 (by simp)⟩,by simp [lenOf];omega⟩
  | false=>
   cases m with
   | zero=>
    have hlI:((acc.length:Int)==(n:Int))=true:=by simp;omega
    have HNO:=zq (hres.trans (zgp _ _ _ rfl));clear ho hres
    go_wp2_with fail
    simp only [Exit.two];go_ret
    refine ⟨ao,cap,acc,rfl,?_,?_,?_⟩
    ·rw [HNO.out]
    ·rw [HNO.out];exact hat
    ·rw [HNO.out];exact HO.out
   | succ m=>
    have hlI:((acc.length:Int)==(n:Int))=false:=by simp;omega
    have HNX:=zq (hres.trans (zfi _ m (acc.map Pt.pa) ⟨at_,false⟩ rfl));have HC1:=zq (zss ho (HB.out.sub (by simp+contextual)) hat);clear ho hres
    go_wp2_with fail
    refine HC1.out.mono ?_;rintro e w1 ⟨x,rfl,hcp,hat1,h1,hfm,hl1,hl2⟩;generalize hone:zcr bs ⟨at_,false⟩=o1 at*;obtain ⟨xp,st1⟩:=o1;simp only at hcp hat1 h1;obtain ⟨a1,n1,c1,a2,n2,c2,hvb,hvv⟩:=hfm;have HON:=zq (zpo hvb hvv);have hp1:=h1.perm (ss:=ptsR acc::redR x.vv 2 x.vs.length (zaf x.vs)::redR x.cv 5 x.cts.length (x.cts.flatMap zag)::ctsR x.cts::rdB r bv st1::ownR 49 4 (.slice ao acc.length cap) acc.length (acc.flatMap zaj)::ss) (by
     refine (List.perm_append_comm (l₁:=[_,_,_,_,_]) (l₂:=[_]) |>.append_right _).trans ?_;refine .cons _ ?_;exact List.perm_append_comm (l₁:=[_]) (l₂:=[_,_,_]) |>.append_right _)
    have h2:=(pts_add hp1 (by omega) (by omega)).perm (ss:=rdB r bv st1::ownR 49 4 (.slice ao acc.length cap) acc.length (acc.flatMap zaj)::ptsR (acc++[x])::ss) (List.perm_append_comm (l₁:=[_]) (l₂:=[_,_]) |>.append_right _);clear hvb hvv;have hd:=h2.alloc (.cells #[.int .i64 x.fm,x.vv,x.cv,.int .i64 x.sl] 49 (0,0));have HD:=zq hd;have HCP:=zq hcp;have HW:=zq (zam (hd.get 1 rfl));have HNW:Hid (∀j u,(zaj x)[j]?=some u→(w1.alloc (.cells #[.int .i64 x.fm,x.vv,x.cv,.int .i64 x.sl] 49 (0,0))).cell? ((⟨w1.heap.size,0,none⟩:Addr).add j)=some u):=zq (World.news_of_block (heap_alloc_new w1 (.cells #[.int .i64 x.fm,x.vv,x.cv,.int .i64 x.sl] 49 (0,0))));have HMX:=zq (small_max' (k:=acc.length) (by omega));have HM4:Hid ((acc.length+1)*64≤140737488355328):=zq (by omega);clear hd h1 h2 HC1 x2 hcp hone
    go_wp2_with (at_builtin;refine wpList_append_lies _ rfl (.tmp 20) (.tmp 24) 45 rfl 0 49 i0 (.agg #[.int .i64 0,.slice none 0 0,.slice none 0 0,.int .i64 0]) 4 64 Tryz.underlying45 hi hz0 hz1 hz2 rfl (by decide) _ acc.length _ rfl HW.out ⟨w1.heap.size,0,none⟩ 1 1 (zaj x) rfl rfl HNW.out HON.out (by decide) HMX.out HM4.out (Nat.zero_le _) _ rfl ?_)
    intro g9 cap9 w9 hown hgrow hat9 hlt9;have h6:=HD.out.growAt 1 rfl hgrow (by simpa using hat9) hown;have HZ:Hid (Own B w0 w9 (rdB r bv st1::ownR 49 4 (.slice (some ⟨g9,0,none⟩) (acc++[x]).length cap9) (acc++[x]).length ((acc++[x]).flatMap zaj)::ptsR (acc++[x])::ss)):=zq (by
     have e1:(acc++[x]).flatMap zaj=acc.flatMap zaj++zaj x:=by rw [List.flatMap_append,zi3]
     have e2:(acc++[x]).length=acc.length+1:=by simp
     rw [e1,e2];exact h6)
    have HNY:Hid (res=rdGo (zcr bs) m ((acc++[x]).map Pt.pa) st1):=zq (by rw [HNX.out,List.map_append,List.map_singleton,HCP.out]);clear hown hgrow hat9 hlt9 h6 HD HW HNW HON HMX HM4 HO HNX
    go_wp2_with fail
    go_step3
    exact .inr ⟨rfl,⟨acc++[x],st1,m,_,_,_,_,_,_,_,_,_,_,_,_,_,_,_,_,_,_,_,_,_,_,_,_,_,_,_,_,rfl,by omega,by simp,by rw [List.length_append];simp;omega,hn,hat1,HNY.out,HZ.out⟩,by simp [lenOf];omega⟩
 ·intro K1
  go_wp2_with fail
  refine HC.out.mono ?_;rintro e w1 ⟨rfl,h1⟩;have H1:=zq h1;clear h1 HC;by_cases hbig:256<n
  ·have hbI:(256:Int)<(n:Int):=by omega
   have HNO:Hid (res=([],⟨s1.at_,true⟩)):=zq (by rw [HL.out,if_pos hbig])
   go_wp2_with fail
   go_step3
   exact .inl ⟨rfl,s1,_,_,_,_,_,_,_,_,_,_,_,_,_,_,_,_,_,_,_,_,_,_,_,_,_,_,_,_,rfl,hs1,HNO.out,H1.out⟩
  ·have hbI:decide ((256:Int)<(n:Int))=false:=by simp;omega
   have HNO:Hid (res=rdGo (zcr bs) n [] s1):=zq (by rw [HL.out,if_neg hbig])
   go_wp2_with fail
   go_step3
   rename_i hK
   refine hK _ _ ?_;exact K1 _ _ ⟨[],s1,n,none,0,0,_,_,_,_,_,_,_,_,_,_,_,_,_,_,_,_,_,_,_,_,_,_,_,_,_,rfl,rfl,rfl,by simp,by omega,hs1,HNO.out,((zxw H1.out).row0 (E:=49) (sz:=4)).rot⟩
end
section
variable {B:Nat} {w0 w W W':World} {ss rs:List Res} {bv:Value} {bs:Bys}
theorem zfj (h:Own B w0 W ss) (bv:Value) (at_:Nat):Own B w0 (W.alloc (.cells #[bv,.int .i64 at_,.bool false] 339 (0,0))) (rdB W.heap.size bv ⟨at_,false⟩::ss):=h.box _
def zww (B:Nat) (w0:World) (ss:List Res) (o:Option (List Rq×Nat)) (e:Ending) (w':World):Prop:=match o with
 | none=>e= .returned (.tuple #[.slice none 0 0,.int .i64 0,.bool false])∧Own B w0 w' ss
 | some (l,a)=> ∃ao cap,e= .returned (.tuple #[.slice ao l.length cap,.int .i64 a,.bool true])∧a≤65536∧Own B w0 w' (redR (.slice ao l.length cap) 6 l.length (l.flatMap zbh)::ss)
theorem zj3 (h:Own B w0 W ss) (hb:RdOk w0 B bv bs ss) (at_:Nat) (hs:at_≤65536):
  Calls Tryz.prog 203 #[bv,.int .i64 at_,.func (.func 204) #[] #[]] W (zww B w0 ss (zb3 bs (rdReq bs) at_)):=by
 obtain ⟨ab,cb,rfl,-,-⟩:=hb.f;have HT:=zq (zhx (zfj h _ at_) hb hs);have HW:Hid (zb3 bs (rdReq bs) at_=if (rdL bs (rdReq bs) ⟨at_,false⟩).2.bad then none else some ((rdL bs (rdReq bs) ⟨at_,false⟩).1,(rdL bs (rdReq bs) ⟨at_,false⟩).2.at_)):=zq rfl;generalize zb3 bs (rdReq bs) at_=wo at*;generalize rdL bs (rdReq bs) ⟨at_,false⟩=res at*;obtain ⟨l,st⟩:=res;obtain ⟨at2,bad⟩:=st;clear h hb hs;go_enter Tryz.func203,Tryz.ntmps203
 go_wp2_with fail
 refine HT.out.mono ?_;rintro e w1 ⟨ao,cap,rfl,hat,h1⟩;have x1:w1.cell? ⟨W.heap.size,1,none⟩=some (.int .i64 at2):=by rw [zac h1.blk_out];rfl
 have x2:w1.cell? ⟨W.heap.size,2,none⟩=some (.bool bad):=by rw [zac h1.blk_out];rfl
 have H1:=zq h1;clear h1 HT;cases bad with
 | true=>
  have hw:=HW.out;simp only [if_true] at hw;subst hw
  go_wp2_with fail
  go_ret3
  exact ⟨rfl,H1.out.drop.drop⟩
 | false=>
  have hw:=HW.out;simp only [Bool.false_eq_true,if_false] at hw;subst hw
  go_wp2_with fail
  go_quiet (fail)
  go_wp2_with fail
  go_ret3
  refine ⟨ao,cap,rfl,hat,(zf9 H1.out.drop).upd0 ((Upd.refl _ _).drewN _)⟩
theorem zk9 (h:Own B w0 W ss) (hb:RdOk w0 B bv bs ss) (at_:Nat) (hs:at_≤65536):
  Calls Tryz.prog 133 #[bv,.int .i64 at_] W (zww B w0 ss (zb3 bs (rdReq bs) at_)):=by
 have HT:=zq (zj3 h hb at_ hs);generalize zb3 bs (rdReq bs) at_=wo at*;clear h hb hs;go_enter Tryz.func133,Tryz.ntmps133
 go_wp2_with fail
 refine HT.out.mono ?_;intro e w1 hp;clear HT;cases wo with
 | none=>
  obtain ⟨rfl,h1⟩:=hp;have H1:=zq h1;clear h1
  go_wp2_with fail
  go_ret3
  exact ⟨rfl,H1.out⟩
 | some p=>
  obtain ⟨l,a⟩:=p;obtain ⟨ao,cap,rfl,hat,h1⟩:=hp;have H1:=zq h1;clear h1
  go_wp2_with fail
  go_ret3
  exact ⟨ao,cap,rfl,hat,H1.out⟩
def zwz (B:Nat) (w0:World) (ss:List Res) (o:Option (List (Int×Int)×Nat)) (e:Ending) (w':World):Prop:=match o with
 | none=>e= .returned (.tuple #[.slice none 0 0,.int .i64 0,.bool false])∧Own B w0 w' ss
 | some (l,a)=> ∃ao cap,e= .returned (.tuple #[.slice ao l.length cap,.int .i64 a,.bool true])∧a≤65536∧Own B w0 w' (redR (.slice ao l.length cap) 2 l.length (l.flatMap za2)::ss)
theorem zj6 (h:Own B w0 W ss) (hb:RdOk w0 B bv bs ss) (at_:Nat) (hs:at_≤65536):
  Calls Tryz.prog 205 #[bv,.int .i64 at_,.func (.func 206) #[] #[]] W (zwz B w0 ss (zb3 bs (zb0 bs) at_)):=by
 obtain ⟨ab,cb,rfl,-,-⟩:=hb.f;have HT:=zq (zen (zfj h _ at_) hb hs);have HW:Hid (zb3 bs (zb0 bs) at_=if (rdL bs (zb0 bs) ⟨at_,false⟩).2.bad then none else some ((rdL bs (zb0 bs) ⟨at_,false⟩).1,(rdL bs (zb0 bs) ⟨at_,false⟩).2.at_)):=zq rfl;generalize zb3 bs (zb0 bs) at_=wo at*;generalize rdL bs (zb0 bs) ⟨at_,false⟩=res at*;obtain ⟨l,st⟩:=res;obtain ⟨at2,bad⟩:=st;clear h hb hs;go_enter Tryz.func205,Tryz.ntmps205
 go_wp2_with fail
 refine HT.out.mono ?_;rintro e w1 ⟨ao,cap,rfl,hat,h1⟩;have x1:w1.cell? ⟨W.heap.size,1,none⟩=some (.int .i64 at2):=by rw [zac h1.blk_out];rfl
 have x2:w1.cell? ⟨W.heap.size,2,none⟩=some (.bool bad):=by rw [zac h1.blk_out];rfl
 have H1:=zq h1;clear h1 HT;cases bad with
 | true=>
  have hw:=HW.out;simp only [if_true] at hw;subst hw
  go_wp2_with fail
  go_ret3
  exact ⟨rfl,H1.out.drop.drop⟩
 | false=>
  have hw:=HW.out;simp only [Bool.false_eq_true,if_false] at hw;subst hw
  go_wp2_with fail
  go_quiet (fail)
  go_wp2_with fail
  go_ret3
  refine ⟨ao,cap,rfl,hat,(zf9 H1.out.drop).upd0 ((Upd.refl _ _).drewN _)⟩
theorem zlc (h:Own B w0 W ss) (hb:RdOk w0 B bv bs ss) (at_:Nat) (hs:at_≤65536):
  Calls Tryz.prog 134 #[bv,.int .i64 at_] W (zwz B w0 ss (zb3 bs (zb0 bs) at_)):=by
 have HT:=zq (zj6 h hb at_ hs);generalize zb3 bs (zb0 bs) at_=wo at*;clear h hb hs;go_enter Tryz.func134,Tryz.ntmps134
 go_wp2_with fail
 refine HT.out.mono ?_;intro e w1 hp;clear HT;cases wo with
 | none=>
  obtain ⟨rfl,h1⟩:=hp;have H1:=zq h1;clear h1
  go_wp2_with fail
  go_ret3
  exact ⟨rfl,H1.out⟩
 | some p=>
  obtain ⟨l,a⟩:=p;obtain ⟨ao,cap,rfl,hat,h1⟩:=hp;have H1:=zq h1;clear h1
  go_wp2_with fail
  go_ret3
  exact ⟨ao,cap,rfl,hat,H1.out⟩
def zwx (B:Nat) (w0:World) (ss:List Res) (o:Option (List Cp×Nat)) (e:Ending) (w':World):Prop:=match o with
 | none=>e= .returned (.tuple #[.slice none 0 0,.int .i64 0,.bool false])∧Own B w0 w' ss
 | some (l,a)=> ∃ao cap,∃cts:List Ct,e= .returned (.tuple #[.slice ao cts.length cap,.int .i64 a,.bool true])∧a≤65536∧cts.map Ct.cp=l∧Own B w0 w' (redR (.slice ao cts.length cap) 5 cts.length (cts.flatMap zag)::ctsR cts::ss)
theorem zj4 (h:Own B w0 W ss) (hb:RdOk w0 B bv bs ss) (at_:Nat) (hs:at_≤65536):
  Calls Tryz.prog 207 #[bv,.int .i64 at_,.func (.func 208) #[] #[]] W (zwx B w0 ss (zb3 bs (zch bs) at_)):=by
 obtain ⟨ab,cb,rfl,-,-⟩:=hb.f;have HT:=zq (zge (zfj h _ at_) hb hs);have HW:Hid (zb3 bs (zch bs) at_=if (rdL bs (zch bs) ⟨at_,false⟩).2.bad then none else some ((rdL bs (zch bs) ⟨at_,false⟩).1,(rdL bs (zch bs) ⟨at_,false⟩).2.at_)):=zq rfl;generalize zb3 bs (zch bs) at_=wo at*;generalize rdL bs (zch bs) ⟨at_,false⟩=res at*;obtain ⟨l,st⟩:=res;obtain ⟨at2,bad⟩:=st;clear h hb hs;go_enter Tryz.func207,Tryz.ntmps207
 go_wp2_with fail
 refine HT.out.mono ?_;rintro e w1 ⟨ao,cap,cts,rfl,hcts,hat,h1⟩;have HCT:=zq hcts;have x1:w1.cell? ⟨W.heap.size,1,none⟩=some (.int .i64 at2):=by rw [zac h1.blk_out];rfl
 have x2:w1.cell? ⟨W.heap.size,2,none⟩=some (.bool bad):=by rw [zac h1.blk_out];rfl
 have H1:=zq h1;clear h1 HT;cases bad with
 | true=>
  have hw:=HW.out;simp only [if_true] at hw;subst hw
  go_wp2_with fail
  go_ret3
  exact ⟨rfl,H1.out.drop.drop.drop⟩
 | false=>
  have hw:=HW.out;simp only [Bool.false_eq_true,if_false] at hw;subst hw
  go_wp2_with fail
  go_quiet (fail)
  go_wp2_with fail
  go_ret3
  refine ⟨ao,cap,cts,rfl,hat,HCT.out,(zf9 H1.out.drop).upd0 ((Upd.refl _ _).drewN _)⟩
theorem zla (h:Own B w0 W ss) (hb:RdOk w0 B bv bs ss) (at_:Nat) (hs:at_≤65536):
  Calls Tryz.prog 135 #[bv,.int .i64 at_] W (zwx B w0 ss (zb3 bs (zch bs) at_)):=by
 have HT:=zq (zj4 h hb at_ hs);generalize zb3 bs (zch bs) at_=wo at*;clear h hb hs;go_enter Tryz.func135,Tryz.ntmps135
 go_wp2_with fail
 refine HT.out.mono ?_;intro e w1 hp;clear HT;cases wo with
 | none=>
  obtain ⟨rfl,h1⟩:=hp;have H1:=zq h1;clear h1
  go_wp2_with fail
  go_ret3
  exact ⟨rfl,H1.out⟩
 | some p=>
  obtain ⟨l,a⟩:=p;obtain ⟨ao,cap,cts,rfl,hat,hcts,h1⟩:=hp;have H1:=zq h1;have HCT:=zq hcts;clear h1 hcts
  go_wp2_with fail
  go_ret3
  exact ⟨ao,cap,cts,rfl,hat,HCT.out,H1.out⟩
def zwy (B:Nat) (w0:World) (ss:List Res) (o:Option (List Pa×Nat)) (e:Ending) (w':World):Prop:=match o with
 | none=>e= .returned (.tuple #[.slice none 0 0,.int .i64 0,.bool false])∧Own B w0 w' ss
 | some (l,a)=> ∃ao cap,∃cts:List Pt,e= .returned (.tuple #[.slice ao cts.length cap,.int .i64 a,.bool true])∧a≤65536∧cts.map Pt.pa=l∧Own B w0 w' (redR (.slice ao cts.length cap) 4 cts.length (cts.flatMap zaj)::ptsR cts::ss)
theorem zj5 (h:Own B w0 W ss) (hb:RdOk w0 B bv bs ss) (at_:Nat) (hs:at_≤65536):
  Calls Tryz.prog 209 #[bv,.int .i64 at_,.func (.func 210) #[] #[]] W (zwy B w0 ss (zb3 bs (zcr bs) at_)):=by
 obtain ⟨ab,cb,rfl,-,-⟩:=hb.f;have HT:=zq (zld (zfj h _ at_) hb hs);have HW:Hid (zb3 bs (zcr bs) at_=if (rdL bs (zcr bs) ⟨at_,false⟩).2.bad then none else some ((rdL bs (zcr bs) ⟨at_,false⟩).1,(rdL bs (zcr bs) ⟨at_,false⟩).2.at_)):=zq rfl;generalize zb3 bs (zcr bs) at_=wo at*;generalize rdL bs (zcr bs) ⟨at_,false⟩=res at*;obtain ⟨l,st⟩:=res;obtain ⟨at2,bad⟩:=st;clear h hb hs;go_enter Tryz.func209,Tryz.ntmps209
 go_wp2_with fail
 refine HT.out.mono ?_;rintro e w1 ⟨ao,cap,cts,rfl,hcts,hat,h1⟩;have HCT:=zq hcts;have x1:w1.cell? ⟨W.heap.size,1,none⟩=some (.int .i64 at2):=by rw [zac h1.blk_out];rfl
 have x2:w1.cell? ⟨W.heap.size,2,none⟩=some (.bool bad):=by rw [zac h1.blk_out];rfl
 have H1:=zq h1;clear h1 HT;cases bad with
 | true=>
  have hw:=HW.out;simp only [if_true] at hw;subst hw
  go_wp2_with fail
  go_ret3
  exact ⟨rfl,H1.out.drop.drop.drop⟩
 | false=>
  have hw:=HW.out;simp only [Bool.false_eq_true,if_false] at hw;subst hw
  go_wp2_with fail
  go_quiet (fail)
  go_wp2_with fail
  go_ret3
  refine ⟨ao,cap,cts,rfl,hat,HCT.out,(zf9 H1.out.drop).upd0 ((Upd.refl _ _).drewN _)⟩
theorem zlb (h:Own B w0 W ss) (hb:RdOk w0 B bv bs ss) (at_:Nat) (hs:at_≤65536):
  Calls Tryz.prog 136 #[bv,.int .i64 at_] W (zwy B w0 ss (zb3 bs (zcr bs) at_)):=by
 have HT:=zq (zj5 h hb at_ hs);generalize zb3 bs (zcr bs) at_=wo at*;clear h hb hs;go_enter Tryz.func136,Tryz.ntmps136
 go_wp2_with fail
 refine HT.out.mono ?_;intro e w1 hp;clear HT;cases wo with
 | none=>
  obtain ⟨rfl,h1⟩:=hp;have H1:=zq h1;clear h1
  go_wp2_with fail
  go_ret3
  exact ⟨rfl,H1.out⟩
 | some p=>
  obtain ⟨l,a⟩:=p;obtain ⟨ao,cap,cts,rfl,hat,hcts,h1⟩:=hp;have H1:=zq h1;have HCT:=zq hcts;clear h1 hcts
  go_wp2_with fail
  go_ret3
  exact ⟨ao,cap,cts,rfl,hat,HCT.out,H1.out⟩
end
end Go.Proofs.YtannckelmojkoaaGreat
