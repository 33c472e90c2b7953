/- Parts of the proof, one behind the other. -/
import Derived.Test.YtannckelmojkoaaGreatVwsB23
set_option maxHeartbeats 32000000
set_option maxRecDepth 100000
set_option linter.unusedVariables false
set_option linter.unusedSimpArgs false
namespace Go.Proofs.YtannckelmojkoaaGreat
open Go.RowKit Go.Heap
theorem Tryz.infoSd2:(Tryz.prog.info? 62).map (fun i=>(i.zero,i.size,i.bytes))=some (some (.agg #[.int .i64 0,.slice none 0 0]),2,32):=by kernel_rfl
theorem sealP_ok {l:Nt} {m:Ms} (h:NtOk l) (h1: -9223372036854775808≤m.fm) (h2:m.fm≤9223372036854775807):NtOk (sealP l m).2:=by
 unfold sealP;cases hb:bodyP m with
 | none=>exact h
 | some b=>exact ze5 h (zd9 hb h1 h2)
theorem zk3 {l:Nt} {m:Ms} {e:Bys} (h:(sealP l m).1=some e): ∃b,bodyP m=some b∧e=numB (sealN l m.fm b)++b∧e.length≤65536∧(sealP l m).2=sealL l m.fm b∧numOk (sealN l m.fm b)=true:=by
 unfold sealP at h⊢;cases hb:bodyP m with
 | none=>rw [hb] at h;simp at h
 | some b=>
  rw [hb] at h;simp only at h⊢;unfold envP at h;split at h
  ·rename_i hc
   simp only [Bool.and_eq_true,decide_eq_true_eq] at hc;simp only [Option.some.injEq] at h;exact ⟨b,rfl,h.symm,by rw [←h,List.length_append];exact hc.2,rfl,hc.1⟩
  ·simp at h
theorem zsy {l:Nt} {m:Ms} {e:Bys} (h:(sealP l m).1=some e): ∀c∈e,c<256:=by
 obtain ⟨b,h1,h2,-,-,h3⟩:=zk3 h;subst h2;exact za5 (zbs h3) (ze9 h1).1
theorem zgq {l:Nt} {m:Ms}:(sealP l m).2.length≤l.length+1:=by
 unfold sealP;cases bodyP m with
 | none=>simp
 | some b=>simp only;unfold sealL;split<;>simp
theorem zhb (k:Nat) (id:Int):zas (k+1) id=zas k id++if (k:Int)=id then [] else [(k:Int)]:=by
 unfold zas;rw [List.range_succ,List.map_append,List.filter_append];congr 1
 by_cases h:(k:Int)=id<;>simp [h]
theorem zif (n:Nat) (id:Int):(zas n id).length≤n:=by
 unfold zas;exact Nat.le_trans (List.length_filter_le _ _) (by simp)
section
variable {B:Nat} {w0 w W W':World} {ss rs:List Res} {x:Np} {s s':Ns} {l l':Nt}
theorem znv {m:Mm} (h:NdIs B w0 W x s l (mmR m ss)) (hm:MmOk m) (hn:l.length≤900000000) (ho:s.out.length≤900000000):
  Calls Tryz.prog 160 #[ptrV x.p,.agg (mmA m)] W fun e w'=>e= .returned (.tuple #[.int .i64 (sendN (s,l) m.ms),.bool (sendB (s,l) m.ms)])∧NdIs B w0 w' x (sendS (s,l) m.ms).1 (sendS (s,l) m.ms).2 (mmR m ss):=by
 obtain ⟨i0,hi,hz0,hz1,hz2⟩:=info_parts Tryz.infoU8;obtain ⟨j0,hj,hy0,hy1,hy2⟩:=info_parts Tryz.infoSd2;have hok:=h.ok;have hid0:=hok.id0;have hid1:=hok.id1;have hf1:=hok.c.f1;have hf2:=hok.c.f2;have c15:=(h.alloc (mmO m)).cell 15 rfl (by decide);have hb0:(W.alloc (mmO m)).heap[W.heap.size]?=some (mmO m):=heap_alloc_new W _;obtain ⟨kind,fm,view,inst,seq,res,vb,rs,vv,vs,vc,cts,vp,pts⟩:=m;obtain ⟨r0,hs0,-⟩:=h.side;obtain ⟨a1,c1,rfl⟩: ∃a c,vb= .slice a rs.length c:=let ⟨a,c,e,_⟩:=zad (k:=5) hs0 rfl;⟨a,c,e⟩;obtain ⟨a2,c2,rfl⟩: ∃a c,vv= .slice a vs.length c:=let ⟨a,c,e,_⟩:=zad (k:=4) hs0 rfl;⟨a,c,e⟩;obtain ⟨a3,c3,rfl⟩: ∃a c,vc= .slice a cts.length c:=let ⟨a,c,e,_⟩:=zad (k:=2) hs0 rfl;⟨a,c,e⟩;obtain ⟨a4,c4,rfl⟩: ∃a c,vp= .slice a pts.length c:=let ⟨a,c,e,_⟩:=zad (k:=0) hs0 rfl;⟨a,c,e⟩;obtain ⟨m,hmdef⟩: ∃m:Mm,m=⟨kind,s.id,view,inst,seq,res,.slice a1 rs.length c1,rs,.slice a2 vs.length c2,vs,.slice a3 cts.length c3,cts,.slice a4 pts.length c4,pts⟩:=⟨_,rfl⟩;have hmok:MmOk m:=by subst hmdef;exact ⟨hm.r,hm.v,hm.c,hm.p⟩
 have hmfm:m.fm=s.id:=by subst hmdef;rfl
 have hmms:zfp (Mm.ms ⟨kind,fm,view,inst,seq,res,.slice a1 rs.length c1,rs,.slice a2 vs.length c2,vs,.slice a3 cts.length c3,cts,.slice a4 pts.length c4,pts⟩) s.id=m.ms:=by subst hmdef;rfl
 have H7:Hid (NdIs B w0 (W.alloc (mmO m)) x s l (mmR m (blk W.heap.size (mmO m)::ss))):=zq (by
  have h8:NdIs B w0 W x s l (mmR m ss):=by subst hmdef;exact h
  exact (h8.box (mmO m)).perm ((List.perm_append_comm (l₁:=[_]) (l₂:=[_,_,_,_,_,_])).append_right ss))
 have HS:Hid (sendS (s,l) (Mm.ms ⟨kind,fm,view,inst,seq,res,.slice a1 rs.length c1,rs,.slice a2 vs.length c2,vs,.slice a3 cts.length c3,cts,.slice a4 pts.length c4,pts⟩)=match sealP l m.ms with
  | (none,l')=>(s,l')
  | (some b,l')=>({s with out:=s.out++(zas (3*s.c.f+1) s.id).map fun k=>(k,b)},l')):=zq (by unfold sendS;simp only;rw [hmms];try rfl)
 have HB:Hid (sendB (s,l) (Mm.ms ⟨kind,fm,view,inst,seq,res,.slice a1 rs.length c1,rs,.slice a2 vs.length c2,vs,.slice a3 cts.length c3,cts,.slice a4 pts.length c4,pts⟩)=(sealP l m.ms).1.isSome):=zq (by unfold sendB;simp only;rw [hmms]);have HN:Hid (sendN (s,l) (Mm.ms ⟨kind,fm,view,inst,seq,res,.slice a1 rs.length c1,rs,.slice a2 vs.length c2,vs,.slice a3 cts.length c3,cts,.slice a4 pts.length c4,pts⟩)=if (sealP l m.ms).1.isSome then msS l m.ms else 0):=zq (by unfold sendN sendB;simp only;rw [hmms]);generalize sendS (s,l) (Mm.ms ⟨kind,fm,view,inst,seq,res,.slice a1 rs.length c1,rs,.slice a2 vs.length c2,vs,.slice a3 cts.length c3,cts,.slice a4 pts.length c4,pts⟩)=sS at*;generalize sendB (s,l) (Mm.ms ⟨kind,fm,view,inst,seq,res,.slice a1 rs.length c1,rs,.slice a2 vs.length c2,vs,.slice a3 cts.length c3,cts,.slice a4 pts.length c4,pts⟩)=sB at*;generalize sendN (s,l) (Mm.ms ⟨kind,fm,view,inst,seq,res,.slice a1 rs.length c1,rs,.slice a2 vs.length c2,vs,.slice a3 cts.length c3,cts,.slice a4 pts.length c4,pts⟩)=sN at*;show Calls _ _ _ _ fun e w'=>_∧NdIs B w0 w' x sS.1 sS.2 (mmR ⟨kind,fm,view,inst,seq,res,.slice a1 rs.length c1,rs,.slice a2 vs.length c2,vs,.slice a3 cts.length c3,cts,.slice a4 pts.length c4,pts⟩ ss);obtain ⟨FIN,HFIN⟩: ∃F:World→Prop,Hid (∀w',NdIs B w0 w' x sS.1 sS.2 (mmR m ss)→F w')∧Hid (∀w',F w'→NdIs B w0 w' x sS.1 sS.2 (mmR ⟨kind,fm,view,inst,seq,res,.slice a1 rs.length c1,rs,.slice a2 vs.length c2,vs,.slice a3 cts.length c3,cts,.slice a4 pts.length c4,pts⟩ ss)):=⟨fun w'=>NdIs B w0 w' x sS.1 sS.2 (mmR m ss),zq (fun _ h=>h),zq (fun w' h'=>by subst hmdef;exact h')⟩;have HMD:=zq hmdef;have HMF:=zq hmfm;have HMO:=zq hmok;have hnodes:=zq (fun w=>za0 (s.c.f:Int) w (by omega) (by omega));clear h hs0 hm hok hmms hmdef hmfm hmok;go_enter Tryz.func160,Tryz.ntmps160
 go_upto_region 2 with fail
 have e:=HMD.out;clear HMD;subst e;have H8:=H7;clear H7 hb0 c15;obtain ⟨r,hs,hback⟩:=H8.out.drew.sideN;have hs':Own B w0 _ (mmR ⟨kind,s.id,view,inst,seq,res,.slice a1 rs.length c1,rs,.slice a2 vs.length c2,vs,.slice a3 cts.length c3,cts,.slice a4 pts.length c4,pts⟩ (blk x.nt (noB x.nm)::ntR x.nm l::blk W.heap.size (mmO ⟨kind,s.id,view,inst,seq,res,.slice a1 rs.length c1,rs,.slice a2 vs.length c2,vs,.slice a3 cts.length c3,cts,.slice a4 pts.length c4,pts⟩)::(ss++[r]))):=hs.perm ((List.perm_append_comm (l₁:=[_,_]) (l₂:=[_,_,_,_,_,_])).append_right _);have HSE:=zq (zu8 hs' HMO.out H8.out.nok (by omega) (by show _≤s.id;omega) (by show s.id≤_;omega));have HBK:=zq hback;have hbq:=hs'.blkAt 8 rfl;have c16:=H8.out.drew.cell 16 rfl (by decide);have c15':=H8.out.drew.cell 15 rfl (by decide);have HSO:Hid (∀e,(sealP l (Mm.ms ⟨kind,s.id,view,inst,seq,res,.slice a1 rs.length c1,rs,.slice a2 vs.length c2,vs,.slice a3 cts.length c3,cts,.slice a4 pts.length c4,pts⟩)).1=some e→ ∃b,bodyP (Mm.ms ⟨kind,s.id,view,inst,seq,res,.slice a1 rs.length c1,rs,.slice a2 vs.length c2,vs,.slice a3 cts.length c3,cts,.slice a4 pts.length c4,pts⟩)=some b∧(∀c∈e,c<256)∧e.length≤65536∧(sealP l (Mm.ms ⟨kind,s.id,view,inst,seq,res,.slice a1 rs.length c1,rs,.slice a2 vs.length c2,vs,.slice a3 cts.length c3,cts,.slice a4 pts.length c4,pts⟩)).2=sealL l s.id b∧msS l (Mm.ms ⟨kind,s.id,view,inst,seq,res,.slice a1 rs.length c1,rs,.slice a2 vs.length c2,vs,.slice a3 cts.length c3,cts,.slice a4 pts.length c4,pts⟩)=sealN l s.id b):=zq (fun e he=>by
  obtain ⟨b,q1,q2,q3,q4,q5⟩:=zk3 he;refine ⟨b,q1,zsy he,q3,?_,?_⟩
  ·rw [q4];rfl
  ·unfold msS;rw [q1];rfl)
 have HNK:Hid (NtOk (sealP l (Mm.ms ⟨kind,s.id,view,inst,seq,res,.slice a1 rs.length c1,rs,.slice a2 vs.length c2,vs,.slice a3 cts.length c3,cts,.slice a4 pts.length c4,pts⟩)).2):=zq (sealP_ok H8.out.nok (by show _≤s.id;omega) (by show s.id≤_;omega));have HLN:Hid ((sealP l (Mm.ms ⟨kind,s.id,view,inst,seq,res,.slice a1 rs.length c1,rs,.slice a2 vs.length c2,vs,.slice a3 cts.length c3,cts,.slice a4 pts.length c4,pts⟩)).2.length≤900000001):=zq (Nat.le_trans zgq (by omega));generalize sealP l (Mm.ms ⟨kind,s.id,view,inst,seq,res,.slice a1 rs.length c1,rs,.slice a2 vs.length c2,vs,.slice a3 cts.length c3,cts,.slice a4 pts.length c4,pts⟩)=sp at*;obtain ⟨o,l2⟩:=sp;simp only at HNK HLN HSO HSE HS HB HN;clear hs hs' hback H8;refine Mix.wp_text2 (by kernel_rfl) (by kernel_rfl) ?_
 go_wp2_with fail
 refine HSE.out.mono ?_;rintro e w2 ⟨v2,rfl,h3⟩;have H4:=zq (HBK.out w2 l2 (bysR v2 (bysO o)::mmR ⟨kind,s.id,view,inst,seq,res,.slice a1 rs.length c1,rs,.slice a2 vs.length c2,vs,.slice a3 cts.length c3,cts,.slice a4 pts.length c4,pts⟩ (blk W.heap.size (mmO ⟨kind,s.id,view,inst,seq,res,.slice a1 rs.length c1,rs,.slice a2 vs.length c2,vs,.slice a3 cts.length c3,cts,.slice a4 pts.length c4,pts⟩)::ss)) HNK.out h3.rot');clear h3 HSE HBK hbq c16 c15';cases o with
 | none=>
  have e1:=HS.out;have e2:=HB.out;have e3:=HN.out;simp only [Option.isSome_none,Bool.false_eq_true,if_false] at e1 e2 e3;subst e1 e2 e3;have HF:=zq (HFIN.1.out w2 ((H4.out.drop.perm ((List.perm_append_comm (l₁:=[_,_,_,_,_,_]) (l₂:=[_])).append_right ss)).drop));clear H4;simp only [Option.isSome_none]
  go_wp2_with fail
  refine ⟨by rfl,?_⟩
  go_wp2_with fail
  go_ret2
  exact ⟨rfl,HFIN.2.out _ HF.out⟩
 | some eb=>
  obtain ⟨b,q1,q2,q3,q4,q5⟩:=HSO.out eb rfl;have HQ:=zq q1;have HQ2:=zq q2;have HQ3:=zq q3;have HQ4:=zq q4;have e1:=HS.out;have e2:=HB.out;have e3:=HN.out;simp only [Option.isSome_some,if_true] at e1 e2 e3;rw [q5] at e3;subst e1 e2 e3;clear HSO q1 q2 q3 q4 q5 HS HB HN;simp only [bysO,Option.getD_some] at H4;obtain ⟨r4,hs4,-⟩:=H4.out.side;obtain ⟨eo,ek,rfl,-,-⟩:=zao (k:=0) hs4 rfl;clear hs4;simp only [Option.isSome_some]
  go_wp2_with fail
  refine ⟨by rfl,?_⟩
  go_wp2_with fail
  go_loopw [8] (fun n wr=> ∃k:Nat,k≤3*s.c.f+1∧n= .int .i64 k∧Hid (NdIs B w0 wr x {s with out:=s.out++(zas k s.id).map fun k=>(k,eb)} l2 (bysR (.slice eo eb.length ek) eb::mmR ⟨kind,s.id,view,inst,seq,res,.slice a1 rs.length c1,rs,.slice a2 vs.length c2,vs,.slice a3 cts.length c3,cts,.slice a4 pts.length c4,pts⟩ (blk W.heap.size (mmO ⟨kind,s.id,view,inst,seq,res,.slice a1 rs.length c1,rs,.slice a2 vs.length c2,vs,.slice a3 cts.length c3,cts,.slice a4 pts.length c4,pts⟩)::ss)))) (fun n _=>3*s.c.f+1-(intOf n).toNat)
  case atStart=>exact ⟨0,by omega,rfl,zq (by rw [show zas 0 s.id=[] from rfl,List.map_nil,List.append_nil];exact H4.out)⟩
  case round=>
   clear H4;obtain ⟨k,hk,rfl,H1⟩:=hrel;have d0:=H1.out.cell 0 rfl (by decide);have d15:=H1.out.cell 15 rfl (by decide);by_cases hlt:k<3*s.c.f+1
   ·have hkI:(k:Int)<3*(s.c.f:Int)+1:=by omega
    by_cases hki:(k:Int)=s.id
    ·have HE:Hid (zas (k+1) s.id=zas k s.id):=zq (by rw [zhb,if_pos hki,List.append_nil])
     have hkb:((k:Int) !=s.id)=false:=by simp [hki]
     clear hki
     go_wp2_with fail
     refine (hnodes.out _).mono ?_;rintro e w' ⟨rfl,rfl⟩
     go_wp2_with fail
     go_roundw
     case rel=>exact ⟨k+1,by omega,by go_num,zq (by rw [HE.out];exact H1.out)⟩
     case measure=>simp [intOf];omega
    ·have HE:Hid (zas (k+1) s.id=zas k s.id++[(k:Int)]):=zq (by rw [zhb,if_neg hki])
     have hkb:((k:Int) !=s.id)=true:=by simp [hki]
     clear hki;obtain ⟨v,rr,hvo,hO,hB⟩:=H1.out.drew.outs;obtain ⟨av,kv,hav⟩:=hvo.ov;have HLO:Hid (v.os.length≤900000100):=zq (by
      have h1:=congrArg List.length hvo.os;rw [List.length_map,List.length_append,List.length_map] at h1;have h2:=zif k s.id;omega)
     have HVS:Hid (v.os.map Sd.p=s.out++(zas k s.id).map fun k=>(k,eb)):=zq hvo.os;have HW:=zq hB;rw [hav] at hO;have HO:=zq hO;obtain ⟨c34,z34⟩:=zdz hO 0 rfl 34 rfl;have HBR:=zq (zao (k:=3) hO rfl);have HBO:=zq (zfs eb);clear hO hB hvo
     go_wp2_with fail
     refine (hnodes.out _).mono ?_;rintro e w' ⟨rfl,rfl⟩
     go_wp2_with fail
     refine Held.wp_held [(x.p,34,[.slice av v.os.length kv])] [(4,0)] [13] [(8,true),(3,true)] (by kernel_rfl) (by kernel_rfl) ⟨⟨c34,trivial⟩,trivial⟩ ?_;simp only [Held.cutAt,Held.walk,List.take_succ_cons,List.take_zero,List.drop_succ_cons,List.drop_zero]
     go_wp2_with (at_builtin;refine zcs rfl (.tmp 47) 60 rfl 5 i0 (.int .u8 0) 1 1 Tryz.underlying60 hi hz0 hz1 hz2 rfl (by decide) _ _ _ rfl HBR.out HBO.out (by have:=HQ3.out;omega) ?_)
     intro v5 w5 ho5 hu5;obtain ⟨b5,k5,rfl⟩:=zes ho5;have h5:Own B w0 w5 (bysR (.slice b5 eb.length k5) eb::segR x.p 141 (nsC x {s with out:=s.out++(zas k s.id).map fun k=>(k,eb)} (.slice av v.os.length kv))::ownR 62 2 (.slice av v.os.length kv) v.os.length (v.os.flatMap sdC)::sdsR v.os::((bysR (.slice eo eb.length ek) eb::mmR ⟨kind,s.id,view,inst,seq,res,.slice a1 rs.length c1,rs,.slice a2 vs.length c2,vs,.slice a3 cts.length c3,cts,.slice a4 pts.length c4,pts⟩ (blk W.heap.size (mmO ⟨kind,s.id,view,inst,seq,res,.slice a1 rs.length c1,rs,.slice a2 vs.length c2,vs,.slice a3 cts.length c3,cts,.slice a4 pts.length c4,pts⟩)::ss))++rr)):=HO.out.row1 hu5 ho5;have HX:=zq (h5.box (.cells #[.int .i64 k,.slice b5 eb.length k5] 62 (0,0)));have HN5:=zq (heap_alloc_new w5 (.cells #[.int .i64 k,.slice b5 eb.length k5] 62 (0,0)));obtain ⟨e34,-⟩:=zdz h5 1 rfl 34 rfl;clear ho5 hu5 h5 HO HBR c34 z34
     go_wp2_with fail
     refine ⟨⟨⟨e34,trivial⟩,trivial⟩,?_⟩
     go_wp2_with (at_builtin;refine za7 rfl (.tmp 45) (.tmp 50) 54 rfl 62 j0 (.agg #[.int .i64 0,.slice none 0 0]) 2 32 Tryz.underlying54 hj hy0 hy1 hy2 rfl (by decide) HX.out 3 (.slice av v.os.length kv) v.os.length (v.os.flatMap sdC) rfl rfl w5.heap.size #[.int .i64 k,.slice b5 eb.length k5] 62 (0,0) rfl HN5.out rfl (by simp [Value.oneCell']) (by have:=HLO.out;unfold maxLen;omega) (by have:=HLO.out;omega) ?_)
     intro g6 cap6 w6 h6;have h7:Own B w0 w6 (bysR (.slice b5 eb.length k5) eb::segR x.p 141 (nsC x {s with out:=s.out++(zas k s.id).map fun k=>(k,eb)} (.slice av v.os.length kv))::ownR 62 2 (.slice (some ⟨g6,0,none⟩) (v.os.length+1) cap6) (v.os.length+1) (v.os.flatMap sdC++[.int .i64 k,.slice b5 eb.length k5])::sdsR v.os::((bysR (.slice eo eb.length ek) eb::mmR ⟨kind,s.id,view,inst,seq,res,.slice a1 rs.length c1,rs,.slice a2 vs.length c2,vs,.slice a3 cts.length c3,cts,.slice a4 pts.length c4,pts⟩ (blk W.heap.size (mmO ⟨kind,s.id,view,inst,seq,res,.slice a1 rs.length c1,rs,.slice a2 vs.length c2,vs,.slice a3 cts.length c3,cts,.slice a4 pts.length c4,pts⟩)::ss))++rr)):=h6.drop;obtain ⟨f34,y34⟩:=zdz h7 1 rfl 34 rfl;have h8:=h7.toRed.putAt 1 rfl 34 (.slice (some ⟨g6,0,none⟩) (v.os.length+1) cap6);have h9:Own B w0 (w6.setCell ⟨x.p,34,none⟩ (.slice (some ⟨g6,0,none⟩) (v.os.length+1) cap6)) (segR x.p 141 (nsC x {s with out:=s.out++(zas k s.id).map fun k=>(k,eb)} (.slice (some ⟨g6,0,none⟩) (v.os++[(⟨k,.slice b5 eb.length k5,eb⟩:Sd)]).length cap6))::ownR 62 2 (.slice (some ⟨g6,0,none⟩) (v.os++[(⟨k,.slice b5 eb.length k5,eb⟩:Sd)]).length cap6) (v.os++[(⟨k,.slice b5 eb.length k5,eb⟩:Sd)]).length ((v.os++[(⟨k,.slice b5 eb.length k5,eb⟩:Sd)]).flatMap sdC)::sdsR (v.os++[(⟨k,.slice b5 eb.length k5,eb⟩:Sd)])::((bysR (.slice eo eb.length ek) eb::mmR ⟨kind,s.id,view,inst,seq,res,.slice a1 rs.length c1,rs,.slice a2 vs.length c2,vs,.slice a3 cts.length c3,cts,.slice a4 pts.length c4,pts⟩ (blk W.heap.size (mmO ⟨kind,s.id,view,inst,seq,res,.slice a1 rs.length c1,rs,.slice a2 vs.length c2,vs,.slice a3 cts.length c3,cts,.slice a4 pts.length c4,pts⟩)::ss))++rr)):=by
      have g1:Own B w0 _ (sdsR (v.os++[(⟨k,.slice b5 eb.length k5,eb⟩:Sd)])::_):=h8.mkSds (fun c hc=>by
       rcases List.mem_append.1 hc with hc | hc
       ·exact sds_fr h8 3 rfl c hc
       ·simp only [List.mem_singleton] at hc
        subst hc;exact ⟨h8.redFr 0 rfl,HQ2.out,HQ3.out⟩)
      have g2:=((g1.dropAt 1 (by simp)).dropAt 3 (by simp)).rot'
      simpa [List.length_append,List.flatMap_append,sdC] using g2
     have HF:=zq (HW.out _ (.slice (some ⟨g6,0,none⟩) (v.os++[(⟨k,.slice b5 eb.length k5,eb⟩:Sd)]).length cap6) (v.os++[(⟨k,.slice b5 eb.length k5,eb⟩:Sd)]) _ ⟨_,_,rfl⟩ h9);have HG:Hid (({({s with out:=s.out++(zas k s.id).map fun k=>(k,eb)}:Ns) with out:=(v.os++[(⟨k,.slice b5 eb.length k5,eb⟩:Sd)]).map Sd.p}:Ns)= {s with out:=s.out++(zas (k+1) s.id).map fun k=>(k,eb)}):=zq (by
      rw [HE.out,List.map_append,List.map_append,HVS.out];simp [Sd.p])
     clear h6 h7 h8 h9 HX HN5
     go_wp2_with fail
     refine ⟨⟨⟨f34,trivial⟩,trivial⟩,?_⟩
     go_wp2_with fail
     refine ⟨trivial,by rfl,⟨⟨rfl,.inl ⟨by kernel_rfl,rfl⟩⟩,trivial⟩,?_⟩
     go_wp2_with fail
     go_roundw
     case rel=>exact ⟨k+1,by omega,by go_num,zq (by rw [←HG.out];exact HF.out)⟩
     case measure=>simp [intOf];omega
   ·have hkI:decide ((k:Int)<3*(s.c.f:Int)+1)=false:=by simp;omega
    have hke:k=3*s.c.f+1:=by omega
    subst hke;have h9:NdIs B w0 wr x {s with out:=s.out++(zas (3*s.c.f+1) s.id).map fun k=>(k,eb)} l2 (mmR ⟨kind,s.id,view,inst,seq,res,.slice a1 rs.length c1,rs,.slice a2 vs.length c2,vs,.slice a3 cts.length c3,cts,.slice a4 pts.length c4,pts⟩ (bysR (.slice eo eb.length ek) eb::blk W.heap.size (mmO ⟨kind,s.id,view,inst,seq,res,.slice a1 rs.length c1,rs,.slice a2 vs.length c2,vs,.slice a3 cts.length c3,cts,.slice a4 pts.length c4,pts⟩)::ss)):=H1.out.perm ((List.perm_append_comm (l₁:=[_]) (l₂:=[_,_,_,_,_,_])).append_right _);have HC:=zq (zvc h9 HMO.out HQ.out rfl (by have:=HLN.out;omega));obtain ⟨r9,hs9,-⟩:=h9.side;have hb9:=hs9.blkAt 7 rfl;have y0:=zaa hb9 0 rfl;have y1:=zaa hb9 1 rfl;have y2:=zaa hb9 2 rfl;have y3:=zaa hb9 3 rfl;have y4:=zaa hb9 4 rfl;have y5:=zaa hb9 5 rfl;have y6:=zaa hb9 6 rfl;have y7:=zaa hb9 7 rfl;have y8:=zaa hb9 8 rfl;have y9:=zaa hb9 9 rfl;clear hb9;clear h9 hs9 H1
    go_wp2_with fail
    refine (hnodes.out _).mono ?_;rintro e w' ⟨rfl,rfl⟩
    go_wp2_with fail
    refine HC.out.mono ?_;rintro e w7 ⟨rfl,h7⟩;have HF:=zq (HFIN.1.out w7 (by
     have h8:=(h7.perm ((List.perm_append_comm (l₁:=[_,_,_,_,_,_]) (l₂:=[_,_])).append_right ss)).drop.drop;show NdIs B w0 w7 x _ l2 _;have e2:sealL l2 s.id b=l2:=by rw [show l2=sealL l s.id b from HQ4.out,zv6]
     rw [←e2];exact h8))
    have HV:Hid (sealN l2 s.id b=sealN l s.id b):=zq (by rw [show l2=sealL l s.id b from HQ4.out,zin]);clear h7 HC
    go_wp2_with fail
    go_ret2
    rw [HV.out];exact ⟨rfl,HFIN.2.out _ HF.out⟩
end
def zeq (l:List (Int×Int)) (k:Nat):List (Int×Int):=(l.take k).map (fun _=>(0,0))++l.drop k
theorem zfq (l:List (Int×Int)) (k:Nat):(zeq l k).length=l.length:=by simp [zeq];omega
theorem zp2 (l:List (Int×Int)) (k:Nat) (hk:k<l.length):zeq l (k+1)=(zeq l k).set k (0,0):=by
 refine List.ext_getElem (by simp [zfq]) (fun j h1 h2=> ?_);rw [zfq] at h1;have e: ∀k j (h:j<l.length),(zeq l k)[j]'(by rw [zfq];exact h)=if j<k then (0,0) else l[j]:=by
  intro k j h;unfold zeq;by_cases hjk:j<k
  ·rw [if_pos hjk,List.getElem_append_left (by simp;omega)];simp
  ·rw [if_neg hjk,List.getElem_append_right (by simp;omega)]
   simp only [List.length_map,List.length_take,List.getElem_drop];congr 1;omega
 rw [e (k+1) j h1,List.getElem_set];by_cases hkj:k=j
 ·subst hkj;simp
 ·rw [if_neg hkj,e k j h1]
  by_cases hjk:j<k
  ·rw [if_pos hjk,if_pos (by omega)]
  ·rw [if_neg hjk,if_neg (by omega)]
theorem mtC_len (l:List (Int×Int)):(mtC l).length=l.length:=by simp [mtC]
theorem zzw:mtV (0,0)= .complex .f64 0 0:=by unfold mtV;simp only [zxb]
section
variable {B:Nat} {w0 w W W':World} {ss rs:List Res} {x:Np} {s s':Ns} {l l':Nt} {m g cap:Nat} {z:List (Int×Int)}
theorem zrm (hcap:z.length≤cap) (hz:z.length≤100) (h:Own B w0 W (mtL m g z.length cap z++ss)):Calls Tryz.prog 96 #[ptrV m] W fun e w'=>e= .returned (.tuple #[])∧Own B w0 w' (mtL m g z.length cap (z.map fun _=>(0,0))++ss):=by
 have H:Hid (Own B w0 W (mtL m g z.length cap (zeq z 0)++ss)):=zq (by simpa [zeq] using h);have c0:=zaa (h.blkAt 0 rfl) 0 rfl;clear h;go_enter Tryz.func96,Tryz.ntmps96
 go_wp2_with fail
 go_loopw [8] (fun i wr=> ∃k:Nat,k≤z.length∧i= .int .i64 k∧Hid (Own B w0 wr (mtL m g z.length cap (zeq z k)++ss))) (fun i _=>z.length-(intOf i).toNat)
 case atStart=>exact ⟨0,by omega,rfl,H⟩
 case round=>
  clear H c0;obtain ⟨k,hk,rfl,H⟩:=hrel;have c0:=zaa (H.out.blkAt 0 rfl) 0 rfl;by_cases hlt:k<z.length
  ·have hkI:(k:Int)<(z.length:Int):=by omega
   have hcI:(z.length:Int)≤(cap:Int):=by omega
   have hk0:(0:Int)≤(k:Int):=by omega
   have hlen:k<(mtC (zeq z k)).length:=by rw [mtC_len,zfq];exact hlt
   obtain ⟨hcell,f0⟩:=zdz H.out 1 rfl k (v:=(mtC (zeq z k))[k]) (by simp [hlen]);have H2:Hid (Own B w0 (wr.setCell ⟨g,k,none⟩ (.complex .f64 0 0)) (mtL m g z.length cap (zeq z (k+1))++ss)):=zq (by
    have:=(H.out.putAt 1 rfl k (.complex .f64 0 0));rw [zp2 z k hlt];show Own B w0 _ (blk m (mtB g z.length cap)::segR g 269 (mtC ((zeq z k).set k (0,0)))::ss);rw [show mtC ((zeq z k).set k (0,0))=(mtC (zeq z k)).set k (.complex .f64 0 0) from by unfold mtC;rw [List.map_set,zzw]];exact this)
   have hst:(store ⟨g,k,none⟩ (.complex .f64 0 0)).run Tryz.prog wr= .ok () (wr.setCell ⟨g,k,none⟩ (.complex .f64 0 0)):=by
    rw [run_store _ _ _ _ _ rfl];simp [stored,hcell,f0]
   clear hcell f0
   go_wp2_with fail
   go_roundw
   case rel=>exact ⟨k+1,by omega,by go_num,H2⟩
   case measure=>simp [intOf];omega
  ·have hkI:decide ((k:Int)<(z.length:Int))=false:=by simp;omega
   have e:zeq z k=z.map fun _=>(0,0):=by
    unfold zeq;rw [List.take_of_length_le (by omega),List.drop_eq_nil_of_le (by omega),List.append_nil]
   rw [e] at H
   go_wp2_with fail
   refine bodyPost_end (results_none rfl _ _ _) rfl ?_;exact ⟨rfl,H.out⟩
theorem zzy (h:NdIs B w0 W x s l ss):Calls Tryz.prog 96 #[ptrV x.mt] W fun e w'=>e= .returned (.tuple #[])∧NdIs B w0 w' x (zv1 s) l ss:=by
 have hok:=h.ok;have hf:=hok.c.f2;have hl:=hok.mt;obtain ⟨v,rr,c,d,g⟩:=h.lens 6 (by omega) (by omega);refine (zrm (by have:=c.mtk;omega) (by omega) (Own.open d)).mono ?_;rintro e w' ⟨he,ho⟩;refine ⟨he,g _ (zv1 s) v ss (joinR (mtL x.mt x.mg (s.mt.map fun _=>((0:Int),(0:Int))).length x.mtk (s.mt.map fun _=>(0,0)))) {hok with mt:=by simpa [zv1] using hok.mt,mtn:= ?_} {c with} rfl (Own.shut (rs:=[_,_]) ?_)⟩
 ·intro k h1 h2
  simp only [zv1,List.getElem_map];omega
 ·rw [List.length_map];exact ho
end
theorem set_self {α:Type} (l:List α) (k:Nat) (h:k<l.length):l.set k l[k]=l:=by
 refine List.ext_getElem (by simp) (fun j h1 h2=> ?_);rw [List.getElem_set];split
 ·rename_i e;subst e;rfl
 ·rfl
section
variable {B:Nat} {w0 w W W':World} {ss rs:List Res} {x:Np} {s s':Ns} {l l':Nt}
theorem NdIs.ask (h:NdIs B w0 W x s l ss) (k:Nat) (hk:k<s.ins.length): ∃i rr,x.is[k]?=some i∧AtI B w0 W i s.ins[k] (ss++rr)∧ ∀W' ss',AtI B w0 W' i s.ins[k] (ss'++rr)→NdIs B w0 W' x s l ss':=by
 obtain ⟨i,rr,h1,h2,h3⟩:=h.inst k hk;refine ⟨i,rr,h1,h2,fun W' ss' ha=> ?_⟩;have:=h3 W' s.ins[k] ss' (InKeep.refl _) ha;rw [set_self] at this;exact this
theorem NdIs.onSide {ss':List Res} (h:NdIs B w0 W x s l ss) (f: ∀r,Own B w0 W (ss++[r])→Own B w0 W (ss'++[r])):NdIs B w0 W x s l ss':=by
 obtain ⟨r,h1,h2⟩:=h.side;exact h2 W ss' (f r h1)
theorem ai_len {i:Nat} {st:In} (h:AtI B w0 W i st ss):st.l.length=16:=by
 obtain ⟨y,rfl,rfl,h3⟩:=h;simp [Ins.st,(own_ok h3).n]
theorem zt3 {st:In} (h:st.l.length=16):(ziy st).length≤16:=by
 unfold ziy;rw [List.length_map];exact Nat.le_trans (List.length_filter_le _ _) (by omega)
theorem ct_one {c:Ct} {D:List Nat} (h:CtIn W c D): ∀u∈zag c,u.oneCell'=true:=by
 obtain ⟨⟨⟨a1,k1,e1,-⟩,-⟩,-,⟨⟨a2,k2,e2,-⟩,-⟩,-⟩:=h;exact zfu e1 e2
theorem cts_one {l:List Ct} {D:List Nat} (h: ∀c∈l,CtIn W c D): ∀u∈l.flatMap zag,u.oneCell'=true:=by
 intro u hu;simp only [List.mem_flatMap] at hu;obtain ⟨c,hc,hu⟩:=hu;exact ct_one (h c hc) u hu
theorem zrp (h:NdIs B w0 W x s l ss):Calls Tryz.prog 38 #[ptrV x.p] W fun e w'=> ∃(u:Value) (cts:List Ct),e= .returned u∧cts.map Ct.cp=za9 s∧cts.length≤80∧NdIs B w0 w' x s l (redR u 5 cts.length (cts.flatMap zag)::ctsR cts::ss):=by
 obtain ⟨i0,hi,hz0,hz1,hz2⟩:=info_parts Tryz.infoCert;have hf2:=h.ok.c.f2;have c18:=h.cell 18 rfl (by decide);have hcap:=h.caps.1;have hins:=h.ok.ins;have H0:Hid (NdIs B w0 W x s l (ownR 42 5 (.slice none 0 0) 0 []::ctsR []::ss)):=zq (h.onSide (fun r hr=>(hr.mkCts (l:=[]) (by simp)).row0));clear h;go_enter Tryz.func38,Tryz.ntmps38
 go_wp2_with fail
 go_loopw [3,11] (fun out n wr=> ∃(k:Nat) (acc:List Ct) (ao:Option Addr) (cp:Nat),k≤s.c.f+1∧n= .int .i64 k∧out= .slice ao acc.length cp∧Hid (acc.map Ct.cp=(s.ins.take k).flatMap ziy)∧Hid (acc.length≤16*k)∧
  Hid (NdIs B w0 wr x s l (ownR 42 5 (.slice ao acc.length cp) acc.length (acc.flatMap zag)::ctsR acc::ss))) (fun _ n _=>s.c.f+1-(intOf n).toNat)
 case atStart=>exact ⟨0,[],none,0,by omega,rfl,rfl,zq rfl,zq (by simp),H0⟩
 case round=>
  clear H0 c18;obtain ⟨k,acc,ao,cp,hk,rfl,rfl,HM,HLE,H1⟩:=hrel;by_cases hlt:k<s.c.f+1
  ·have hkI:(k:Int)<(s.c.f:Int)+1:=by omega
   have hk0:(0:Int)≤(k:Int):=by omega
   have hcI:(s.c.f:Int)+1≤(x.ic:Int):=by omega
   have hki:k<s.ins.length:=by omega
   obtain ⟨i,rr,hi',ha,hb⟩:=H1.out.ask k hki;have ci:=H1.out.instAt k hi';have HC:=zq (zyb ha);have HL:=zq (zt3 (ai_len ha));have HB:=zq hb;clear ha hb
   go_wp2_with fail
   refine HC.out.mono ?_;rintro e w2 ⟨u,cts,rfl,hcp,h2⟩;have h3:NdIs B w0 w2 x s l (ownR 42 5 u cts.length (cts.flatMap zag)::ctsR cts::ownR 42 5 (.slice ao acc.length cp) acc.length (acc.flatMap zag)::ctsR acc::ss):=HB.out w2 _ h2;obtain ⟨r,hs,hback⟩:=h3.side;have HS:=zq hs;have HK:=zq hback;have HR:=zq (owns_reads (zam (hs.get 0 rfl)));have HON:=zq (cts_one (zkd hs 1 rfl));have HCL:Hid (cts.length≤16):=zq (by have:=HL.out;rw [←hcp,List.length_map] at this;exact this);have HCP:=zq hcp;have HLN:Hid (acc.length+cts.length≤100):=zq (by have:=HLE.out;have:=HCL.out;omega);clear h2 h3 hs hback HC HB HL hcp
   go_wp2_with (at_builtin;refine zbx rfl (.tmp 15) (.tmp 17) 44 rfl 42 i0 (.agg #[.int .i64 0,.int .i64 0,.int .i64 0,.slice none 0 0,.slice none 0 0]) 5 72 Tryz.underlying44 hi hz0 hz1 hz2 rfl (by decide) HS.out 2 (.slice ao acc.length cp) acc.length (acc.flatMap zag) rfl rfl _ cts.length (cts.flatMap zag) rfl HR.out HON.out (by have:=HLN.out;unfold maxLen;omega) (by have:=HLN.out;omega) ?_)
   intro ao' cap' w3 h4;have h4':Own B w0 w3 (ownR 42 5 u cts.length (cts.flatMap zag)::ctsR cts::ownR 42 5 (.slice ao' (acc.length+cts.length) cap') (acc.length+cts.length) (acc.flatMap zag++cts.flatMap zag)::ctsR acc::(ss++[r])):=h4;have g1:Own B w0 w3 (ctsR (acc++cts)::_):=h4'.mkCts (fun c hc=>(List.mem_append.1 hc).elim (zkd h4' 3 rfl c) (zkd h4' 1 rfl c));have g2:=(((g1.dropAt 1 (by simp)).dropAt 1 (by simp)).dropAt 2 (by simp)).swap;have HF:Hid (NdIs B w0 w3 x s l (ownR 42 5 (.slice ao' (acc++cts).length cap') (acc++cts).length ((acc++cts).flatMap zag)::ctsR (acc++cts)::ss)):=zq (HK.out w3 _ (by rw [List.length_append,List.flatMap_append];exact g2));have HM2:Hid ((acc++cts).map Ct.cp=(s.ins.take (k+1)).flatMap ziy):=zq (by rw [List.map_append,HM.out,HCP.out,List.take_succ_eq_append_getElem hki,List.flatMap_append];simp);have HLE2:Hid ((acc++cts).length≤16*(k+1)):=zq (by rw [List.length_append];have:=HLE.out;have:=HCL.out;omega);clear h4 h4' g1 g2 HS HK HR HON
   go_wp2_with fail
   go_roundw
   case rel=>exact ⟨k+1,acc++cts,ao',cap',by omega,by go_num,by simp,HM2,HLE2,HF⟩
   case measure=>simp [intOf];omega
  ·have hkI:decide ((k:Int)<(s.c.f:Int)+1)=false:=by simp;omega
   have e:s.ins.take k=s.ins:=List.take_of_length_le (by omega);rw [e] at HM;have HF:Hid (NdIs B w0 wr x s l (redR (.slice ao acc.length cp) 5 acc.length (acc.flatMap zag)::ctsR acc::ss)):=zq (H1.out.onSide (fun r hr=>Own.toRed hr))
   go_wp2_with fail
   go_ret
   exact ⟨_,acc,rfl,HM.out,by have:=HLE.out;omega,HF.out⟩
end
section
variable {B:Nat} {w0 w W W':World} {ss rs:List Res} {x:Np} {s s':Ns} {l l':Nt}
abbrev vcMm (id view:Int) (vv:Value) (vs:Vs) (u:Value) (cts:List Ct):Mm:=⟨7,id,view,0,0,0,.slice none 0 0,[],vv,vs,u,cts,.slice none 0 0,[]⟩
theorem zbz (sz:Nat) (h:Own B w0 W rs):Own B w0 W (redR (.slice none 0 0) sz 0 []::rs):=h.mkRed (.nil _ _ _)
theorem zxs {id view:Int} {vv u:Value} {vs:Vs} {cts:List Ct} (h:Own B w0 W (redR u 5 cts.length (cts.flatMap zag)::ctsR cts::redR vv 2 vs.length (zaf vs)::rs)):Own B w0 W (mmR (vcMm id view vv vs u cts) rs):=by
 have h1:Own B w0 W (redR u 5 cts.length (cts.flatMap zag)::ctsR cts::redR vv 2 vs.length (zaf vs)::redR (.slice none 0 0) 6 0 []::rs):=(zbz 6 h).back 3 (by simp) rfl;have h2:Own B w0 W (ptsR []::_):=h1.mkPts (by simp);exact zbz 4 h2
theorem zpi {vv:Value} {vs:Vs} (h:NdIs B w0 W x s l (redR vv 2 vs.length (zaf vs)::ss)):
  Calls Tryz.prog 227 #[ptrV x.p,vv] W fun e w'=> ∃(u:Value) (cts:List Ct),e= .returned (.agg (mmA (vcMm s.id s.view vv vs u cts)))∧cts.map Ct.cp=za9 s∧cts.length≤80∧NdIs B w0 w' x s l (mmR (vcMm s.id s.view vv vs u cts) ss):=by
 obtain ⟨r,hs,-⟩:=h.side;obtain ⟨a1,c1,rfl⟩: ∃a c,vv= .slice a vs.length c:=let ⟨a,c,e,_⟩:=zad (k:=0) hs rfl;⟨a,c,e⟩;have hx:=h.box (.cells #[.int .i64 0,.int .i64 0,.int .i64 0,.int .i64 0,.int .i64 0,.int .i64 0,.slice none 0 0,.slice none 0 0,.slice none 0 0,.slice none 0 0] 47 (0,0));have H:=zq hx.drew;have HC:=zq (zrp hx.drew);have c15:=hx.drew.cell 15 rfl (by decide);have c29:=hx.drew.cell 29 rfl (by decide);clear h hs hx;go_enter Tryz.func227,Tryz.ntmps227
 go_wp2_with fail
 refine Held.wp_held [(x.p,15,[.int .i64 s.id]),(x.p,29,[.int .i64 s.view])] [(3,0),(7,1)] [12] [(11,true)] (by kernel_rfl) (by kernel_rfl) ⟨⟨c15,trivial⟩,⟨c29,trivial⟩,trivial⟩ ?_;simp only [Held.cutAt,Held.walk,List.take_succ_cons,List.take_zero,List.drop_succ_cons,List.drop_zero]
 go_wp2_with fail
 refine HC.out.mono ?_;rintro e w1 ⟨u,cts,rfl,hcp,hlen,h1⟩;have H1:=zq h1;have HCP:=zq hcp;have d15:=h1.cell 15 rfl (by decide);have d29:=h1.cell 29 rfl (by decide);obtain ⟨r1,hs1,hk1⟩:=h1.side;have hb:=hs1.blkAt 2 rfl;obtain ⟨a2,c2,rfl⟩: ∃a c,u= .slice a cts.length c:=let ⟨a,c,e,_⟩:=zad (k:=0) hs1 rfl;⟨a,c,e⟩;have x0:=zaa hb 0 rfl;have x1:=zaa hb 1 rfl;have x2:=zaa hb 2 rfl;have x3:=zaa hb 3 rfl;have x4:=zaa hb 4 rfl;have x5:=zaa hb 5 rfl;have x6:=zaa hb 6 rfl;have x7:=zaa hb 7 rfl;have x8:=zaa hb 8 rfl;have x9:=zaa hb 9 rfl;have z:=zab hb;have HG:=zq (zcz (hs1.front 2 rfl rfl) (v0:= .int .i64 7) (v1:= .int .i64 s.id) (v2:= .int .i64 s.view) (v3:= .int .i64 0) (v4:= .int .i64 0) (v5:= .int .i64 0) (v6:= .slice none 0 0) (v7:= .slice a1 vs.length c1) (v8:= .slice a2 cts.length c2) (v9:= .slice none 0 0));have HF:Hid (NdIs B w0 _ x s l (redR (.slice a2 cts.length c2) 5 cts.length (cts.flatMap zag)::ctsR cts::redR (.slice a1 vs.length c1) 2 vs.length (zaf vs)::ss)):=zq ((hk1 _ (blk W.heap.size _::redR (.slice a2 cts.length c2) 5 cts.length (cts.flatMap zag)::ctsR cts::redR (.slice a1 vs.length c1) 2 vs.length (zaf vs)::ss) HG.out).drop);clear h1 hcp HC H hk1 hs1 hb
 go_wp2_with fail
 refine ⟨⟨⟨d15,trivial⟩,⟨d29,trivial⟩,trivial⟩,?_⟩
 go_wp2_with fail
 generalize World.setCell (World.setCell (World.setCell (World.setCell (World.setCell (World.setCell (World.setCell (World.setCell (World.setCell (World.setCell w1 _ _) _ _) _ _) _ _) _ _) _ _) _ _) _ _) _ _) _ _=w3 at*;have u0:=zaa (HG.out.blkAt 0 rfl) 0 rfl;have u1:=zaa (HG.out.blkAt 0 rfl) 1 rfl;have u2:=zaa (HG.out.blkAt 0 rfl) 2 rfl;have u3:=zaa (HG.out.blkAt 0 rfl) 3 rfl;have u4:=zaa (HG.out.blkAt 0 rfl) 4 rfl;have u5:=zaa (HG.out.blkAt 0 rfl) 5 rfl;have u6:=zaa (HG.out.blkAt 0 rfl) 6 rfl;have u7:=zaa (HG.out.blkAt 0 rfl) 7 rfl;have u8:=zaa (HG.out.blkAt 0 rfl) 8 rfl;have u9:=zaa (HG.out.blkAt 0 rfl) 9 rfl;refine ⟨trivial,by rfl,⟨⟨rfl,.inl ⟨by kernel_rfl,rfl⟩⟩,⟨rfl,.inl ⟨by kernel_rfl,rfl⟩⟩,trivial⟩,?_⟩
 go_wp2_with fail
 refine bodyPost_ret (v:= .agg #[.int .i64 7,.int .i64 s.id,.int .i64 s.view,.int .i64 0,.int .i64 0,.int .i64 0,.slice none 0 0,.slice a1 vs.length c1,.slice a2 cts.length c2,.slice none 0 0]) (by simp [results,Tryz.results227,go_sem,u0,u1,u2,u3,u4,u5,u6,u7,u8,u9]) rfl ?_;exact ⟨_,cts,rfl,HCP.out,hlen,HF.out.onSide (fun r hr=>zxs hr)⟩
end
theorem Tryz.infoPt2:(Tryz.prog.info? 49).map (fun i=>(i.zero,i.size,i.bytes))=some (some (.agg #[.int .i64 0,.slice none 0 0,.slice none 0 0,.int .i64 0]),4,64):=by kernel_rfl
def lowQ (s:Ns) (q:Int×Pa):Bool:=decide (0<s.view)&&decide (q.1=s.view)
def lowTo (s:Ns) (k:Nat):List Pa:=(((s.pts.take k).filter (lowQ s)).map Prod.snd).take (2*s.c.f+1)
theorem zu0 (s:Ns) {k:Nat} (h:s.pts.length≤k):lowTo s k=lowP s:=by unfold lowTo lowP;rw [List.take_of_length_le h];rfl
theorem zwi {α:Type} (l:List α) (x:α) (n:Nat):(l++[x]).take n=if (l.take n).length<n then l.take n++[x] else l.take n:=by
 by_cases h:l.length<n
 ·rw [List.take_of_length_le (by simp;omega),List.take_of_length_le (by omega:l.length≤n),if_pos h]
 ·rw [List.take_append_of_le_length (by omega),if_neg (by simp;omega)]
theorem zrg (s:Ns) (k:Nat) (hk:k<s.pts.length):lowTo s (k+1)=if lowQ s s.pts[k]=true∧(lowTo s k).length<2*s.c.f+1 then lowTo s k++[s.pts[k].2] else lowTo s k:=by
 unfold lowTo;rw [List.take_succ_eq_append_getElem hk,List.filter_append,List.map_append];by_cases h:lowQ s s.pts[k]=true
 ·rw [show List.filter (lowQ s) [s.pts[k]]=[s.pts[k]] from by simp [h]]
  simp only [List.map_cons,List.map_nil];rw [zwi];simp only [h,true_and]
 ·rw [show List.filter (lowQ s) [s.pts[k]]=[] from by simp [h]]
  simp [h]
theorem zu1 (s:Ns) (k:Nat):(lowTo s k).length≤2*s.c.f+1:=by unfold lowTo;simp;omega
section
variable {B:Nat} {w0 w W W':World} {ss rs:List Res} {x:Np} {s s':Ns} {l l':Nt}
theorem zpg (h:NdIs B w0 W x s l ss):Calls Tryz.prog 258 #[ptrV x.p] W fun e w'=> ∃(u:Value) (pts:List Pt),e= .returned (.tuple #[u,.bool (decide ((lowP s).length=2*s.c.f+1))])∧pts.map Pt.pa=lowP s∧NdIs B w0 w' x s l (redR u 4 pts.length (pts.flatMap zaj)::ptsR pts::ss):=by
 obtain ⟨i0,hi,hz0,hz1,hz2⟩:=info_parts Tryz.infoPt2;have hf1:=h.ok.c.f1;have hf2:=h.ok.c.f2;have c24:=h.cell 24 rfl (by decide);have hcap:=h.caps.2.1;have hpl:=h.ok.pts;have HQ:=zq (fun w=>zej (s.c.f:Int) w (by omega) (by omega));have H0:Hid (NdIs B w0 W x s l (ownR 49 4 (.slice none 0 0) 0 []::ptsR []::ss)):=zq (h.onSide (fun r hr=>(hr.mkPts (l:=[]) (by simp)).row0));clear h;go_enter Tryz.func258,Tryz.ntmps258
 go_wp2_with fail
 go_loopw [4,12] (fun out n wr=> ∃(k:Nat) (acc:List Pt) (ao:Option Addr) (cp:Nat),k≤3*s.c.f+1∧n= .int .i64 k∧out= .slice ao acc.length cp∧Hid (acc.map Pt.pa=lowTo s k)∧Hid (acc.length≤9)∧
  Hid (NdIs B w0 wr x s l (ownR 49 4 (.slice ao acc.length cp) acc.length (acc.flatMap zaj)::ptsR acc::ss))) (fun _ n _=>3*s.c.f+1-(intOf n).toNat)
 case atStart=>exact ⟨0,[],none,0,by omega,rfl,rfl,zq (by simp [lowTo]),zq (by simp),H0⟩
 case round=>
  clear H0 c24;obtain ⟨k,acc,ao,cp,hk,rfl,rfl,HM,HLE,H1⟩:=hrel;have d0:=H1.out.cell 0 rfl (by decide);have d29:=H1.out.cell 29 rfl (by decide);by_cases hlt:k<3*s.c.f+1
  ·have hkI:(k:Int)<3*(s.c.f:Int)+1:=by omega
   have hk0:(0:Int)≤(k:Int):=by omega
   have hcI:3*(s.c.f:Int)+1≤(x.pk:Int):=by omega
   have hkp:k<s.pts.length:=by omega
   obtain ⟨⟨qv,qfm,vv,qvs,cv,qcts,qsl⟩,hq,hcell,-,hn1,hn2,h2⟩:=H1.out.part k hkp;obtain ⟨r,hs,hback⟩:=h2.side;obtain ⟨a1,c1,rfl⟩: ∃a c,vv= .slice a qvs.length c:=let ⟨a,c,e,_⟩:=zad (k:=0) hs rfl;⟨a,c,e⟩;obtain ⟨a2,c2,rfl⟩: ∃a c,cv= .slice a qcts.length c:=let ⟨a,c,e,_⟩:=zad (k:=1) hs rfl;⟨a,c,e⟩;have q0:=hcell 0 (by omega);have q1:=hcell 1 (by omega);have q2:=hcell 2 (by omega);have q3:=hcell 3 (by omega);have q4:=hcell 4 (by omega);simp only [pqC,zaj,Nat.add_zero,List.getElem?_cons_zero,List.getElem?_cons_succ] at q0 q1 q2 q3 q4;have HS:=zq (zrg s k hkp);rw [←hq] at HS;have HMA:=zq (zu1 s (k+1));have HLEN:Hid ((lowTo s k).length=acc.length):=zq (by rw [←HM.out,List.length_map]);have H2:=zq (h2.box (.cells #[.int .i64 qv,.int .i64 qfm,.slice a1 qvs.length c1,.slice a2 qcts.length c2,.int .i64 qsl] 260 (0,0)));clear hcell hq hback h2 H1;have H2':Hid (NdIs B w0 (wr.alloc (.cells #[.int .i64 qv,.int .i64 qfm,.slice a1 qvs.length c1,.slice a2 qcts.length c2,.int .i64 qsl] 260 (0,0))) x s l (ownR 49 4 (.slice ao acc.length cp) acc.length (acc.flatMap zaj)::ptsR acc::ss)):=zq H2.out.drop.drop.drop.drop;have e0:=H2'.out.cell 0 rfl (by decide);have e29:=H2'.out.cell 29 rfl (by decide);have hbk:=heap_alloc_new wr (.cells #[.int .i64 qv,.int .i64 qfm,.slice a1 qvs.length c1,.slice a2 qcts.length c2,.int .i64 qsl] 260 (0,0));have t0:=zaa hbk 0 rfl;clear hbk d0 d29;cases b1:decide (0<s.view) with
   | false=>
    have HM2:Hid (acc.map Pt.pa=lowTo s (k+1)):=zq (by rw [HS.out,if_neg (by unfold lowQ;simp only [b1];simp)];exact HM.out);clear HM HS HMA hs H2
    go_wp2_with fail
    go_quiet ((go_at_call 213;exact zb7 (HQ.out _)))
    go_wp2_with fail
    go_roundw
    case rel=>exact ⟨k+1,acc,ao,cp,by omega,by go_num,rfl,HM2,HLE,zq (H2'.out.drewN _)⟩
    case measure=>simp [intOf];omega
   | true=>
    cases b2:(qv==s.view) with
    | false=>
     have hne: ¬qv=s.view:=by simpa using b2
     have HM2:Hid (acc.map Pt.pa=lowTo s (k+1)):=zq (by rw [HS.out,if_neg (by unfold lowQ;simp only [decide_eq_false hne];simp)];exact HM.out);clear HM HS HMA hs H2 hne
     go_wp2_with fail
     go_quiet ((go_at_call 213;exact zb7 (HQ.out _)))
     go_wp2_with fail
     go_roundw
     case rel=>exact ⟨k+1,acc,ao,cp,by omega,by go_num,rfl,HM2,HLE,zq (H2'.out.drewN _)⟩
     case measure=>simp [intOf];omega
    | true=>
     have heq:qv=s.view:=by simpa using b2
     have hlq:lowQ s (qv,Pt.pa ⟨qfm,.slice a1 qvs.length c1,qvs,.slice a2 qcts.length c2,qcts,qsl⟩)=true:=by unfold lowQ;simp only [b1,heq];simp
     by_cases b3:acc.length<2*s.c.f+1
     ·have b3I:(acc.length:Int)<2*(s.c.f:Int)+1:=by omega
      have HM2:Hid ((acc++[(⟨qfm,.slice a1 qvs.length c1,qvs,.slice a2 qcts.length c2,qcts,qsl⟩:Pt)]).map Pt.pa=lowTo s (k+1)):=zq (by rw [HS.out,if_pos ⟨hlq,by rw [HLEN.out];exact b3⟩,List.map_append,HM.out];rfl);obtain ⟨r5,hs5,hk5⟩:=H2.out.side;have HX:Hid (∀n,Own B w0 (((wr.alloc (.cells #[.int .i64 qv,.int .i64 qfm,.slice a1 qvs.length c1,.slice a2 qcts.length c2,.int .i64 qsl] 260 (0,0))).drewN n).alloc (.cells #[.int .i64 qfm,.slice a1 qvs.length c1,.slice a2 qcts.length c2,.int .i64 qsl] 49 (0,0))) (blk (wr.heap.size+1) (.cells #[.int .i64 qfm,.slice a1 qvs.length c1,.slice a2 qcts.length c2,.int .i64 qsl] 49 (0,0))::_)):=zq (fun n=>(hs5.upd0 ((Upd.refl _ _).drewN n)).boxAt _ (by simp));have HK:=zq hk5;have HB:Hid (∀n,(((wr.alloc (.cells #[.int .i64 qv,.int .i64 qfm,.slice a1 qvs.length c1,.slice a2 qcts.length c2,.int .i64 qsl] 260 (0,0))).drewN n).alloc (.cells #[.int .i64 qfm,.slice a1 qvs.length c1,.slice a2 qcts.length c2,.int .i64 qsl] 49 (0,0))).heap[wr.heap.size+1]?=some (.cells #[.int .i64 qfm,.slice a1 qvs.length c1,.slice a2 qcts.length c2,.int .i64 qsl] 49 (0,0))):=zq (fun n=>(HX.out n).blkAt 0 rfl);have hbk:=heap_alloc_new wr (.cells #[.int .i64 qv,.int .i64 qfm,.slice a1 qvs.length c1,.slice a2 qcts.length c2,.int .i64 qsl] 260 (0,0));have t1:=zaa hbk 1 rfl;have t2:=zaa hbk 2 rfl;have t3:=zaa hbk 3 rfl;have t4:=zaa hbk 4 rfl;have HA9:Hid (acc.length≤8):=zq (by omega);clear hbk hs5 hk5 H2 H2' HM HS HMA hs hlq heq b3 HLEN HLE
      go_wp2_with fail
      go_quiet ((go_at_call 213;exact zb7 (HQ.out _)))
      go_wp2_with (at_builtin;refine za7 rfl (.tmp 41) (.tmp 44) 45 rfl 49 i0 (.agg #[.int .i64 0,.slice none 0 0,.slice none 0 0,.int .i64 0]) 4 64 Tryz.underlying45 hi hz0 hz1 hz2 rfl (by decide) (HX.out _) 5 (.slice ao acc.length cp) acc.length (acc.flatMap zaj) rfl rfl (wr.heap.size+1) #[.int .i64 qfm,.slice a1 qvs.length c1,.slice a2 qcts.length c2,.int .i64 qsl] 49 (0,0) rfl (HB.out _) rfl (by simp [Value.oneCell']) (by have:=HA9.out;unfold maxLen;omega) (by have:=HA9.out;omega) ?_)
      intro g6 cap6 w6 h6;have h7:Own B w0 w6 (blk (wr.heap.size+1) (.cells #[.int .i64 qfm,.slice a1 qvs.length c1,.slice a2 qcts.length c2,.int .i64 qsl] 49 (0,0))::blk wr.heap.size (.cells #[.int .i64 qv,.int .i64 qfm,.slice a1 qvs.length c1,.slice a2 qcts.length c2,.int .i64 qsl] 260 (0,0))::redR (.slice a1 qvs.length c1) 2 qvs.length (zaf qvs)::redR (.slice a2 qcts.length c2) 5 qcts.length (qcts.flatMap zag)::ctsR qcts::ownR 49 4 (.slice (some ⟨g6,0,none⟩) (acc.length+1) cap6) (acc.length+1) (acc.flatMap zaj++[.int .i64 qfm,.slice a1 qvs.length c1,.slice a2 qcts.length c2,.int .i64 qsl])::ptsR acc::(ss++[r5])):=h6;have g1:Own B w0 w6 (ptsR (acc++[(⟨qfm,.slice a1 qvs.length c1,qvs,.slice a2 qcts.length c2,qcts,qsl⟩:Pt)])::_):=h7.mkPts (fun c hc=>by
       rcases List.mem_append.1 hc with hc | hc
       ·exact zpp h7 6 rfl c hc
       ·simp only [List.mem_singleton] at hc
        subst hc;exact ⟨h7.redFr 2 rfl,hn1,h7.redFr 3 rfl,hn2,zkd h7 4 rfl⟩)
      have g2:=((((((g1.dropAt 1 (by simp)).dropAt 1 (by simp)).dropAt 1 (by simp)).dropAt 1 (by simp)).dropAt 1 (by simp)).dropAt 2 (by simp)).swap;have HF:Hid (NdIs B w0 w6 x s l (ownR 49 4 (.slice (some ⟨g6,0,none⟩) (acc++[(⟨qfm,.slice a1 qvs.length c1,qvs,.slice a2 qcts.length c2,qcts,qsl⟩:Pt)]).length cap6) (acc++[(⟨qfm,.slice a1 qvs.length c1,qvs,.slice a2 qcts.length c2,qcts,qsl⟩:Pt)]).length ((acc++[(⟨qfm,.slice a1 qvs.length c1,qvs,.slice a2 qcts.length c2,qcts,qsl⟩:Pt)]).flatMap zaj)::ptsR (acc++[(⟨qfm,.slice a1 qvs.length c1,qvs,.slice a2 qcts.length c2,qcts,qsl⟩:Pt)])::ss)):=zq (HK.out w6 (ownR 49 4 (.slice (some ⟨g6,0,none⟩) (acc++[(⟨qfm,.slice a1 qvs.length c1,qvs,.slice a2 qcts.length c2,qcts,qsl⟩:Pt)]).length cap6) (acc++[(⟨qfm,.slice a1 qvs.length c1,qvs,.slice a2 qcts.length c2,qcts,qsl⟩:Pt)]).length ((acc++[(⟨qfm,.slice a1 qvs.length c1,qvs,.slice a2 qcts.length c2,qcts,qsl⟩:Pt)]).flatMap zaj)::ptsR (acc++[(⟨qfm,.slice a1 qvs.length c1,qvs,.slice a2 qcts.length c2,qcts,qsl⟩:Pt)])::ss) (by simpa [List.length_append,List.flatMap_append,zaj] using g2));clear h6 h7 g1 g2 HK HX HB t1 t2 t3 t4
      go_wp2_with fail
      go_roundw
      case rel=>exact ⟨k+1,acc++[(⟨qfm,.slice a1 qvs.length c1,qvs,.slice a2 qcts.length c2,qcts,qsl⟩:Pt)],some ⟨g6,0,none⟩,cap6,by omega,by go_num,by simp,HM2,zq (by rw [List.length_append];have:=HA9.out;simp;omega),HF⟩
      case measure=>simp [intOf];omega
     ·have b3I:decide ((acc.length:Int)<2*(s.c.f:Int)+1)=false:=by simp;omega
      have HM2:Hid (acc.map Pt.pa=lowTo s (k+1)):=zq (by rw [HS.out,if_neg (by rw [HLEN.out];omega)];exact HM.out);clear HM HS HMA hs H2 hlq heq b3
      go_wp2_with fail
      go_quiet ((go_at_call 213;exact zb7 (HQ.out _)))
      go_wp2_with fail
      go_roundw
      case rel=>exact ⟨k+1,acc,ao,cp,by omega,by go_num,rfl,HM2,HLE,zq (H2'.out.drewN _)⟩
      case measure=>simp [intOf];omega
  ·have hkI:decide ((k:Int)<3*(s.c.f:Int)+1)=false:=by simp;omega
   have HM2:Hid (acc.map Pt.pa=lowP s):=zq (by rw [HM.out,zu0 s (by omega)]);have HL2:Hid ((lowP s).length=acc.length):=zq (by rw [←HM2.out,List.length_map]);have HF:Hid (NdIs B w0 wr x s l (redR (.slice ao acc.length cp) 4 acc.length (acc.flatMap zaj)::ptsR acc::ss)):=zq (H1.out.onSide (fun r hr=>Own.toRed hr));have hb:Hid (((acc.length:Int)==2*(s.c.f:Int)+1)=decide ((lowP s).length=2*s.c.f+1)):=zq (by
    rw [HL2.out];by_cases e:acc.length=2*s.c.f+1
    ·rw [decide_eq_true e,beq_iff_eq.2 (by omega)]
    ·rw [decide_eq_false e,beq_eq_false_iff_ne.2 (by omega)])
   clear H1 HM
   go_wp2_with fail
   refine (HQ.out _).mono ?_;rintro e w' ⟨rfl,rfl⟩
   go_wp2_with fail
   go_ret2
   rw [←hb.out];exact ⟨_,acc,rfl,HM2.out,HF.out⟩
end
section
variable {B:Nat} {w0 w W W':World} {ss rs:List Res} {x:Np} {s s':Ns} {l l':Nt}
theorem znu (k:Int) (h:NdIs B w0 W x s l ss):Calls Tryz.prog 155 #[ptrV x.p,.int .i64 k] W fun e w'=>e= .returned (.bool (decide (zan s.c.f s.view k=s.id)))∧ ∃n,w'=W.drewN n:=by
 have HP:=zq (fun w=>zsl s.c.f s.view k w h.ok.c.f1 h.ok.c.f2);have c0:=h.cell 0 rfl (by decide);have c15:=h.cell 15 rfl (by decide);have c29:=h.cell 29 rfl (by decide);have he:decide (zan s.c.f s.view k=s.id)=(zan s.c.f s.view k==s.id):=rfl;rw [he];clear h he;go_enter Tryz.func155,Tryz.ntmps155
 go_wp2_with fail
 go_quiet ((go_at_call 142;exact zb7 (HP.out _)))
 go_wp2_with fail
 go_ret
 exact ⟨rfl,_,rfl⟩
theorem zbu (s:Ns) (k:Nat) (hk:k<s.ins.length):insAt s k=s.ins[k]:=by unfold insAt;simp [List.getD,hk]
theorem zco (h:NdIs B w0 W x s l ss) (k:Nat) (hk:k<s.c.f+1) {i:Nat} (hi:x.is[k]?=some i):Calls Tryz.prog 73 #[ptrV i] W fun e w'=>e= .returned (.bool (insAt s k).on)∧W=w':=by
 have hk':k<s.ins.length:=by rw [h.ok.ins];exact hk
 obtain ⟨j,rr,hj,ha,-⟩:=h.ask k hk';rw [hi] at hj;cases hj
 rw [zbu s k hk'];exact zll ha
theorem zro (h:NdIs B w0 W x s l ss) (hl:(lowP s).length≠2*s.c.f+1):Calls Tryz.prog 228 #[ptrV x.p] W fun e w'=>e= .returned (.tuple #[])∧NdIs B w0 w' x s l ss:=by
 have hf2:=h.ok.c.f2;have c18:=h.cell 18 rfl (by decide);have hcap:=h.caps.1;have hD:Hid (decide ((lowP s).length=2*s.c.f+1)=false):=zq (by simp [hl]);have H0:=zq h;clear h hl;go_enter Tryz.func228,Tryz.ntmps228
 go_wp2_with fail
 go_loopw [12] (fun n wr=> ∃k:Nat,k≤s.c.f+1∧n= .int .i64 k∧Hid (NdIs B w0 wr x s l ss)) (fun n _=>s.c.f+1-(intOf n).toNat)
 case atStart=>exact ⟨0,by omega,rfl,H0⟩
 case round=>
  clear H0 c18;obtain ⟨k,hk,rfl,H1⟩:=hrel;by_cases hlt:k<s.c.f+1
  ·have hkI:(k:Int)<(s.c.f:Int)+1:=by omega
   have hk0:(0:Int)≤(k:Int):=by omega
   have hcI:(s.c.f:Int)+1≤(x.ic:Int):=by omega
   obtain ⟨i,hi,ci⟩:=H1.out.iAt hlt;have HI:=zq (zco H1.out k hlt hi);have HP:=zq (znu (k:Int) H1.out);cases b1:(insAt s k).on with
   | true=>
    rw [b1] at HI;clear HP b1
    go_wp2_with fail
    refine HI.out.mono ?_;rintro e w' ⟨rfl,rfl⟩
    go_wp2_with fail
    go_roundw
    case rel=>exact ⟨k+1,by omega,by go_num,H1⟩
    case measure=>simp [intOf];omega
   | false=>
    rw [b1] at HI;clear b1;cases b2:decide (zan s.c.f s.view k=s.id) with
    | false=>
     rw [b2] at HP;clear b2
     go_wp2_with fail
     refine HI.out.mono ?_;rintro e w' ⟨rfl,rfl⟩
     go_wp2_with fail
     refine HP.out.mono ?_;rintro e w' ⟨rfl,n,rfl⟩
     go_wp2_with fail
     go_roundw
     case rel=>exact ⟨k+1,by omega,by go_num,zq (H1.out.drewN n)⟩
     case measure=>simp [intOf];omega
    | true=>
     rw [b2] at HP;clear b2
     go_wp2_with fail
     refine HI.out.mono ?_;rintro e w' ⟨rfl,rfl⟩
     go_wp2_with fail
     refine HP.out.mono ?_;rintro e w' ⟨rfl,n,rfl⟩;have HL:=zq (zpg (H1.out.drewN n));rw [hD.out] at HL;clear HP HI
     go_wp2_with fail
     refine HL.out.mono ?_;rintro e w2 ⟨u,pts,rfl,-,h2⟩;have H2:=zq h2.drop.drop;clear h2 HL H1
     go_wp2_with fail
     go_roundw
     case rel=>exact ⟨k+1,by omega,by go_num,H2⟩
     case measure=>simp [intOf];omega
  ·have hkI:decide ((k:Int)<(s.c.f:Int)+1)=false:=by simp;omega
   go_wp2_with fail
   refine bodyPost_end (results_none rfl _ _ _) rfl ?_;exact ⟨rfl,H1.out⟩
end
end Go.Proofs.YtannckelmojkoaaGreat
