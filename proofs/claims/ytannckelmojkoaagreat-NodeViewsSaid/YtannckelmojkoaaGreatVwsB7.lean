/- Parts of the proof, one behind the other. -/
import Derived.Test.YtannckelmojkoaaGreatVwsB6
set_option maxHeartbeats 32000000
set_option maxRecDepth 100000
set_option linter.unusedVariables false
set_option linter.unusedSimpArgs false
namespace Go.Proofs.YtannckelmojkoaaGreat
open Go.RowKit Go.Heap
theorem Tryz.infoCert:(Tryz.prog.info? 42).map (fun i=>(i.zero,i.size,i.bytes))=some (some (.agg #[.int .i64 0,.int .i64 0,.int .i64 0,.slice none 0 0,.slice none 0 0]),5,72):=by kernel_rfl
section
variable {B:Nat} {w0 W W':World} {ss rs:List Res} {x:Ins}
def ctsR (cts:List Ct):Res:=imm (fun w D=> ∀c∈cts,CtIn w c D) (fun h hk hs c hc=>(h c hc).dep hk hs)
theorem zqp {cts:List Ct} {c:Ct} (h:Own B w0 W (redR c.vv 2 c.vs.length (zaf c.vs)::redR c.vb 6 c.rs.length (zak c.rs)::ctsR cts::rs)) (hn:c.rs.length≤100000) (hm:c.vs.length≤100000):Own B w0 W (ctsR (cts++[c])::rs):=by
 have h1:=h.rot;refine (h1.alter (r':=ctsR (cts++[c])) ?_ (by simp [ctsR,imm])).rot'.drop.drop;obtain ⟨D,⟨q1,q2⟩,q3,q4⟩:=h1.head;obtain ⟨D1,⟨v1,v2⟩,v3,_⟩:=(h1.all (redR c.vv 2 c.vs.length (zaf c.vs)) (List.mem_cons_of_mem _ List.mem_cons_self)).1;obtain ⟨D2,⟨b1,b2⟩,b3,_⟩:=(h1.all (redR c.vb 6 c.rs.length (zak c.rs)) (List.mem_cons_of_mem _ (List.mem_cons_of_mem _ List.mem_cons_self))).1;refine ⟨D++(D1++D2),⟨fun c' hc'=> ?_,fun k hk=> ?_⟩,fun k hk=> ?_,q4⟩
 ·rcases List.mem_append.1 hc' with hc' | hc'
  ·exact (q1 c' hc').mono (by simp+contextual)
  ·simp at hc';subst hc'
   exact ⟨b1.mono (by simp+contextual),hn,v1.mono (by simp+contextual),hm⟩
 ·rcases List.mem_append.1 hk with hk | hk
  ·exact q2 k hk
  ·rcases List.mem_append.1 hk with hk | hk
   ·exact v2 k hk
   ·exact b2 k hk
 ·rcases List.mem_append.1 hk with hk | hk
  ·exact q3 k hk
  ·rcases List.mem_append.1 hk with hk | hk
   ·exact v3 k hk
   ·exact b3 k hk
theorem zfu {c:Ct} {a1:Option Addr} {n1 c1:Nat} {a2:Option Addr} {n2 c2:Nat} (h1:c.vb= .slice a1 n1 c1) (h2:c.vv= .slice a2 n2 c2): ∀u∈zag c,u.oneCell'=true:=by
 intro u hu;simp only [zag,h1,h2,List.mem_cons,List.not_mem_nil,or_false] at hu;rcases hu with rfl | rfl | rfl | rfl | rfl<;>rfl
def CertsP (B:Nat) (w0:World) (i:Nat) (st:In) (ss:List Res) (e:Ending) (w':World):Prop:=
 ∃(u:Value) (cts:List Ct),e= .returned u∧cts.map Ct.cp=ziy st∧AtI B w0 w' i st (ownR 42 5 u cts.length (cts.flatMap zag)::ctsR cts::ss)
theorem zqf (l:List Pm) (k:Nat) (hk:k<l.length):((l.take (k+1)).filter (·.has)).map (fun p=>p.ct.cp)=((l.take k).filter (·.has)).map (fun p=>p.ct.cp)++if l[k].has then [l[k].ct.cp] else []:=by
 rw [List.take_succ_eq_append_getElem hk,List.filter_append,List.map_append];congr 1
 cases h:l[k].has<;>simp [h]
theorem zt2 (x:Ins) (h:x.l.length=16):((x.l.take 16).filter (·.has)).map (fun p=>p.ct.cp)=ziy x.st:=by
 rw [List.take_of_length_le (by omega)];simp only [ziy,Ins.st,List.filter_map,List.map_map];rfl
theorem zyb {i:Nat} {st:In} (h:AtI B w0 W i st ss):Calls Tryz.prog 101 #[.pointer (some ⟨i,0,none⟩)] W (CertsP B w0 i st ss):=by
 obtain ⟨x,rfl,rfl,h3⟩:=h;obtain ⟨i0,hi,hz0,hz1,hz2⟩:=info_parts Tryz.infoCert;have ho:=zcg h3;obtain ⟨-,-,-,-,-,c5,l1,l2⟩:=zcd ho;have HN:=zq (oi_ok ho).n;have H0:Hid (Own B w0 W (ownR 42 5 (.slice none 0 0) 0 []::ctsR []::instR x::ss)):=zq ((h3.new (r:=ctsR []) (Upd.refl [] _) ⟨[],⟨by simp,by simp⟩,by simp,fun k hk=>h3.lt k hk⟩ (by simp [ctsR,imm])).row0);clear ho h3;go_enter Tryz.func101,Tryz.ntmps101
 go_wp2_with fail
 go_loopw [3,11] (fun out n wr=> ∃(k:Nat) (cts:List Ct) (ao:Option Addr) (cp:Nat),k≤16∧n= .int .i64 k∧out= .slice ao cts.length cp∧Hid (cts.map Ct.cp=((x.l.take k).filter (·.has)).map (fun p=>p.ct.cp))∧Hid (cts.length≤k)∧
  Hid (Own B w0 wr (ownR 42 5 (.slice ao cts.length cp) cts.length (cts.flatMap zag)::ctsR cts::instR x::ss))) (fun _ n _=>16-(intOf n).toNat)
 case atStart=>exact ⟨0,[],none,0,by omega,rfl,rfl,zq rfl,zq (by simp),H0⟩
 case round=>
  clear H0 c5;obtain ⟨k,cts,ao,cp,hk,rfl,rfl,HM,HLE,H1⟩:=hrel;by_cases hlt:k<16
  ·have hkI:(k:Int)<16:=by omega
   have hl:k<x.l.length:=by rw [HN.out];exact hlt
   have hle:=HLE.out;have h1:=zcg H1.out.rot;obtain ⟨a1,e1,a2,e2,a3,e3,a4,e4,s1,s2,s3,s4⟩:=zyq h1 k hl;obtain ⟨g0,g1,g2,g3,g4,g5,g6,g7,g8,g9,g10,g11,g12,g13⟩:=oi_row h1 k hl;have HT:=zq (zqf x.l k hl);have hct:=(zny h1 k hl).1;rw [s1] at g6;rw [s2] at g7;rw [s3] at g12;rw [s4] at g13;have HS1:=zq s1;have HS2:=zq s2;have H2:=zq (H1.out.alloc (.cells #[x.l[k].lc.ptr,.bool x.l[k].told,.bool x.l[k].has,.int .i64 x.l[k].ct.view,.int .i64 x.l[k].ct.inst,.int .i64 x.l[k].ct.seq,.slice a1 x.l[k].ct.rs.length e1,.slice a2 x.l[k].ct.vs.length e2,.bool x.l[k].done,.int .i64 x.l[k].dw.view,.int .i64 x.l[k].dw.inst,.int .i64 x.l[k].dw.seq,.slice a3 x.l[k].dw.rs.length e3,.slice a4 x.l[k].dw.vs.length e4] 241 (0,0)));have HF:=zq (zl0 x.l[k].ct (wr.alloc (.cells #[x.l[k].lc.ptr,.bool x.l[k].told,.bool x.l[k].has,.int .i64 x.l[k].ct.view,.int .i64 x.l[k].ct.inst,.int .i64 x.l[k].ct.seq,.slice a1 x.l[k].ct.rs.length e1,.slice a2 x.l[k].ct.vs.length e2,.bool x.l[k].done,.int .i64 x.l[k].dw.view,.int .i64 x.l[k].dw.inst,.int .i64 x.l[k].dw.seq,.slice a3 x.l[k].dw.rs.length e3,.slice a4 x.l[k].dw.vs.length e4] 241 (0,0))) (Reads.upd (M:=[]) hct.1 ((Upd.refl _ _).alloc _) (by simp)) hct.2.2.1 (Reads.upd (M:=[]) hct.2.1 ((Upd.refl _ _).alloc _) (by simp)) hct.2.2.2);unfold ctAgg at HF;rw [HS1.out,HS2.out] at HF;obtain ⟨hn1,hn2⟩:=hct.2.2;clear h1 s1 s2 s3 s4 hct H1;cases hh:x.l[k].has
   ·rw [hh] at g2 HT
    have HHH:=zq hh;clear hh
    go_wp2_with fail
    go_roundw
    case rel=>exact ⟨k+1,cts,ao,cp,by omega,by go_num,rfl,zq (by rw [HM.out,HT.out];simp),zq (by omega),by rw [←HHH.out];exact H2⟩
    case measure=>simp [intOf];omega
   ·rw [hh] at g2 HT HF H2
    clear hh
    go_wp2_with fail
    refine HF.out.mono ?_;rintro e w2 ⟨⟨view',inst',seq',vb',vv',rs',vs'⟩,rfl,hcp,hu2,hb2,hv2,n1,n2⟩;simp only at hb2 hv2 n1 n2;obtain ⟨ao6,cap6,rfl⟩:=zca hb2;obtain ⟨co6,cav6,rfl⟩:=zd2 hv2;have HCP:=zq hcp;have H3:=zq ((zhe H2.out hu2 hb2 hv2 n1 n2).rot.alloc (.cells (zag ⟨view',inst',seq',.slice ao6 rs'.length cap6,.slice co6 vs'.length cav6,rs',vs'⟩).toArray 42));have HO:=zq (zam H3.out.head);clear hcp hu2 hb2 hv2 n1 n2 HF H2 g0 g1 g2 g3 g4 g5 g6 g7 g8 g9 g10 g11 g12 g13
    go_wp2_with (at_builtin;refine wpList_append_lies _ rfl (.tmp 17) (.tmp 21) 44 rfl 0 42 i0 (.agg #[.int .i64 0,.int .i64 0,.int .i64 0,.slice none 0 0,.slice none 0 0]) 5 72 Tryz.underlying44 hi hz0 hz1 hz2 rfl (by decide) _ cts.length _ rfl HO.out ⟨w2.heap.size,0,none⟩ 1 1 (zag ⟨view',inst',seq',.slice ao6 rs'.length cap6,.slice co6 vs'.length cav6,rs',vs'⟩) rfl rfl ?c1 ?c2 (by decide) ?c3 ?c4 (Nat.zero_le _) _ rfl ?c6)
    case c1=>exact World.news_of_block (heap_alloc_new w2 _)
    case c2=>exact zfu rfl rfl
    case c3=>unfold maxLen;omega
    case c4=>omega
    case c6=>
     intro g cap2 w3 hown hgrow hat hlt3;have h4:=(H3.out.grow hgrow (by rw [zav];exact hat) hown).perm3;have hcp:=HCP.out;have e4:rs'=x.l[k].ct.rs:=congrArg Cp.rs hcp;have e5:vs'=x.l[k].ct.vs:=congrArg Cp.vs hcp;have h5:=(zqp (c:=⟨view',inst',seq',.slice ao6 rs'.length cap6,.slice co6 vs'.length cav6,rs',vs'⟩) h4 (by rw [e4];exact hn1) (by rw [e5];exact hn2)).swap;have H5:=zq h5;clear h4 h5 hown hgrow hat hlt3 hcp e4 e5
     go_wp2_with fail
     go_roundw
     case rel=>
      refine ⟨k+1,cts++[⟨view',inst',seq',.slice ao6 rs'.length cap6,.slice co6 vs'.length cav6,rs',vs'⟩],some ⟨g,0,none⟩,cap2,by omega,by go_num,by simp,zq ?_,zq (by simp;omega),zq ?_⟩
      ·rw [List.map_append,HM.out,HT.out]
       simp only [if_true,List.map_cons,List.map_nil];rw [HCP.out]
      ·rw [List.flatMap_append,List.length_append]
       simpa using H5.out
     case measure=>simp [intOf];omega
  ·have hk16:k=16:=by omega
   subst hk16;have HCA:=zq (zt2 x HN.out)
   go_wp2_with fail
   go_ret
   exact ⟨_,cts,rfl,by rw [HM.out,HCA.out],x,rfl,rfl,H1.out.rot⟩
end
end Go.Proofs.YtannckelmojkoaaGreat
