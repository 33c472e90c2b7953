/- Parts of the proof, one behind the other. -/
import Derived.Test.YtannckelmojkoaaGreatPrpB31
set_option maxHeartbeats 32000000
set_option maxRecDepth 100000
set_option linter.unusedVariables false
set_option linter.unusedSimpArgs false
namespace Go.Proofs.YtannckelmojkoaaGreat
open Go.RowKit Go.Heap
section
variable {B:Nat} {w0 w W W':World} {ss rs:List Res}
theorem zu1 (O:List Rq) (r:Rq) (k:Nat) (hk:k≤O.length):(O.flatMap zaf).take (k*6)++(zaf r++(O.flatMap zaf).drop (k*6))=(O.insertIdx k r).flatMap zaf:=by
 rw [zij (g:=zaf) (n:=6) O (fun _ _=>rfl) k hk,zm8 (g:=zaf) (n:=6) O (fun _ _=>rfl) k hk,ze2 O k r hk,List.flatMap_append,List.flatMap_cons]
theorem zjx {W:World} {g n cap k:Nat} {xs:List Value} (h:Reads W (.slice (some ⟨g,0,none⟩) n cap) 6 n xs) (hk:k≤n):Reads W (.slice (some ⟨g,k*6,none⟩) (n-k) (cap-k)) 6 (n-k) (xs.drop (k*6)):=by
 obtain ⟨ao',cap',hv,h1,h2,h3,h4,h5⟩:=h;simp only [Value.slice.injEq] at hv;obtain ⟨rfl,-,rfl⟩:=hv;refine ⟨_,_,rfl,by omega,by omega,?_,(fun e=>by cases e),fun h0=>⟨g,k*6,rfl,?_⟩⟩
 ·rw [List.length_drop,h3,Nat.sub_mul]
 ·obtain ⟨b,o,hbo,hb,hc⟩:=h5 (by omega)
  simp only [Option.some.injEq,Addr.mk.injEq] at hbo;obtain ⟨rfl,rfl,-⟩:=hbo;refine ⟨hb,fun j hj=> ?_⟩;have h6:=hc (k*6+j) (by rw [Nat.sub_mul] at hj;omega);rw [List.getElem?_drop,←h6,Nat.zero_add]
theorem zkm (l:List Rq): ∀u∈l.flatMap zaf,u.oneCell'=true:=by
 intro u hu;obtain ⟨r,_,hr⟩:=List.mem_flatMap.1 hu;unfold zaf at hr;simp only [List.mem_cons,List.not_mem_nil,or_false] at hr;rcases hr with rfl | rfl | rfl | rfl | rfl | rfl<;>rfl
theorem zwa (h:Own B w0 W rs) (r:Rq):Own B w0 (W.alloc (rqO r)) (ownR 38 6 (.slice (some ⟨W.heap.size,0,none⟩) 1 1) 1 (zaf r)::rs):=
 h.row1 ((Upd.refl _ _).alloc _) ⟨rfl,.inr ⟨W.heap.size,1,_,rfl,Nat.le_refl _,heap_alloc_new W _,Nat.le_refl _,by unfold maxLen;omega,rfl,rfl⟩⟩
theorem zsu {v:Value} {l:List Rq} (h:Own B w0 W (batR v l::ss)) (hn:l.length≤1000):
  Calls Tryz.prog 43 #[v] W fun e w'=> ∃ao cap,e= .returned (.slice ao (zdw l).length cap)∧Own B w0 w' (ownR 38 6 (.slice ao (zdw l).length cap) (zdw l).length ((zdw l).flatMap zaf)::batR v l::ss):=by
 obtain ⟨av,capv,rfl,hcv,-,-,-,-⟩:=zcn h.head;obtain ⟨i0,hi0,hz0,hz1,hz2⟩:=info_parts Tryz.infoRq;obtain ⟨O,hO⟩: ∃O:Nat→List Rq,O=fun j=>(l.take j).foldl insP []:=⟨_,rfl⟩;have HO0:Hid (O 0=[]):=zq (by rw [hO];rfl);have HOS:Hid (∀j (hj:j<l.length),O (j+1)=insP (O j) l[j]):=zq (fun j hj=>by
  rw [hO];simp only;rw [List.take_succ_eq_append_getElem hj,List.foldl_append];rfl)
 have HON:Hid (∀j,(O j).length≤j):=zq (fun j=>by
  induction j with
  | zero=>rw [hO];simp
  | succ j ih=>
   by_cases hj:j<l.length
   ·have e:O (j+1)=insP (O j) l[j]:=by
     rw [hO];simp only;rw [List.take_succ_eq_append_getElem hj,List.foldl_append];rfl
    rw [e];have:=(zq3 (O j) l[j]).1;omega
   ·have e:O (j+1)=O j:=by
     rw [hO];simp only;rw [List.take_of_length_le (by omega),List.take_of_length_le (by omega)]
    rw [e];omega)
 have HOF:Hid (O l.length=zdw l):=zq (by rw [hO];simp only;rw [List.take_length];rfl);generalize zdw l=R at*;have HCV:=zq hcv;have H0:=zq (h.row0 (E:=38) (sz:=6));clear hO h hcv;go_enter Tryz.func43,Tryz.ntmps43
 go_wp2_with fail
 go_loopw [3,4] (fun out n wr=> ∃(j:Nat) (o6:Option Addr) (c6:Nat),j≤l.length∧n= .int .i64 j∧out= .slice o6 (O j).length c6∧Hid (Own B w0 wr (ownR 38 6 (.slice o6 (O j).length c6) (O j).length ((O j).flatMap zaf)::batR (.slice av l.length capv) l::ss))) (fun _ n _=>l.length-(intOf n).toNat)
 case atStart=>exact ⟨0,none,0,by omega,rfl,by rw [HO0.out];rfl,zq (by rw [HO0.out];exact H0.out)⟩
 case round=>
  clear H0 HO0;obtain ⟨j,o6,c6,hj,rfl,rfl,H3⟩:=hrel;have hj0:(0:Int)≤(j:Int):=by omega
  have hjB:(j:Int)≤1000:=by omega
  by_cases hlt:j<l.length
  ·have hjI:(j:Int)<(l.length:Int):=by omega
   obtain ⟨ao',cap',hv',hbc,-,-,-,h5⟩:=zcn (H3.out.get 1 rfl);simp only [Value.slice.injEq] at hv';obtain ⟨rfl,-,rfl⟩:=hv';obtain ⟨b,o,rfl,hbs,hcs⟩:=h5 (by omega);obtain ⟨q0,q1,q2,q3,q4,q5⟩:=zba hcs j l[j] (by simp);have hbcI:(l.length:Int)≤(capv:Int):=by omega
   have HS:=zq (HOS.out j hlt);have hA:=HON.out j;generalize hrj:l[j]=r at*;have HJ:Hid (l[j]?=some r):=zq (by rw [←hrj];simp);clear hcs h5 hbs hbc hrj;generalize O j=A at*;have hreads:Reads wr (.slice o6 A.length c6) 6 A.length (A.flatMap zaf):=owns_reads (zaj H3.out.head);have HH:=zq (zpb (.slice o6 A.length c6) A r wr (by omega) hreads);have hc6:A.length≤c6:=by
    obtain ⟨ao',cap',hv',hbc,-⟩:=hreads;simp only [Value.slice.injEq] at hv';omega
   clear hreads;by_cases hmem:r∈A
   ·have hd:decide (r∈A)=true:=by simpa using hmem
    rw [hd] at HH;have HE:Hid (O (j+1)=A):=zq (by rw [HS.out];unfold insP;rw [if_pos hmem]);clear hmem hd HS
    go_wp2_with fail
    with_reducible refine HH.out.mono ?_
    rintro e w5 ⟨rfl,hu⟩;have H5:=zq (H3.out.upd0 hu);clear hu HH H3 q0 q1 q2 q3 q4 q5
    go_wp2_with fail
    go_roundw
    case rel=>exact ⟨j+1,o6,c6,by omega,by go_num,by rw [HE.out],zq (by rw [HE.out];exact H5.out)⟩
    case measure=>simp [intOf];omega
   ·have hd:decide (r∈A)=false:=by simpa using hmem
    rw [hd] at HH;have HE:Hid (O (j+1)=A.insertIdx (plc A r A.length) r):=zq (by rw [HS.out];unfold insP;rw [if_neg hmem]);have HKN:=zq (zsc A r A.length);obtain ⟨pz,hpz⟩: ∃p,p=plc A r A.length:=⟨_,rfl⟩;rw [←hpz] at HE HKN;have HPZ:=zq hpz;clear hmem hd HS hpz
    go_wp2_with fail
    with_reducible refine HH.out.mono ?_
    rintro e w5 ⟨rfl,hu⟩;have H5:=zq (H3.out.upd0 hu);clear hu HH H3 q0 q1 q2 q3 q4 q5
    go_upto_block 2 with fail
    go_cut [5] (fun kv wx=>kv= .int .i64 pz∧Hid (Own B w0 wx (ownR 38 6 (.slice o6 A.length c6) A.length (A.flatMap zaf)::batR (.slice (some ⟨b,o,none⟩) l.length capv) l::ss)))
    case first=>
     go_wp2_with fail
     go_loopw [5] (fun kv wx=> ∃k:Nat,k≤A.length∧kv= .int .i64 k∧Hid (pz=plc A r k)∧Hid (Own B w0 wx (ownR 38 6 (.slice o6 A.length c6) A.length (A.flatMap zaf)::batR (.slice (some ⟨b,o,none⟩) l.length capv) l::ss))) (fun kv _=>(intOf kv).toNat)
     case atStart=>exact ⟨A.length,Nat.le_refl _,rfl,HPZ,H5⟩
     case round=>
      clear H5 HPZ HE HOS HON HOF HKN;obtain ⟨k,hk,rfl,HP,H6⟩:=hrel;by_cases hk0:0<k
      ·obtain ⟨m,rfl⟩: ∃m,k=m+1:=⟨k-1,by omega⟩
       have hkd:decide ((0:Int)<((m+1:Nat):Int))=true:=decide_eq_true (by omega);have hkd2:decide ((0:Int)<(m:Int)+1)=true:=decide_eq_true (by omega);have hw1:IntKind.i64.wrap (((m+1:Nat):Int)-1)=(m:Int):=by rw [IntWalk.i64_in _ (by omega)];omega
       have hw2:IntKind.i64.wrap ((m:Int)+1-1)=(m:Int):=by rw [IntWalk.i64_in _ (by omega)];omega
       have hm0:(0:Int)≤(m:Int):=by omega
       have hmI:(m:Int)<(A.length:Int):=by omega
       obtain ⟨ao',cap',hv',hbc,-,-,-,h5⟩:=zcn (H6.out.get 1 rfl);simp only [Value.slice.injEq] at hv';obtain ⟨hv1,-,rfl⟩:=hv';obtain ⟨b2,o2,hv2,-,hcs⟩:=h5 (by omega);rw [←hv1] at hv2;simp only [Option.some.injEq,Addr.mk.injEq] at hv2;obtain ⟨rfl,rfl,-⟩:=hv2;obtain ⟨q0,q1,q2,q3,q4,q5⟩:=zba hcs j r (HJ.out);obtain ⟨ao',cap',hv',-,-,-,-,h5⟩:=owns_reads (zaj H6.out.head);simp only [Value.slice.injEq] at hv';obtain ⟨rfl,-,rfl⟩:=hv';obtain ⟨g,og,rfl,-,hcs2⟩:=h5 (by omega);have hcI:(A.length:Int)≤(c6:Int):=by omega
       obtain ⟨p0,p1,p2,p3,p4,p5⟩:=zba hcs2 m A[m] (by simp);have hat:reqAt A m=A[m]:=by unfold reqAt;rw [List.getD_eq_getElem?_getD,List.getElem?_eq_getElem (by omega)];rfl
       have hpl:pz=if cmpRq r A[m]<0 then plc A r m else m+1:=by
        have:=HP.out;unfold plc at this;rw [hat] at this;exact this
       generalize A[m]=y at*;have HPL:=zq hpl;have HC:=zq (fun w=>zmb r y w);unfold rqAgg at HC;clear hcs hcs2 h5 hbc hv1 hat hpl HP;by_cases hc:cmpRq r y<0
       ·have HE:Hid (pz=plc A r m):=zq (HPL.out.trans (if_pos hc))
        have hcd:decide (cmpRq r y<0)=true:=by simpa using hc
        clear HPL hc;generalize cmpRq r y=cr at*
        go_upto_region 7 with fail
        refine Mix.wp_text2 (by kernel_rfl) (by kernel_rfl) ?_
        go_wp2_with fail
        with_reducible refine (HC.out _).mono ?_
        rintro e w6 ⟨rfl,hu⟩;have H7:=zq (H6.out.drew.upd0 hu);clear hu HC H6 q0 q1 q2 q3 q4 q5 p0 p1 p2 p3 p4 p5
        go_wp2_with fail
        refine ⟨by rfl,?_⟩
        go_wp2_with fail
        go_roundw
        case rel=>exact ⟨m,by omega,by go_num,HE,H7⟩
        case measure=>simp [intOf]
       ·have HE:Hid (pz=m+1):=zq (HPL.out.trans (if_neg hc))
        have hcd:decide (cmpRq r y<0)=false:=by simpa using hc
        clear HPL hc;generalize cmpRq r y=cr at*
        go_upto_region 7 with fail
        refine Mix.wp_text2 (by kernel_rfl) (by kernel_rfl) ?_
        go_wp2_with fail
        with_reducible refine (HC.out _).mono ?_
        rintro e w6 ⟨rfl,hu⟩;have H7:=zq (H6.out.drew.upd0 hu);clear hu HC H6 q0 q1 q2 q3 q4 q5 p0 p1 p2 p3 p4 p5
        go_wp2_with fail
        refine ⟨by rfl,?_⟩
        go_wp2_with fail
        go_meet
        exact ⟨by rw [HE.out];rfl,H7⟩
      ·obtain rfl:k=0:=by omega
       have HE:Hid (pz=0):=zq HP.out;clear HP hk0
       go_upto_region 7 with fail
       go_quiet (fail)
       go_wp2_with fail
       go_meet
       exact ⟨by rw [HE.out],zq (H6.out.upd0 ((Upd.refl _ _).drewN _))⟩
    case rest=>
    clear H5 HPZ;obtain ⟨rfl,H6⟩:=hcut;have hkn:=HKN.out;obtain ⟨ao',cap',hv',hbc,-,-,-,h5⟩:=zcn (H6.out.get 1 rfl);simp only [Value.slice.injEq] at hv';obtain ⟨hv1,-,rfl⟩:=hv';obtain ⟨b2,o2,hv2,-,hcs⟩:=h5 (by omega);rw [←hv1] at hv2;simp only [Option.some.injEq,Addr.mk.injEq] at hv2;obtain ⟨rfl,rfl,-⟩:=hv2;obtain ⟨q0,q1,q2,q3,q4,q5⟩:=zba hcs j r HJ.out;clear hcs h5 hv1;have hshape:=(zaj H6.out.head).2;generalize wc=w6 at*
    go_upto_region 9 with fail
    rcases hshape with ⟨hv,hA0⟩ | ⟨g,capg,cur,hv,-⟩
    ·simp only [Value.slice.injEq] at hv
     obtain ⟨rfl,-,rfl⟩:=hv;obtain rfl:A=[]:=List.eq_nil_of_length_eq_zero hA0;obtain rfl:pz=0:=by simpa using hkn
     have HO:=zq ((H6.out.drop.box (.cells #[.int .i64 r.client,.int .i64 r.time,.int .i64 r.kind,.int .i64 r.key,.int .i64 r.val,.int .i64 r.sl] 38 (0,0))).drew.row0 (E:=38) (sz:=6));have RV:Hid (Reads (w6.alloc (.cells #[.int .i64 r.client,.int .i64 r.time,.int .i64 r.kind,.int .i64 r.key,.int .i64 r.val,.int .i64 r.sl] 38 (0,0))).drew (.slice (some ⟨w6.heap.size,0,none⟩) 1 1) 6 1 (zaf r)):=zq ⟨_,_,rfl,by omega,by unfold maxLen;omega,rfl,(fun e=>by cases e),fun _=>⟨w6.heap.size,0,rfl,by simp,fun j hj=>by rw [Nat.zero_add];exact (zac (heap_alloc_new w6 _) j).trans (by simp [zaf])⟩⟩;have RO:Hid (∀u∈zaf r,u.oneCell'=true):=zq (fun u hu=>zkm [r] u (by simpa using hu));have HM1:Hid (0+1≤maxLen):=zq (by unfold maxLen;omega);have HM2:Hid ((0+1)*48≤140737488355328):=zq (by omega);clear hkn hA0;refine Mix.wp_text2 (by kernel_rfl) (by kernel_rfl) ?_
     go_wp2_with (at_builtin;refine zdv rfl (.tmp 39) (.tmp 48) 39 rfl 38 i0 (.agg #[.int .i64 0,.int .i64 0,.int .i64 0,.int .i64 0,.int .i64 0,.int .i64 0]) 6 48 Tryz.underlying39 hi0 hz0 hz1 hz2 rfl (by decide) _ 0 _ rfl HO.out _ 1 _ rfl RV.out RO.out HM1.out HM2.out ?_)
     intro v4 w4 h4;obtain ⟨a4,c4,rfl⟩:=zgd (zaj h4.head);have HF:Hid (Own B w0 w4 (ownR 38 6 (.slice a4 ([].insertIdx 0 r).length c4) ([].insertIdx 0 r).length ((([]:List Rq).insertIdx 0 r).flatMap zaf)::batR (.slice (some ⟨b,o,none⟩) l.length capv) l::ss)):=zq (by
      have h5:=h4.swap.drop
      simpa using h5)
     clear h4 HO RV RO HM1 HM2 H6
     go_wp2_with fail
     refine ⟨by rfl,?_⟩
     go_wp2_with fail
     go_roundw
     case rel=>exact ⟨j+1,a4,c4,by omega,by go_num,by rw [HE.out];rfl,zq (by rw [HE.out];exact HF.out)⟩
     case measure=>simp [intOf];omega
    ·simp only [Value.slice.injEq] at hv
     obtain ⟨rfl,-,rfl⟩:=hv;have hc6I:(A.length:Int)≤(c6:Int):=by omega
     have hknI:(pz:Int)≤(A.length:Int):=by omega
     have hkcI:(pz:Int)≤(c6:Int):=by omega
     have hkc:pz≤c6:=by omega
     have hpz0:(0:Int)≤(pz:Int):=by omega
     have HX1:=zq ((zwa H6.out r).drew);obtain ⟨o7,HR1,hcp⟩: ∃o7:Nat,Hid (Reads (w6.alloc (rqO r)).drew (.slice (some ⟨g,o7,none⟩) (A.length-pz) (c6-pz)) 6 (A.length-pz) ((A.flatMap zaf).drop (pz*6)))∧((pz=c6∧o7=0)∨(¬c6=pz∧o7=pz*6)):=by
      have h9:=owns_reads (zaj (HX1.out.get 1 rfl));by_cases hcp:c6=pz
      ·refine ⟨0,zq ?_,.inl ⟨hcp.symm,rfl⟩⟩
       have e:pz=A.length:=by omega
       have h10:=zjx (k:=pz) h9 hkn;obtain ⟨ao',cap',hv,t1,t2,t3,-,-⟩:=h10;simp only [Value.slice.injEq] at hv;obtain ⟨-,-,rfl⟩:=hv;exact ⟨_,_,rfl,t1,t2,t3,(fun e=>by cases e),fun h0=>by omega⟩
      ·exact ⟨pz*6,zq (zjx (k:=pz) h9 hkn),.inr ⟨hcp,rfl⟩⟩
     have RO:Hid (∀u∈(A.flatMap zaf).drop (pz*6),u.oneCell'=true):=zq (fun u hu=>zkm A u (List.mem_of_mem_drop hu));have RO2:Hid (∀u∈zaf r++(A.flatMap zaf).drop (pz*6),u.oneCell'=true):=zq (fun u hu=>(List.mem_append.1 hu).elim (fun h=>zkm [r] u (by simpa using h)) (fun h=>zkm A u (List.mem_of_mem_drop h)));have HM1:Hid (1+(A.length-pz)≤maxLen):=zq (by unfold maxLen;omega);have HM2:Hid ((1+(A.length-pz))*48≤140737488355328):=zq (by omega);have HM3:Hid (pz+(1+(A.length-pz))≤maxLen):=zq (by unfold maxLen;omega);have HM4:Hid ((pz+(1+(A.length-pz)))*48≤140737488355328):=zq (by omega);have HLN:Hid (pz+(1+(A.length-pz))=(A.insertIdx pz r).length):=zq (by rw [List.length_insertIdx,if_pos hkn];omega);have HIC:=zq (zu1 A r pz hkn);clear HKN;rcases hcp with ⟨rfl,rfl⟩ | ⟨hcp,rfl⟩
     ·have hpA:pz=A.length:=by omega
      have HX2:=zq (HX1.out.swap.cutRow hkn);have HR2:=zq (owns_reads (zaj (HX1.out.get 0 rfl)));have RO3:Hid (∀u∈zaf r,u.oneCell'=true):=zq (fun u hu=>zkm [r] u (by simpa using hu));have HM5:Hid (pz+1≤maxLen):=zq (by unfold maxLen;omega);have HM6:Hid ((pz+1)*48≤140737488355328):=zq (by omega);have HL1:Hid (pz+1=(A.insertIdx pz r).length):=zq (by rw [List.length_insertIdx,if_pos hkn,hpA]);have HD:Hid ((A.flatMap zaf).drop (pz*6)=[]):=zq (List.drop_eq_nil_of_le (by rw [flat_len' (g:=zaf) (n:=6) A (fun _ _=>rfl),hpA];exact Nat.le_refl _));clear HX1 HR1 RO RO2 HM1 HM2 HM3 HM4 HLN H6 hpA;refine Mix.wp_text2 (by kernel_rfl) (by kernel_rfl) ?_
      go_wp2_with (at_builtin;refine zbe rfl (.tmp 39) (.tmp 48) 39 rfl 38 i0 (.agg #[.int .i64 0,.int .i64 0,.int .i64 0,.int .i64 0,.int .i64 0,.int .i64 0]) 6 48 Tryz.underlying39 hi0 hz0 hz1 hz2 rfl (by decide) HX2.out 0 _ pz _ rfl rfl _ 1 _ rfl HR2.out RO3.out HM5.out HM6.out ?_)
      intro a5 c5 w5 h5;have HF:Hid (Own B w0 w5 (ownR 38 6 (.slice a5 (A.insertIdx pz r).length c5) (A.insertIdx pz r).length ((A.insertIdx pz r).flatMap zaf)::batR (.slice (some ⟨b,o,none⟩) l.length capv) l::ss)):=zq (by
       rw [←HL1.out,←HIC.out,HD.out,List.append_nil];exact Own.dropAt (rs:=_::_::_::ss) h5 1 (by simp))
      clear h5 HX2 HR2 RO3 HM5 HM6
      go_wp2_with fail
      refine ⟨by rfl,?_⟩
      go_wp2_with fail
      go_roundw
      case rel=>exact ⟨j+1,a5,c5,by omega,by go_num,by rw [HE.out,←HL1.out],zq (by rw [HE.out];exact HF.out)⟩
      case measure=>simp [intOf];omega
     ·refine Mix.wp_text2 (by kernel_rfl) (by kernel_rfl) ?_
      go_wp2_with (at_builtin;refine zbe rfl (.tmp 44) (.tmp 47) 39 rfl 38 i0 (.agg #[.int .i64 0,.int .i64 0,.int .i64 0,.int .i64 0,.int .i64 0,.int .i64 0]) 6 48 Tryz.underlying39 hi0 hz0 hz1 hz2 rfl (by decide) HX1.out 0 _ 1 _ rfl rfl _ (A.length-pz) _ rfl HR1.out RO.out HM1.out HM2.out ?_)
      intro a4 c4 w4 h4;have h4':Own B w0 w4 (ownR 38 6 (.slice a4 (1+(A.length-pz)) c4) (1+(A.length-pz)) (zaf r++(A.flatMap zaf).drop (pz*6))::ownR 38 6 (.slice (some ⟨g,0,none⟩) A.length c6) A.length (A.flatMap zaf)::batR (.slice (some ⟨b,o,none⟩) l.length capv) l::ss):=h4;have HX2:=zq (h4'.swap.cutRow hkn);have HR2:=zq (owns_reads (zaj h4'.head));clear h4 h4' HX1 HR1 RO HM1 HM2 H6 q0 q1 q2 q3 q4 q5
      go_wp2_with (at_builtin;refine zbe rfl (.tmp 39) (.tmp 48) 39 rfl 38 i0 (.agg #[.int .i64 0,.int .i64 0,.int .i64 0,.int .i64 0,.int .i64 0,.int .i64 0]) 6 48 Tryz.underlying39 hi0 hz0 hz1 hz2 rfl (by decide) HX2.out 0 _ pz _ rfl rfl _ (1+(A.length-pz)) _ rfl HR2.out RO2.out HM3.out HM4.out ?_)
      intro a5 c5 w5 h5;have HF:Hid (Own B w0 w5 (ownR 38 6 (.slice a5 (A.insertIdx pz r).length c5) (A.insertIdx pz r).length ((A.insertIdx pz r).flatMap zaf)::batR (.slice (some ⟨b,o,none⟩) l.length capv) l::ss)):=zq (by
       rw [←HLN.out,←HIC.out];exact Own.dropAt (rs:=_::_::_::ss) h5 1 (by simp))
      clear h5 HX2 HR2 RO2 HM3 HM4
      go_wp2_with fail
      refine ⟨by rfl,?_⟩
      go_wp2_with fail
      go_roundw
      case rel=>exact ⟨j+1,a5,c5,by omega,by go_num,by rw [HE.out,←HLN.out],zq (by rw [HE.out];exact HF.out)⟩
      case measure=>simp [intOf];omega
  ·obtain rfl:j=l.length:=by omega
   have hjI:decide ((l.length:Int)<(l.length:Int))=false:=by simp
   have HF:=HOF.out;rw [HF] at H3
   go_wp2_with fail
   go_ret
   rw [HF];exact ⟨o6,c6,rfl,H3.out⟩
end
theorem zwe (v u:Value) (rs ss:List Rq) (w:World) (hn:rs.length≤100000) (hm:ss.length≤100000) (h:Bat w v rs) (h':Bat w u ss):
  Calls Tryz.prog 28 #[v,u] w fun e w'=>e= .returned (.bool (decide (rs=ss)))∧Upd [] w w':=by
 obtain ⟨ao,cap,rfl,h1,h2,h3,h4,h5⟩:=h;obtain ⟨bo,cap',rfl,k1,k2,k3,k4,k5⟩:=h';clear h1 h2 h3 h4 k1 k2 k3 k4;have H5:=zq h5;have K5:=zq k5;clear h5 k5;by_cases hlen:rs.length=ss.length
 ·have HL:=zq hlen
  have hlb:((rs.length:Int) !=(ss.length:Int))=false:=by simp [hlen]
  have hle1:rs.length≤ss.length:=by omega
  have hle2:ss.length≤rs.length:=by omega
  clear hlen;go_enter Tryz.func28,Tryz.ntmps28
  go_wp2_with fail
  go_loopw [5] (fun i wr=> ∃k:Nat,k≤rs.length∧i= .int .i64 k∧rs.take k=ss.take k∧Below w.heap.size w wr) (fun i _=>rs.length-(intOf i).toNat)
  case atStart=>exact ⟨0,by omega,rfl,by simp,Below.refl _ _⟩
  case round=>
   obtain ⟨k,hk,rfl,he,hb⟩:=hrel;have HE:=zq he;clear he;by_cases hlt:k<rs.length
   ·obtain ⟨b,o,rfl,hbs,hc⟩:=H5.out (by omega)
    obtain ⟨b',o',rfl,hbs',hc'⟩:=K5.out (by omega);have hlt':k<ss.length:=by omega
    obtain ⟨q0,q1,q2,q3,q4,q5⟩:=zba (zbt hb hbs hc) k rs[k] (by simp);obtain ⟨p0,p1,p2,p3,p4,p5⟩:=zba (zbt hb hbs' hc') k ss[k] (by simp);clear hc hc';have hkI:(k:Int)<(ss.length:Int):=by omega
    have hkJ:(k:Int)<(rs.length:Int):=by omega
    by_cases he:rs[k]=ss[k]
    ·have heq: ∀wx,(Op.equalIn 10000 38 (rqAgg rs[k]) (rqAgg ss[k])).run Tryz.prog wx= .ok true wx:=fun wx=>by rw [zbd];simp [he]
     have HEK:=zq he;clear he;unfold rqAgg at heq;have hgd:=Tryz.guardReq
     go_wp2_with fail
     go_quiet (fail)
     go_wp2_with fail
     go_roundw
     case rel=>exact ⟨k+1,by omega,by go_num,take_same HE.out hlt hlt' HEK.out,hb.trans ⟨rfl,rfl,rfl,Nat.le_refl _,fun _ _=>rfl⟩⟩
     case measure=>simp [intOf];omega
    ·have heq: ∀wx,(Op.equalIn 10000 38 (rqAgg rs[k]) (rqAgg ss[k])).run Tryz.prog wx= .ok false wx:=fun wx=>by rw [zbd];simp [he]
     have HEK:=zq he;clear he;unfold rqAgg at heq;have hgd:=Tryz.guardReq
     go_wp2_with fail
     go_quiet (fail)
     go_wp2_with fail
     go_ret
     refine ⟨zad ?_,Upd.of_below (hb.trans ⟨rfl,rfl,rfl,Nat.le_refl _,fun _ _=>rfl⟩)⟩;symm;rw [decide_eq_false_iff_not];intro e;subst e;exact HEK.out rfl
   ·go_wp2_with fail
    go_ret
    refine ⟨zad ?_,Upd.of_below hb⟩;symm;rw [decide_eq_true_iff];have h1:=HE.out;rw [List.take_of_length_le (by omega),List.take_of_length_le (by omega)] at h1;exact h1
 ·have hlb:((rs.length:Int) !=(ss.length:Int))=true:=by simp;omega
  have HL:=zq hlen;clear hlen;go_enter Tryz.func28,Tryz.ntmps28
  go_wp2_with fail
  go_ret
  refine ⟨zad ?_,Upd.refl _ _⟩;symm;rw [decide_eq_false_iff_not];intro e;exact HL.out (by rw [e])
structure TdN (f:Nat) (r:Rq) (h:Nat→Bool) (n:Nat) (t:Td):Prop where
 r:t.r=r
 len:t.by_.length=13
 hh: ∀(k:Nat) (hk:k<t.by_.length),t.by_[k]=h k
 cn:byLen t=n
 rd:t.ready=decide (f+1≤n)
 sc:t.since=0
section
variable {f n m:Nat} {r:Rq} {h:Nat→Bool} {t:Td} {l done:List Td}
theorem TdN.new (f:Nat) (r:Rq):TdN f r (fun _=>false) 0 (newTd r) where
 r:=rfl
 len:=by simp [newTd]
 hh:=fun k hk=>List.getElem_replicate hk
 cn:=by
  unfold byLen;rw [List.countP_eq_zero];intro b hb;rw [List.eq_of_mem_replicate hb];simp
 rd:=by simp [newTd]
 sc:=rfl
theorem TdN.tell (H:TdN f r h n t) (hm:m<13) (h0:h m=false):TdN f r (hAdd h m) (n+1) (tellT f m 0 t):=by
 have hml:m<t.by_.length:=by rw [H.len];exact hm
 have hn:byLen {t with by_:=t.by_.set m true}=n+1:=by
  unfold byLen;show (t.by_.set m true).countP id=n+1;rw [zgn id t.by_ m hml true (by rw [H.hh m hml];exact h0) rfl];have:=H.cn;unfold byLen at this;rw [this]
 have hg: ∀(k:Nat) (hk:k<(t.by_.set m true).length),(t.by_.set m true)[k]=hAdd h m k:=fun k hk=>by
  rw [List.getElem_set];unfold hAdd;by_cases hkm:m=k
  ·subst hkm;simp
  ·rw [if_neg hkm,if_neg (fun e=>hkm e.symm)]
   exact H.hh k (by simpa using hk)
 unfold tellT;simp only;rw [hn,H.rd];by_cases hw:f+1≤n+1
 ·by_cases hw2:f+1≤n
  ·rw [if_neg (by simp [hw2])]
   exact ⟨H.r,by rw [List.length_set,H.len],hg,hn,by show decide (f+1≤n)=decide (f+1≤n+1);rw [decide_eq_true hw,decide_eq_true hw2],H.sc⟩
  ·rw [if_pos (by rw [decide_eq_true hw,decide_eq_false hw2];rfl)]
   exact ⟨H.r,by rw [List.length_set,H.len],hg,hn,by rw [decide_eq_true hw],rfl⟩
 ·rw [if_neg (by rw [decide_eq_false hw];simp)]
  exact ⟨H.r,by rw [List.length_set,H.len],hg,hn,by show decide (f+1≤n)=decide (f+1≤n+1);rw [decide_eq_false hw,decide_eq_false (by omega)],H.sc⟩
theorem zji {α:Type} {p:α→Bool}: ∀(l t:List α),(∀a∈l,p a=true)→(l++t).takeWhile p=l++t.takeWhile p
 | [],_,_=>rfl
 | a::l,t,h=>by
  rw [List.cons_append,List.takeWhile_cons,if_pos (h a (by simp)),zji l t (fun b hb=>h b (by simp [hb])),List.cons_append]
theorem zmq (hd: ∀t∈done,cmpRq t.r r<0):tabK done r=done.length:=by
 unfold tabK;have e:=zji (p:=fun t:Td=>decide (cmpRq t.r r<0)) done [] (fun t ht=>by simpa using hd t ht);rw [List.append_nil] at e;rw [e,List.takeWhile_nil,List.append_nil]
theorem zjh (hd: ∀t∈done,cmpRq t.r r<0) (ht:t.r=r):tabK (done++[t]) r=done.length:=by
 unfold tabK;rw [zji done [t] (fun t ht=>by simpa using hd t ht),List.takeWhile_cons,if_neg (by rw [ht,zp9];simp),List.append_nil]
theorem zn5 (hd: ∀t∈done,cmpRq t.r r<0):tabIs done r=false:=by
 unfold tabIs;rw [zmq hd,List.getElem?_eq_none (Nat.le_refl _)]
theorem zky (hd: ∀t∈done,cmpRq t.r r<0) (ht:t.r=r):tabIs (done++[t]) r=true:=by
 unfold tabIs;rw [zjh hd ht,List.getElem?_append_right (Nat.le_refl _),Nat.sub_self];simp [ht]
theorem zkx (hd: ∀t∈done,cmpRq t.r r<0) (j:Int):zcl done r j=false:=by
 unfold zcl;rw [zmq hd,List.getElem?_eq_none (Nat.le_refl _)]
theorem zh9 (H:TdN f r h n t) (hd: ∀t∈done,cmpRq t.r r<0) (hm:m<13):zcl (done++[t]) r (m:Int)=h m:=by
 unfold zcl;rw [zjh hd H.r,List.getElem?_append_right (Nat.le_refl _),Nat.sub_self];show (decide (t.r=r)&&(decide ((0:Int)≤(m:Int))&&t.by_.getD (m:Int).toNat false))=h m;have hml:m<t.by_.length:=by rw [H.len];exact hm
 rw [H.r,decide_eq_true rfl,decide_eq_true (by omega),Bool.true_and,Bool.true_and,Int.toNat_natCast,List.getD_eq_getElem?_getD,List.getElem?_eq_getElem hml,H.hh m hml];rfl
theorem zrd {α:Type} (g:α→α): ∀(l:List α) (a:α),(l++[a]).modify l.length g=l++[g a]
 | [],a=>rfl
 | b::l,a=>by
  rw [List.cons_append,List.length_cons,List.modify_succ_cons,zrd g l a,List.cons_append]
theorem zn4 {cl:Int} (hc0:0≤r.client) (hc1:r.client<cl) (hm:m≤3*f):ztc f cl r (m:Int)=false:=by
 unfold ztc;simp only [Bool.or_eq_false_iff,decide_eq_false_iff_not];refine ⟨by omega,by omega,by omega,by omega⟩
theorem zte {cl:Int} (hc0:0≤r.client) (hc1:r.client<cl) (hm:m≤3*f) (hd: ∀t∈done,cmpRq t.r r<0) (hl:done.length<4):
  tabE f cl done r (m:Int)=0∧zet f cl done r (m:Int) 0=done++[tellT f m 0 (newTd r)]:=by
 have hc:=List.countP_le_length (p:=fun t:Td=>t.r.client==r.client) (l:=done);have he:tabE f cl done r (m:Int)=0:=by
  unfold tabE zee;rw [zn4 hc0 hc1 hm,if_neg (by simp),zn5 hd,if_neg (by simp;omega)]
 refine ⟨he,?_⟩;unfold zet;rw [he,if_pos rfl];unfold tabIn;rw [zn5 hd,if_neg (by simp),zmq hd,List.insertIdx_length_self,zrd,Int.toNat_natCast]
theorem zia {cl:Int} (H:TdN f r h n t) (hc0:0≤r.client) (hc1:r.client<cl) (hm:m≤3*f) (hd: ∀t∈done,cmpRq t.r r<0):
  zet f cl (done++[t]) r (m:Int) 0=done++[tellT f m 0 t]:=by
 have he:tabE f cl (done++[t]) r (m:Int)=0:=by
  unfold tabE zee;rw [zn4 hc0 hc1 hm,if_neg (by simp),zky hd H.r];simp
 unfold zet;rw [he,if_pos rfl];unfold tabIn;rw [zky hd H.r,if_pos rfl,zjh hd H.r,zrd,Int.toNat_natCast]
end
theorem px_send (p:NSt) (m:Ms):Px p.2 (sendS p m).2:=by
 obtain ⟨s,l⟩:=p;have h1:=px_sealP l (zjr m s.id);unfold sendS;simp only;generalize sealP l (zjr m s.id)=q at*;obtain ⟨o,l2⟩:=q;cases o with
 | none=>exact h1
 | some b=>exact h1
def prS (f:Nat) (id:Int) (tab:List Td) (out:List (Int×Bys)) (u:Int):Ns:= {newS (stdC f) id with tab:=tab,out:=out,used:=u}
def prgW (r:Rq) (j:Int):Ms:=⟨2,j,0,0,0,0,[r],[],[],[]⟩
section
variable {f n id m:Nat} {u:Int} {r:Rq} {h:Nat→Bool} {t:Td} {done:List Td} {out:List (Int×Bys)} {l:Nt}
theorem zsh (j:Int):putT (prS f id done out u) r j=prS f (id:Int) (zet f 2 done r j 0) out u:=rfl
theorem req_go {q:NSt} (hs:rqSealed l 2 r=true) (ht:1≤r.time) (hh:zcl done r (m:Int)=false)
  (he:zcl done r (id:Int)=true∨tabE f 2 done r (id:Int)=0)
  (hq:(if zcl done r (id:Int) then (prS f id done out u,l) else propS (putT (prS f id done out u) r (id:Int),l) r)=q):
  zbw (prgW r m) (prS f id done out u,l)=(0,(putT q.1 r (m:Int),q.2)):=by
 have hl: ¬r.time≤lastL (prS f id done out u).bk r.client:=by
  have:lastL (prS f id done out u).bk r.client=0:=by
   show lastL (newL 2) r.client=0;unfold lastL;split
   ·rename_i hc
    have h3:r.client<2:=hc.2;have:r.client=0∨r.client=1:=by have:=hc.1;omega
    rcases this with e | e<;>rw [e]<;>rfl
   ·rfl
  rw [this];omega
 unfold zbw;simp only;have e1:(prgW r m).rs.headD ⟨0,0,0,0,0,0⟩=r:=rfl;have e2:(prgW r m).kind=2:=rfl;have e3:(prgW r m).fm=(m:Int):=rfl;have e4:(prS f id done out u).tab=done:=rfl;have e5:(prS f id done out u).id=(id:Int):=rfl;have e6:(prS f id done out u).c.cl=2:=rfl;have e7:(prS f id done out u).c.f=f:=rfl;simp only [e1,e2,e3,e4,e5,e6,e7];rw [hs,if_neg (by simp),if_neg hl,if_neg (show¬(2:Int)=1 by omega),hh,if_neg (by simp),if_neg (by
  rcases he with he | he
  ·rw [he];simp
  ·rw [he];simp)]
 rw [hq,if_pos trivial]
theorem zv8 (hs:rqSealed l 2 r=true) (ht:1≤r.time) (hc0:0≤r.client) (hc1:r.client<2) (hf:f≤4) (hid:id≤3*f) (hm:m≤3*f) (hne:m≠id) (hd: ∀t∈done,cmpRq t.r r<0) (hl:done.length<4):
  ∃t o l',zbw (prgW r m) (prS f id done out u,l)=(0,(prS f id (done++[t]) (out++o) u,l'))∧TdN f r (hAdd (hAdd (fun _=>false) id) m) 2 t∧o.length≤13∧Px l l'∧l'.length≤l.length+1:=by
 have hT:=(TdN.new f r).tell (m:=id) (by omega) rfl;have hT2:=hT.tell (m:=m) (by omega) (by unfold hAdd;rw [if_neg hne]);obtain ⟨e0,e1⟩:=zte (f:=f) (m:=id) (cl:=2) hc0 hc1 hid hd hl;obtain ⟨o,s1,s2,s3⟩:=zdp (putT (prS f id done out u) r (id:Int),l) (prgM r);have hp:=px_send (putT (prS f id done out u) r (id:Int),l) (prgM r);have e2:putT (prS f id done out u) r (id:Int)=prS f id (done++[tellT f id 0 (newTd r)]) out u:=by rw [zsh,e1]
 simp only at hp;rw [e2] at s1 s3 hp;obtain ⟨L2,hL2⟩: ∃L2,L2=(sendS (prS f id (done++[tellT f id 0 (newTd r)]) out u,l) (prgM r)).2:=⟨_,rfl⟩;rw [←hL2] at s1 s3 hp;have s1':sendS (prS f id (done++[tellT f id 0 (newTd r)]) out u,l) (prgM r)=(prS f id (done++[tellT f id 0 (newTd r)]) (out++o) u,L2):=s1;refine ⟨_,o,L2,?_,hT2,?_,hp,s3⟩
 ·rw [req_go (q:=(prS f id (done++[tellT f id 0 (newTd r)]) (out++o) u,L2)) hs ht (zkx hd _) (.inr e0) (by
   rw [zkx hd,if_neg (by simp),e2];exact s1')]
  simp only;rw [zsh,zia (cl:=2) hT hc0 hc1 hm hd]
 ·have:(prS f id done out u).c.f=f:=rfl
  have h4:(putT (prS f id done out u) r (id:Int)).c.f=f:=rfl;rw [h4] at s2;omega
theorem req_next (H:TdN f r h n t) (hs:rqSealed l 2 r=true) (ht:1≤r.time) (hc0:0≤r.client) (hc1:r.client<2) (hf:f≤4) (hid:id≤3*f) (hm:m≤3*f) (h1:h id=true) (h2:h m=false) (hd: ∀t∈done,cmpRq t.r r<0):
  ∃t',zbw (prgW r m) (prS f id (done++[t]) out u,l)=(0,(prS f id (done++[t']) out u,l))∧TdN f r (hAdd h m) (n+1) t':=by
 refine ⟨_,?_,H.tell (m:=m) (by omega) h2⟩;have hi:zcl (done++[t]) r (id:Int)=true:=by rw [zh9 H hd (by omega)];exact h1
 rw [req_go (q:=(prS f id (done++[t]) out u,l)) hs ht (by rw [zh9 H hd (by omega)];exact h2) (.inl hi) (by rw [hi,if_pos rfl])];rw [zsh,zia (cl:=2) H hc0 hc1 hm hd]
end
theorem two_len: ∀(rs:List Rq),rs.length≤2→(listB reqB rs).length≤78
 | [], _ => by have : (listB reqB ([] : List Rq)).length = 1 := by decide
               omega
 | [a],_=>by have:=one_len a;omega
 | [a,b],_=>by
  have h1:=rq_len a;have h2:=rq_len b;have:=zdn ((([a,b]:List Rq).length:Nat):Int);unfold listB;simp only [List.length_append,List.flatMap_cons,List.flatMap_nil,List.append_nil];omega
 | _::_::_::_,h=>by simp at h
theorem zpz (kind view inst seq k:Int) (rs:List Rq) (h:rs.length≤2):(msB (crtM kind view inst seq rs k)).length≤65530:=by
 have n1:=zdn kind;have n2:=zdn view;have n3:=zdn inst;have n4:=zdn seq;have n5:=zdn k;have n6:=zs4 0;have n7:=two_len rs h;have q1:(listB vtB ([]:Vs)).length=1:=by decide
 have q2:(listB certB ([]:List Cp)).length=1:=by decide
 have q3:(listB partB ([]:List Pa)).length=1:=by decide
 unfold msB crtM;simp only [List.length_append];rw [q1,q2,q3];omega
theorem zpy {kind inst seq k:Int} {rs:List Rq} (hr: ∀r∈rs,reqW r=true) (hl:rs.length≤2) (h1:0≤kind) (h2:kind≤100) (i0:0≤inst) (i1:inst≤100) (s0:0≤seq) (s1:seq≤100) (k0:0≤k) (k1:k≤100):bodyP (crtM kind 0 inst seq rs k)=some (msB (crtM kind 0 inst seq rs k)):=by
 have a:=zgy h1 (by omega);have b:=zgy (n:=0) (by omega) (by omega);have c:=zgy i0 (by omega);have d:=zgy s0 (by omega);have e:=zgy k0 (by omega);have g:sgnOk 0=true:=by decide
 have hall:rs.all reqW=true:=List.all_eq_true.2 hr;have w:msW (crtM kind 0 inst seq rs k)=true:=by
  unfold msW crtM;simp only [a,b,c,d,e,g,listW,hall,List.all_nil,List.length_nil,decide_eq_true (show rs.length≤256 by omega)];rfl
 have hlen:=zpz kind 0 inst seq k rs hl;unfold bodyP;rw [w,if_pos (by simp;omega)]
theorem zt5 {f:Nat} {cl kind inst k:Int} {rs:List Rq} (hq: ∀r∈rs,okReq r cl=true) (hl:1≤rs.length∧rs.length≤2) (hk:kind=3∨kind=4∨kind=5) (k0:0≤k) (k1:k≤3*f) (i0:0≤inst) (i1:inst≤f) (h3:kind=3→k=inst):formP f cl (crtM kind 0 inst 1 rs k)=true:=by
 have hb:allR rs.length (fun j=>okReq (reqAt rs j) cl)=true:=zc8 (fun j hj=>by
  unfold reqAt;rw [List.getD_eq_getElem?_getD,List.getElem?_eq_getElem hj];exact hq _ (List.getElem_mem hj))
 have l0:(0:Int)≤(rs.length:Int):=by omega
 have l1:(1:Int)≤(rs.length:Int):=by omega
 have l2:(rs.length:Int)≤4:=by omega
 rcases hk with rfl | rfl | rfl
 ·obtain rfl:=h3 rfl
  have hp:zak f 0 k=k:=by
   unfold zak;rw [if_pos (by omega),Int.zero_add];exact Int.emod_eq_of_lt k0 (by omega)
  unfold formP crtM formK zbr inW bareP zcj zbh inW;simp [hb,hp,k0,k1,i1,l1,l2]
 ·unfold formP crtM formK zbr inW bareP zcj zbh inW
  simp [hb,k0,k1,i0,i1,l0,l2]
 ·unfold formP crtM formK zbr inW bareP zcj zbh inW
  simp [hb,k0,k1,i0,i1,l0,l2]
theorem bat_go {s:Ns} {l:Nt} {kind inst:Int} {rs:List Rq} (hn:l.length≤1000000000) (hf:s.c.f≤4) (h0:0≤s.id) (h1:s.id≤3*s.c.f) (i0:0≤inst) (i1:inst≤s.c.f) (hq: ∀r∈rs,RqGood s.c.cl r) (hl:1≤rs.length∧rs.length≤2) (hk:kind=3∨kind=4∨kind=5) (h3:kind=3→s.id=inst):
  ∃(b:Bys) (l':Nt) (sl:Int),sendS (s,l) (balM' kind 0 inst 1 rs)=({s with out:=s.out++(zaz (3*s.c.f+1) s.id).map fun k=>(k,b)},l')∧Px l l'∧l'.length≤l.length+1∧openP l' s.c.f s.c.cl b=some (crtM kind 0 inst 1 rs s.id,sl):=by
 have hm:zjr (balM' kind 0 inst 1 rs) s.id=crtM kind 0 inst 1 rs s.id:=rfl;have hb:=zpy (kind:=kind) (inst:=inst) (seq:=1) (k:=s.id) (fun r hr=>(hq r hr).w) hl.2 (by omega) (by omega) i0 (by omega) (by omega) (by omega) h0 (by omega);obtain ⟨B,hB⟩: ∃B,B=msB (crtM kind 0 inst 1 rs s.id):=⟨_,rfl⟩;have hl2:B.length≤65530:=by rw [hB];exact zpz _ _ _ _ _ _ hl.2
 rw [←hB] at hb;have ho:=znh (l:=l) (f:=s.c.f) (cl:=s.c.cl) (m:=crtM kind 0 inst 1 rs s.id) hb hl2 hn;rw [zt5 (fun r hr=>(hq r hr).ok) hl hk h0 h1 i0 i1 h3,if_pos rfl] at ho;have hg:=zqw hn s.id hl2;have hs:sealP l (crtM kind 0 inst 1 rs s.id)=(some (givE l s.id B),sealL l s.id B):=by
  unfold sealP;rw [hb];simp only;have e:envP (sealN l (crtM kind 0 inst 1 rs s.id).fm B) B=some (numB (sealN l s.id B)++B):=by
   unfold envP;have h8:=zjf hn s.id B;have h9:=zdn (sealN l s.id B);rw [if_pos]
   ·rfl
   ·simp only [Bool.and_eq_true,decide_eq_true_eq]
    exact ⟨h8,by show (numB (sealN l s.id B)).length+_≤_;omega⟩
  rw [e,hg];rfl
 refine ⟨givE l s.id B,sealL l s.id B,_,?_,znu _ _ _,(zge _ _ _).2,ho⟩;unfold sendS;simp only;rw [hm,hs]
def ordK (f:Nat) (n:Int) (p:Pl):In:=⟨f,n,4,0,true,p::List.replicate 15 (zbu f)⟩
def proP (f:Nat) (rs:List Rq):Pl:= {zbu f with sl:= {(zbu f).sl with has:=true,batch:=rs}}
section
variable {f:Nat} {n:Int} {p:Pl} {rs:List Rq}
theorem nextK:nextI (newI f n 4)=1:=by
 have h: ∀l:List Pl,l=List.replicate 16 (zbu f)→zdt l=0:=fun l hl=>ze3 l 0 (Nat.zero_le _) (fun j hj _=>by
  have hm:l[j]∈List.replicate 16 (zbu f):=by rw [←hl];exact List.getElem_mem hj
  have:l[j]=zbu f:=List.eq_of_mem_replicate hm;rw [this];rfl) (fun j _ e=>by omega)
 unfold nextI;rw [h (newI f n 4).l rfl]
theorem doneK:doneI (newI f n 4)=0:=rfl
theorem preK:preB (newI f n 4) 1=true:=by
 show (true&&decide ((1:Int)≤((doneI (newI f n 4):Nat):Int)+4)&& !(zbu f).sl.has)=true;rw [doneK];rfl
theorem usedK (r:Rq):usedI (newI f n 4) r=false:=by
 unfold usedI newI;rw [List.any_eq_false];intro p hp;rw [List.eq_of_mem_replicate hp];unfold usedP;have e:(zbu f).sl.has=false:=rfl;have e2:(zbu f).done=false:=rfl;rw [e,e2];simp
theorem pickK: ∀(l b:List Rq),b.length≤2→l.foldl (fun b r=>if (b.length:Int)<2∧ !usedI (newI f n 4) r then b++[r] else b) b=b++l.take (2-b.length)
 | [],b,_=>by simp
 | r::l,b,h=>by
  rw [List.foldl_cons];by_cases hb:b.length<2
  ·rw [if_pos (by rw [usedK];exact ⟨by omega,rfl⟩),pickK l (b++[r]) (by simp;omega)]
   have e:2-b.length=(2-(b++[r]).length)+1:=by simp;omega
   rw [e,List.take_succ_cons,List.append_assoc];rfl
  ·rw [if_neg (by omega),pickK l b h]
   have e:2-b.length=0:=by omega
   rw [e,List.take_zero,List.take_zero]
theorem picksK (l:List Rq):pickB (newI f n 4) 2 l=l.take 2:=by
 unfold pickB;rw [pickK l [] (by simp)];simp
theorem voteK {k:Nat} {sl:Int} (hk:k≤3*f) (hf:1≤f):prepI (voteI (ordK f n (proP f rs)) 4 1 (k:Int) sl rs) 1=none∧commI (voteI (ordK f n (proP f rs)) 4 1 (k:Int) sl rs) 1=none:=by
 have hV:VtL f rs (fun _=>false) 0 (proP f rs).sl.ps:=VtL.none f rs;have hC:VtL f rs (fun _=>false) 0 (proP f rs).sl.cs:=VtL.none f rs;have hc:zc9 (proP f rs).sl 4 (k:Int)=true:=by
  have h1:=hV.can (m:=k) hk;show openB (proP f rs).sl.ps (k:Int)=true;rw [h1];rfl
 have e:voteS (proP f rs).sl 4 (k:Int) sl rs= {(proP f rs).sl with ps:=(proP f rs).sl.ps.set k ⟨true,sl,rs⟩}:=by
  unfold voteS;rw [hc];rfl
 have hV2:=hV.put (sl:=sl) hk rfl;have hi:voteI (ordK f n (proP f rs)) 4 1 (k:Int) sl rs=ordK f n {proP f rs with sl:=voteS (proP f rs).sl 4 (k:Int) sl rs}:=rfl;rw [hi,e];constructor
 ·show (if (true&& !(proP f rs).told)=true then (zbj f {(proP f rs).sl with ps:=(proP f rs).sl.ps.set k ⟨true,sl,rs⟩}).map _ else none)=none
  have:zbj f {(proP f rs).sl with ps:=(proP f rs).sl.ps.set k ⟨true,sl,rs⟩}=none:=by
   unfold zbj;show (if true=true then zby ((proP f rs).sl.ps.set k ⟨true,sl,rs⟩) rs (2*f+1) else none)=none;rw [hV2.few (by omega)];rfl
  rw [this];rfl
 ·show (if (proP f rs).done then none else (zap f {(proP f rs).sl with ps:=(proP f rs).sl.ps.set k ⟨true,sl,rs⟩}).map _)=none
  have:=hC.comm (ps:=(proP f rs).sl.ps.set k ⟨true,sl,rs⟩) (hs:=true) (bt:=rs);have e2:zap f {(proP f rs).sl with ps:=(proP f rs).sl.ps.set k ⟨true,sl,rs⟩}=none:=by
   show zap f ⟨true,rs,(proP f rs).sl.ps.set k ⟨true,sl,rs⟩,(proP f rs).sl.cs⟩=none;rw [this,hC.few (by omega)];rfl
  rw [e2];rfl
end
def OnS (s:Ns):Prop:= ∀k,k<s.c.f+1→(insAt s k).on=true
section
variable {f id k:Nat} {u:Int} {rs:List Rq} {tab:List Td} {l:Nt} {p q:NSt}
theorem pp_ins (hk:k<f+1) {out:List (Int×Bys)}:insAt (prS f (id:Int) tab out u) k=newI f (k:Int) 4:=by
 have e:(newS (stdC f) (id:Int)).ins=(List.range (f+1)).map fun (k:Nat)=>newI f (k:Int) 4:=rfl;unfold insAt;show ((newS (stdC f) (id:Int)).ins).getD k noIn=_;rw [e,List.getD_eq_getElem?_getD,List.getElem?_eq_getElem (by simpa using hk)];simp
theorem zx5 (hk:k≤f):zak f 0 (k:Int)=(k:Int):=by
 unfold zak;rw [if_pos (by omega),Int.zero_add];exact Int.emod_eq_of_lt (by omega) (by omega)
theorem zfm (hc:p.1.c.f=f) (hv:p.1.view=0) (hi:p.1.id=(id:Int)) (hk:k≤f) (hne:k≠id):decide (zak p.1.c.f p.1.view k=p.1.id)=false:=by
 rw [hc,hv,hi,zx5 hk,decide_eq_false_iff_not];omega
theorem pr1_no (n:Nat) (h: ∀k,k<n→zaw p k=p):pr1 p n=p:=by
 induction n with
 | zero=>rfl
 | succ n ih=>rw [zi4,ih (fun k hk=>h k (by omega)),h n (by omega)]
theorem pr1_one {i n:Nat} (h1: ∀k,k<i→zaw p k=p) (h2:zaw p i=q) (h3: ∀k,i<k→k<i+1+n→zaw q k=q):pr1 p (i+1+n)=q:=by
 induction n with
 | zero=>rw [zi4,pr1_no i h1,h2]
 | succ n ih=>
  have e:i+1+(n+1)=(i+1+n)+1:=by omega
  rw [e,zi4,ih (fun k a b=>h3 k a (by omega)),h3 _ (by omega) (by omega)]
theorem pro_go (s:Ns) (hl2:l.length≤900000000) (hc:s.c=stdC f) (hv:s.view=0) (hi:s.id=(id:Int)) (ho:s.out=[]) (hin:insAt s id=newI f (id:Int) 4) (hlen:id<s.ins.length) (hf1:1≤f) (hf:f≤4) (hid:id≤f)
  (ht:zai s.tab=rs) (hne:rs≠[]) (hq: ∀r∈rs,RqGood 2 r) (hon:OnS s):
  ∃(q:NSt) (b3 b4:Bys) (sl3 sl4:Int),zaw (s,l) id=q∧zi7 id 1 (sendS (prMid (s,l) id (rs.take 2)) (balM' 3 0 id 1 (rs.take 2)))∧(q.1.c=s.c∧q.1.view=0∧q.1.id=(id:Int)∧q.1.tab=s.tab∧q.1.now=s.now∧q.1.start=s.start∧q.1.since=s.since∧q.1.mt=s.mt∧OnS q.1)∧q.1.out=((zaz (3*f+1) (id:Int)).map fun k=>(k,b3))++((zaz (3*f+1) (id:Int)).map fun k=>(k,b4))∧
   openP q.2 f 2 b3=some (crtM 3 0 id 1 (rs.take 2) id,sl3)∧openP q.2 f 2 b4=some (crtM 4 0 id 1 (rs.take 2) id,sl4)∧Px l q.2∧q.2.length≤l.length+2:=by
 obtain ⟨b,hb⟩: ∃b,b=rs.take 2:=⟨_,rfl⟩;have hbq: ∀r∈b,RqGood 2 r:=fun r hr=>hq r (List.mem_of_mem_take (by rw [hb] at hr;exact hr));have hb2:1≤b.length∧b.length≤2:=by
  have:0<rs.length:=List.length_pos_iff.2 hne;rw [hb,List.length_take];omega
 rw [←hb];have hpk:pickB (insAt s id) s.c.bt (zai s.tab)=b:=by
  rw [hin,hc,ht,hb];exact picksK rs
 have hnx:((nextI (insAt s id):Nat):Int)=1:=by rw [hin,nextK];rfl
 have hpr:zaw (s,l) id=zcz id 1 (sendS (prMid (s,l) id b) (balM' 3 0 id 1 b)):=by
  have e:=pr_is (p:=(s,l)) (k:=id) (hon id (by rw [hc];show id<f+1;omega)) (by
   simp only;rw [hc,hv,hi];show decide (zak f 0 (id:Int)=(id:Int))=true;rw [zx5 hid];simp) (by simp only;rw [hnx];decide) (by
   simp only;rw [hnx,hin,doneK,hc];show decide (((0:Nat):Int)+4<1)=false;decide)
  simp only at e;rw [e,hpk,hnx,hv];rw [if_neg];rw [hin,preK];cases hbb:b with
  | nil=>rw [hbb] at hb2;simp at hb2
  | cons a t=>simp
 obtain ⟨s1,hs1⟩: ∃s1,s1=(prMid (s,l) id b).1:=⟨_,rfl⟩;have hm:prMid (s,l) id b=(s1,l):=by rw [hs1];rfl
 have g1:insAt s1 id=ordK f id (proP f b):=by
  rw [hs1];show (s.ins.set id (preI (insAt s id) (nextI (insAt s id)) b)).getD id noIn=_;rw [List.getD_eq_getElem?_getD,List.getElem?_set_self hlen,hin];rfl
 have g2:s1.c=stdC f:=by rw [hs1];exact hc
 have g3:s1.view=0:=by rw [hs1];exact hv
 have g4:s1.id=(id:Int):=by rw [hs1];exact hi
 have g5:s1.out=[]:=by rw [hs1];exact ho
 have g6:s1.ins.length=s.ins.length:=by rw [hs1];exact List.length_set ..
 have gon: ∀j,j<f+1→j≠id→(insAt s1 j).on=true:=fun j hj hne=>by
  have:=hon j (by rw [hc];exact hj);rw [hs1];show ((s.ins.set id (preI (insAt s id) (nextI (insAt s id)) b)).getD j noIn).on=true;rw [List.getD_eq_getElem?_getD,List.getElem?_set_ne (fun e=>hne e.symm),←List.getD_eq_getElem?_getD];exact this
 have g7:s1.tab=s.tab∧s1.now=s.now∧s1.start=s.start∧s1.since=s.since∧s1.mt=s.mt:=by rw [hs1];exact ⟨rfl,rfl,rfl,rfl,rfl⟩
 rw [hm] at hpr⊢;clear hs1;obtain ⟨b3,l1,sl3,e1,e2,e3,e4⟩:=bat_go (s:=s1) (l:=l) (kind:=3) (inst:=(id:Int)) (rs:=b) (by omega) (by rw [g2];exact hf) (by rw [g4];omega) (by rw [g4,g2];show (id:Int)≤3*f;omega) (by omega) (by rw [g2];show (id:Int)≤f;omega) (by rw [g2];exact hbq) hb2 (.inl rfl) (fun _=>g4);rw [e1] at hpr⊢;obtain ⟨s2,hs2⟩: ∃s2:Ns,s2= {s1 with out:=s1.out++(zaz (3*s1.c.f+1) s1.id).map fun k=>(k,b3)}:=⟨_,rfl⟩;rw [←hs2] at hpr⊢;obtain ⟨b4,l2,sl4,f1,f2,f3,f4⟩:=bat_go (s:=s2) (l:=l1) (kind:=4) (inst:=(id:Int)) (rs:=b) (by omega) (by rw [hs2];show s1.c.f≤4;rw [g2];exact hf) (by rw [hs2];show 0≤s1.id;rw [g4];omega) (by rw [hs2];show s1.id≤3*s1.c.f;rw [g4,g2];show (id:Int)≤3*f;omega) (by omega) (by rw [hs2];show (id:Int)≤s1.c.f;rw [g2];show (id:Int)≤f;omega) (by rw [hs2];show∀r∈b,RqGood s1.c.cl r;rw [g2];exact hbq) hb2 (.inr (.inl rfl)) (fun h=>by omega);have hi2:insAt s2 id=ordK f id (proP f b):=by rw [hs2];exact g1
 obtain ⟨s4,hs4⟩: ∃s4:Ns,s4= {s2 with out:=s2.out++(zaz (3*s2.c.f+1) s2.id).map fun k=>(k,b4)}:=⟨_,rfl⟩;rw [←hs4] at f1;have ha:insAt s4 id=ordK f id (proP f b):=by rw [hs4];exact hi2
 have hid4:s4.id=(id:Int):=by rw [hs4,hs2];exact g4
 have hv2:s2.view=0:=by rw [hs2];exact g3
 have hbal:zch 4 id 1 b (s2,l1)=(zbp s4 id (voteI (ordK f id (proP f b)) 4 1 (id:Int) (sendN (s2,l1) (balM' 4 0 id 1 b)) b),l2):=by
  unfold zch;simp only;rw [hv2,f1];simp only;rw [ha,hid4]
 obtain ⟨sv,hsv⟩: ∃sv,sv=sendN (s2,l1) (balM' 4 0 id 1 b):=⟨_,rfl⟩;rw [←hsv] at hbal;obtain ⟨hp0,hc0⟩:=voteK (f:=f) (n:=(id:Int)) (rs:=b) (k:=id) (sl:=sv) (by omega) hf1;obtain ⟨s3,hs3⟩: ∃s3,s3=zbp s4 id (voteI (ordK f id (proP f b)) 4 1 (id:Int) sv b):=⟨_,rfl⟩;rw [←hs3] at hbal;have hlen2:id<s4.ins.length:=by rw [hs4,hs2];show id<s1.ins.length;omega
 have hi3:insAt s3 id=voteI (ordK f id (proP f b)) 4 1 (id:Int) sv b:=by
  rw [hs3];show (s4.ins.set id _).getD id noIn=_;rw [List.getD_eq_getElem?_getD,List.getElem?_set_self hlen2];rfl
 have hlk:look1 id 1 (s3,l2)=(s3,l2):=by
  unfold look1;simp only;rw [hi3,hp0]
 have hch:(zbl (insAt s2 id) 1).1=b:=by rw [hi2];rfl
 have hacc:zcz id 1 (s2,l1)=(s3,l2):=by
  unfold zcz;simp only;rw [hch,hbal];unfold lookS;simp only;rw [hi3,hp0];simp only;rw [hi3,hc0]
 have hqA:zi7 id 1 (s2,l1):=by
  unfold zi7;simp only;rw [hch,hbal,hlk];simp only;rw [hi3,hc0]
 refine ⟨(s3,l2),b3,b4,sl3,sl4,by rw [hpr,hacc],hqA,?_,?_,?_,?_,e2.trans f2,by simp only;omega⟩
 ·rw [hs3,hs4,hs2]
  refine ⟨g2.trans hc.symm,g3,g4,g7.1,g7.2.1,g7.2.2.1,g7.2.2.2.1,g7.2.2.2.2,fun j hj=> ?_⟩;have hj2:j<f+1:=by have:j<s1.c.f+1:=hj;rw [g2] at this;exact this
  by_cases hne:j=id
  ·subst hne
   show ((s1.ins.set j _).getD j noIn).on=true;rw [List.getD_eq_getElem?_getD,List.getElem?_set_self (by omega)];rfl
  ·have:=gon j hj2 hne
   show ((s1.ins.set id _).getD j noIn).on=true;rw [List.getD_eq_getElem?_getD,List.getElem?_set_ne (fun e=>hne e.symm),←List.getD_eq_getElem?_getD];exact this
 ·rw [hs3,hs4,hs2]
  show (s1.out++(zaz (3*s1.c.f+1) s1.id).map fun k=>(k,b3))++(zaz (3*s1.c.f+1) s1.id).map (fun k=>(k,b4))=_;rw [g5,g2,g4,List.nil_append];rfl
 ·have e4':openP l1 f 2 b3=some (crtM 3 0 id 1 b id,sl3):=by rw [g2,g4] at e4;exact e4
  exact zrx e4' f2
 ·have f4':openP l2 s1.c.f s1.c.cl b4=some (crtM 4 0 id 1 b s1.id,sl4):=by rw [hs2] at f4;exact f4
  rw [g2,g4] at f4';exact f4'
theorem since0 (h: ∀t∈tab,t.since=0) (r:Rq):(za8 tab r).getD 0=0:=by
 unfold za8;cases e:tab[tabK tab r]? with
 | none=>rfl
 | some t=>
  simp only;split
  ·exact h t (List.mem_of_getElem? e)
  ·rfl
theorem zn8 (s:Ns) (hc:s.c=stdC f) (hf1:1≤f) (hf:f≤4) (hn:s.now=1) (hst:s.start=0) (hsi:s.since=0) (hm:s.mt=List.replicate (f+1) (0,0)) (ht: ∀t∈s.tab,t.since=0) (hon:OnS s):
  tick2 (s,l)=(s,l)∧tick3 (s,l)=(s,l)∧tick4 (s,l)=(s,l)∧zk6 (s,l)=(s,l)∧(insAt s 0).on=true∧oldP s=false∧zcu s.c s.mt=false:=by
 have h0:=hon 0 (by omega);have h1:oldP s=false:=by
  unfold oldP;rw [List.any_eq_false];intro r _;rw [since0 ht r,hn,hsi,hc];show¬decide ((12:Int)<1-max 0 0)=true;decide
 have h2:zcu s.c s.mt=false:=by
  rw [hc,hm];have:f=1∨f=2∨f=3∨f=4:=by omega
  rcases this with rfl | rfl | rfl | rfl<;>decide
 refine ⟨?_,?_,?_,?_,h0,h1,h2⟩
 ·rw [ztj,hn,hc,if_neg (by show¬(1:Int)%2=0;decide)]
 ·rw [ztk,h0,if_neg (by simp)]
 ·rw [ztl,h1,Bool.and_false,if_neg (by simp)]
 ·exact if_pos (by simp only;rw [hn,hst,hc];show (1:Int)<0+8;decide)
end
end Go.Proofs.YtannckelmojkoaaGreat
