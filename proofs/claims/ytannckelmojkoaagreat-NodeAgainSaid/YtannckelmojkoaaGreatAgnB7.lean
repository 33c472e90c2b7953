/- Parts of the proof, one behind the other. -/
import Derived.Test.YtannckelmojkoaaGreatAgnB6
set_option maxHeartbeats 32000000
set_option maxRecDepth 100000
set_option linter.unusedVariables false
set_option linter.unusedSimpArgs false
namespace Go.Proofs.YtannckelmojkoaaGreat
open Go.RowKit Go.Heap
abbrev rqBox (r:Rq):Obj:= .cells #[.int .i64 r.client,.int .i64 r.time,.int .i64 r.kind,.int .i64 r.key,.int .i64 r.val,.int .i64 r.sl] 38 (0,0)
theorem zm4 {w:World} {b:Nat} {r:Rq} (h:w.heap[b]?=some (rqBox r)):w.cell? ⟨b,0,none⟩=some (.int .i64 r.client)∧w.cell? ⟨b,1,none⟩=some (.int .i64 r.time)∧w.cell? ⟨b,2,none⟩=some (.int .i64 r.kind)∧
  w.cell? ⟨b,3,none⟩=some (.int .i64 r.key)∧w.cell? ⟨b,4,none⟩=some (.int .i64 r.val)∧w.cell? ⟨b,5,none⟩=some (.int .i64 r.sl):=
 ⟨by rw [zab h];rfl,by rw [zab h];rfl,by rw [zab h];rfl,by rw [zab h];rfl,by rw [zab h];rfl,by rw [zab h];rfl⟩
def NoneIn (r:Rq) (l:List Rq) (k:Nat):Prop:= ∀j (hj:j<l.length),j<k→l[j]≠r
theorem zr5 (v:Value) (l:List Rq) (r:Rq) (w:World) (hn:l.length≤100000) (h:Bat w v l):
  Calls Tryz.prog 216 #[v,.agg #[.int .i64 r.client,.int .i64 r.time,.int .i64 r.kind,.int .i64 r.key,.int .i64 r.val,.int .i64 r.sl]] w fun e w'=>e= .returned (.bool (decide (r∈l)))∧Upd [] w w':=by
 obtain ⟨ao,cap,rfl,h1,h2,h3,h4,h5⟩:=h;clear h1 h2 h3 h4;have H5:=zq h5;clear h5;have H0:=zq ((Own.start (Below.refl w.heap.size w) (Nat.le_refl _)).box (rqBox r));go_enter Tryz.func216,Tryz.ntmps216
 go_wp2_with fail
 go_loopw [9] (fun i wr=> ∃k:Nat,k≤l.length∧i= .int .i64 k∧Hid (NoneIn r l k)∧Hid (Own w.heap.size w wr [blk w.heap.size (rqBox r)])) (fun i _=>l.length-(intOf i).toNat)
 case atStart=>exact ⟨0,by omega,rfl,zq (by intro j _ hj;omega),H0⟩
 case round=>
  clear H0;obtain ⟨k,hk,rfl,HN,H1⟩:=hrel;by_cases hlt:k<l.length
  ·have hkI:(k:Int)<(l.length:Int):=by omega
   obtain ⟨b,o,rfl,hbs,hc⟩:=H5.out (by omega);obtain ⟨q0,q1,q2,q3,q4,q5⟩:=zb8 (zdc H1.out.below hbs hc) k l[k] (by simp);clear hc;have hbx:=H1.out.blk_out;obtain ⟨p0,p1,p2,p3,p4,p5⟩:=zm4 hbx;have hlb:=block_lt hbx;have hz:=H1.out.below.size;clear hbx;have H2:=zq (H1.out.alloc (rqBox l[k]));by_cases he:l[k]=r
   ·have heq: ∀wx,(Op.equalIn 10000 38 (rqAgg l[k]) (rqAgg r)).run Tryz.prog wx= .ok true wx:=fun wx=>by rw [zcx];simp [he]
    have HE:=zq he;clear he;unfold rqAgg at heq;have hgd:=Tryz.guardReq
    go_wp2_with fail
    go_ret
    refine ⟨zad ?_,Upd.of_below H2.out.below⟩;symm;rw [decide_eq_true_iff,←HE.out];exact List.getElem_mem hlt
   ·have heq: ∀wx,(Op.equalIn 10000 38 (rqAgg l[k]) (rqAgg r)).run Tryz.prog wx= .ok false wx:=fun wx=>by rw [zcx];simp [he]
    have HE:=zq he;clear he;unfold rqAgg at heq;have hgd:=Tryz.guardReq
    go_wp2_with fail
    go_roundw
    case rel=>
     refine ⟨k+1,by omega,by go_num,zq (fun j hj hjk=> ?_),H2⟩;by_cases e:j=k
     ·subst e;exact HE.out
     ·exact HN.out j hj (by omega)
    case measure=>simp [intOf];omega
  ·have hkl:k=l.length:=by omega
   subst hkl;have hkI: ¬(l.length:Int)<(l.length:Int):=by omega
   go_wp2_with fail
   go_ret
   refine ⟨zad ?_,Upd.of_below H1.out.below⟩;symm;rw [decide_eq_false_iff_not];intro hm;obtain ⟨j,hj,e⟩:=List.getElem_of_mem hm;exact HN.out j hj hj e
def NoneP (r:Rq) (l:List Pm) (k:Nat):Prop:= ∀j (hj:j<l.length),j<k→usedP r l[j].pl=false
section
variable {B:Nat} {w0 W W':World} {ss rs:List Res}
theorem oi_row {x:Ins} (h:OwnI B w0 W x ss) (k:Nat) (hk:k<x.l.length):W.cell? ⟨x.b,k*14,none⟩=some x.l[k].lc.ptr∧W.cell? ⟨x.b,k*14+1,none⟩=some (.bool x.l[k].told)∧W.cell? ⟨x.b,k*14+2,none⟩=some (.bool x.l[k].has)∧
  W.cell? ⟨x.b,k*14+3,none⟩=some (.int .i64 x.l[k].ct.view)∧W.cell? ⟨x.b,k*14+4,none⟩=some (.int .i64 x.l[k].ct.inst)∧W.cell? ⟨x.b,k*14+5,none⟩=some (.int .i64 x.l[k].ct.seq)∧W.cell? ⟨x.b,k*14+6,none⟩=some x.l[k].ct.vb∧W.cell? ⟨x.b,k*14+7,none⟩=some x.l[k].ct.vv∧
  W.cell? ⟨x.b,k*14+8,none⟩=some (.bool x.l[k].done)∧W.cell? ⟨x.b,k*14+9,none⟩=some (.int .i64 x.l[k].dw.view)∧W.cell? ⟨x.b,k*14+10,none⟩=some (.int .i64 x.l[k].dw.inst)∧W.cell? ⟨x.b,k*14+11,none⟩=some (.int .i64 x.l[k].dw.seq)∧W.cell? ⟨x.b,k*14+12,none⟩=some x.l[k].dw.vb∧W.cell? ⟨x.b,k*14+13,none⟩=some x.l[k].dw.vv:=
 ⟨oi_at h k hk 0 (by omega),oi_at h k hk 1 (by omega),oi_at h k hk 2 (by omega),oi_at h k hk 3 (by omega),oi_at h k hk 4 (by omega),oi_at h k hk 5 (by omega),oi_at h k hk 6 (by omega),oi_at h k hk 7 (by omega),oi_at h k hk 8 (by omega),oi_at h k hk 9 (by omega),oi_at h k hk 10 (by omega),oi_at h k hk 11 (by omega),oi_at h k hk 12 (by omega),oi_at h k hk 13 (by omega)⟩
theorem zz1 {x:Ins} (h:OwnI B w0 W x ss) (k:Nat) (hk:k<x.l.length): ∃a1 c1 a2 c2 a3 c3 a4 c4,x.l[k].ct.vb= .slice a1 x.l[k].ct.rs.length c1∧x.l[k].ct.vv= .slice a2 x.l[k].ct.vs.length c2∧x.l[k].dw.vb= .slice a3 x.l[k].dw.rs.length c3∧x.l[k].dw.vv= .slice a4 x.l[k].dw.vs.length c4:=by
 obtain ⟨⟨h1,h2,_⟩,h3,h4,_⟩:=zhc h k hk;obtain ⟨a1,c1,e1⟩:=zb9 h1;obtain ⟨a2,c2,e2⟩:=zds h2;obtain ⟨a3,c3,e3⟩:=zb9 h3;obtain ⟨a4,c4,e4⟩:=zds h4;exact ⟨a1,c1,a2,c2,a3,c3,a4,c4,e1,e2,e3,e4⟩
theorem zu7 {x:Ins} {r:Rq} {k:Nat} (hk:k<x.l.length) (h:usedP r x.l[k].pl=true):usedI x.st r=true:=by
 simp only [usedI,Ins.st,List.any_map,List.any_eq_true];exact ⟨x.l[k],by simp,h⟩
theorem zzs {x:Ins} {r:Rq} (hn:x.l.length=16) (h:NoneP r x.l 16):usedI x.st r=false:=by
 simp only [usedI,Ins.st,List.any_map,List.any_eq_false];intro p hp;obtain ⟨j,hj,rfl⟩:=List.getElem_of_mem hp
 simpa using h j hj (by omega)
theorem ai_used {i:Nat} {st:In} (h:AtI B w0 W i st ss) (r:Rq):Calls Tryz.prog 158 #[.pointer (some ⟨i,0,none⟩),.agg #[.int .i64 r.client,.int .i64 r.time,.int .i64 r.kind,.int .i64 r.key,.int .i64 r.val,.int .i64 r.sl]] W fun e w'=>e= .returned (.bool (usedI st r))∧Upd [] W w':=by
 obtain ⟨x,rfl,rfl,h3⟩:=h;have h0:=zdh (h3.box (rqBox r)).swap;have hu0:Upd [] W (W.alloc (rqBox r)):=(Upd.refl _ _).alloc _;have H0:=zq h0;have HU0:=zq hu0;have HN:=zq (oi_ok h0).n;obtain ⟨-,-,-,-,-,c5,l1,l2⟩:=zc1 h0;clear h3 h0 hu0;go_enter Tryz.func158,Tryz.ntmps158
 go_wp2_with fail
 generalize W.alloc (rqBox r)=w1 at*
 go_loopw [14] (fun n wr=> ∃k:Nat,k≤16∧n= .int .i64 k∧Hid (NoneP r x.l k)∧Hid (Upd [] w1 wr)) (fun n _=>16-(intOf n).toNat)
 case atStart=>exact ⟨0,by omega,rfl,zq (by intro j _ hj;omega),zq (Upd.refl _ _)⟩
 case round=>
  clear c5;obtain ⟨k,hk,rfl,HA,HU⟩:=hrel;by_cases hlt:k<16
  ·have hkI:(k:Int)<16:=by omega
   have hl:k<x.l.length:=by rw [HN.out];exact hlt
   have h1:=Own.upd0 H0.out HU.out;obtain ⟨a1,e1,a2,e2,a3,e3,a4,e4,s1,s2,s3,s4⟩:=zz1 h1 k hl;obtain ⟨g0,g1,g2,g3,g4,g5,g6,g7,g8,g9,g10,g11,g12,g13⟩:=oi_row h1 k hl;rw [s1] at g6;rw [s2] at g7;rw [s3] at g12;rw [s4] at g13;have hdl:=(zhc h1 k hl).2.2.2.1;have S3:=zq s3;have HC:=zq (zfc (zef (Own.alloc h1 (.cells #[x.l[k].lc.ptr,.bool x.l[k].told,.bool x.l[k].has,.int .i64 x.l[k].ct.view,.int .i64 x.l[k].ct.inst,.int .i64 x.l[k].ct.seq,.slice a1 x.l[k].ct.rs.length e1,.slice a2 x.l[k].ct.vs.length e2,.bool x.l[k].done,.int .i64 x.l[k].dw.view,.int .i64 x.l[k].dw.inst,.int .i64 x.l[k].dw.seq,.slice a3 x.l[k].dw.rs.length e3,.slice a4 x.l[k].dw.vs.length e4] 241 (0,0))) k hl));have HBX:=zq ((zcm (Own.alloc h1 (.cells #[x.l[k].lc.ptr,.bool x.l[k].told,.bool x.l[k].has,.int .i64 x.l[k].ct.view,.int .i64 x.l[k].ct.inst,.int .i64 x.l[k].ct.seq,.slice a1 x.l[k].ct.rs.length e1,.slice a2 x.l[k].ct.vs.length e2,.bool x.l[k].done,.int .i64 x.l[k].dw.view,.int .i64 x.l[k].dw.inst,.int .i64 x.l[k].dw.seq,.slice a3 x.l[k].dw.rs.length e3,.slice a4 x.l[k].dw.vs.length e4] 241 (0,0)))).drop.blk_out);have HPX:=zq (heap_alloc_new wr (.cells #[x.l[k].lc.ptr,.bool x.l[k].told,.bool x.l[k].has,.int .i64 x.l[k].ct.view,.int .i64 x.l[k].ct.inst,.int .i64 x.l[k].ct.seq,.slice a1 x.l[k].ct.rs.length e1,.slice a2 x.l[k].ct.vs.length e2,.bool x.l[k].done,.int .i64 x.l[k].dw.view,.int .i64 x.l[k].dw.inst,.int .i64 x.l[k].dw.seq,.slice a3 x.l[k].dw.rs.length e3,.slice a4 x.l[k].dw.vs.length e4] 241 (0,0)));have HUA:=zq (HU.out.alloc (.cells #[x.l[k].lc.ptr,.bool x.l[k].told,.bool x.l[k].has,.int .i64 x.l[k].ct.view,.int .i64 x.l[k].ct.inst,.int .i64 x.l[k].ct.seq,.slice a1 x.l[k].ct.rs.length e1,.slice a2 x.l[k].ct.vs.length e2,.bool x.l[k].done,.int .i64 x.l[k].dw.view,.int .i64 x.l[k].dw.inst,.int .i64 x.l[k].dw.seq,.slice a3 x.l[k].dw.rs.length e3,.slice a4 x.l[k].dw.vs.length e4] 241 (0,0)));have HSM:=zq (zji (zef h1 k hl)).1;clear h1 s1 s2 s3 s4
   go_wp2_with fail
   generalize wr.alloc (.cells #[x.l[k].lc.ptr,.bool x.l[k].told,.bool x.l[k].has,.int .i64 x.l[k].ct.view,.int .i64 x.l[k].ct.inst,.int .i64 x.l[k].ct.seq,.slice a1 x.l[k].ct.rs.length e1,.slice a2 x.l[k].ct.vs.length e2,.bool x.l[k].done,.int .i64 x.l[k].dw.view,.int .i64 x.l[k].dw.inst,.int .i64 x.l[k].dw.seq,.slice a3 x.l[k].dw.rs.length e3,.slice a4 x.l[k].dw.vs.length e4] 241 (0,0))=w2 at*;clear g0 g1 g2 g3 g4 g5 g6 g7 g8 g9 g10 g11 g12 g13;refine HC.out.mono ?_;rintro e w3 ⟨u,rfl,hu3,hb3,-⟩;have HU3:=zq (HUA.out.trans hu3);have HB3:=zq hb3;have lb:=block_lt HBX.out;have lp:=block_lt HPX.out;have hbx:=(hu3.block _ lb (by simp)).trans HBX.out;have hpx:=(hu3.block _ lp (by simp)).trans HPX.out;obtain ⟨p0,p1,p2,p3,p4,p5⟩:=zm4 hbx;have HBX3:=zq hbx;have HPX3:=zq hpx;have d8:w3.cell? ⟨wr.heap.size,8,none⟩=some (.bool x.l[k].done):=by rw [zab hpx];rfl
   have d12:w3.cell? ⟨wr.heap.size,12,none⟩=some (.slice a3 x.l[k].dw.rs.length e3):=by rw [zab hpx];rfl
   have hsm:(zbj x.l[k].sl).length≤100000:=by unfold zbj;split;exact HSM.out;simp
   clear hu3 hb3 HC HBX HPX HUA hbx hpx lb lp;generalize wr.heap.size=bx at*;cases hh:x.l[k].sl.has
   ·have HHS:=zq hh
    clear hh;cases hd:x.l[k].done
    ·rw [hd] at d8
     have HDN:=zq hd;clear hd
     go_wp2_with fail
     go_roundw
     case rel=>
      refine ⟨k+1,by omega,by go_num,zq (fun j hj hjk=> ?_),HU3⟩;by_cases e:j=k
      ·subst e;simp only [usedP,Pm.pl,Ct.cp];rw [HHS.out,HDN.out];simp_all
      ·exact HA.out j hj (by omega)
     case measure=>simp [intOf];omega
    ·rw [hd] at d8
     have HDN:=zq hd;clear hd;have HB3:=zq ((zhc (Own.upd0 H0.out HU3.out) k hl).2.1)
     go_wp2_with fail
     refine (zr5 _ x.l[k].dw.rs r _ hdl (by rw [←S3.out];exact HB3.out)).mono ?_;rintro e w4 ⟨rfl,hu4⟩;have HU4:=zq (HU3.out.trans hu4);clear hu4;cases hq:decide (r∈x.l[k].dw.rs)
     ·have HQ2:=hq
      go_wp2_with fail
      go_roundw
      case rel=>
       refine ⟨k+1,by omega,by go_num,zq (fun j hj hjk=> ?_),HU4⟩;by_cases e:j=k
       ·subst e;simp only [usedP,Pm.pl,Ct.cp];rw [HHS.out,HDN.out];simp_all
       ·exact HA.out j hj (by omega)
      case measure=>simp [intOf];omega
     ·have HQ2:=hq
      go_wp2_with fail
      go_ret
      refine ⟨zad ?_,HU0.out.trans HU4.out⟩;symm;exact zu7 (x:=x) hl (by simp only [usedP,Pm.pl,Ct.cp];rw [HHS.out,HDN.out];simp_all)
   ·have HHS:=zq hh
    clear hh
    go_wp2_with fail
    refine (zr5 _ (zbj x.l[k].sl) r _ hsm HB3.out).mono ?_;rintro e w5 ⟨rfl,hu5⟩;have HU5:=zq (HU3.out.trans hu5);have hbx:=(hu5.block _ (block_lt HBX3.out) (by simp)).trans HBX3.out;have hpx:=(hu5.block _ (block_lt HPX3.out) (by simp)).trans HPX3.out;clear p0 p1 p2 p3 p4 p5 d8 d12 hu5;obtain ⟨p0,p1,p2,p3,p4,p5⟩:=zm4 hbx;have d8:w5.cell? ⟨bx,8,none⟩=some (.bool x.l[k].done):=by rw [zab hpx];rfl
    have d12:w5.cell? ⟨bx,12,none⟩=some (.slice a3 x.l[k].dw.rs.length e3):=by rw [zab hpx];rfl
    clear hbx hpx HBX3 HPX3;cases hq1:decide (r∈zbj x.l[k].sl)
    ·have HQ1:=hq1
     cases hd:x.l[k].done
     ·rw [hd] at d8
      have HDN:=zq hd;clear hd
      go_wp2_with fail
      go_roundw
      case rel=>
       refine ⟨k+1,by omega,by go_num,zq (fun j hj hjk=> ?_),HU5⟩;by_cases e:j=k
       ·subst e;simp only [usedP,Pm.pl,Ct.cp];rw [HHS.out,HDN.out];simp_all
       ·exact HA.out j hj (by omega)
      case measure=>simp [intOf];omega
     ·rw [hd] at d8
      have HDN:=zq hd;clear hd;have HB3:=zq ((zhc (Own.upd0 H0.out HU5.out) k hl).2.1)
      go_wp2_with fail
      refine (zr5 _ x.l[k].dw.rs r _ hdl (by rw [←S3.out];exact HB3.out)).mono ?_;rintro e w4 ⟨rfl,hu4⟩;have HU4:=zq (HU5.out.trans hu4);clear hu4;cases hq:decide (r∈x.l[k].dw.rs)
      ·have HQ2:=hq
       go_wp2_with fail
       go_roundw
       case rel=>
        refine ⟨k+1,by omega,by go_num,zq (fun j hj hjk=> ?_),HU4⟩;by_cases e:j=k
        ·subst e;simp only [usedP,Pm.pl,Ct.cp];rw [HHS.out,HDN.out];simp_all
        ·exact HA.out j hj (by omega)
       case measure=>simp [intOf];omega
      ·have HQ2:=hq
       go_wp2_with fail
       go_ret
       refine ⟨zad ?_,HU0.out.trans HU4.out⟩;symm;exact zu7 (x:=x) hl (by simp only [usedP,Pm.pl,Ct.cp];rw [HHS.out,HDN.out];simp_all)
    ·have HQ1:=hq1
     cases hd:x.l[k].done
     ·have HDN:=zq hd
      clear hd
      go_wp2_with fail
      go_ret
      refine ⟨zad ?_,HU0.out.trans HU5.out⟩;symm;exact zu7 (x:=x) hl (by simp only [usedP,Pm.pl,Ct.cp];rw [HHS.out,HDN.out];simp_all)
     ·have HDN:=zq hd
      clear hd
      go_wp2_with fail
      go_ret
      refine ⟨zad ?_,HU0.out.trans HU5.out⟩;symm;exact zu7 (x:=x) hl (by simp only [usedP,Pm.pl,Ct.cp];rw [HHS.out,HDN.out];simp_all)
  ·have hk16:k=16:=by omega
   subst hk16
   go_wp2_with fail
   go_ret
   refine ⟨zad ?_,HU0.out.trans HU.out⟩;symm;exact zzs (x:=x) HN.out HA.out
end
section
variable {B:Nat} {w0 W W':World} {ss rs:List Res} {x:Ins}
theorem zjo {seq:Int} {st:In} (h:prepI st seq=none):zbf st seq=st:=by
 unfold zbf;rw [h];cases idx seq<;>rfl
theorem zwz {f:Nat} {st:Sl} {vs:Vs} (h:zbi f st=some vs):st.has=true∧zbj st=st.batch∧vs.length≤2*f+1:=by
 unfold zbi at h;split at h
 ·rename_i hh
  exact ⟨hh,by unfold zbj;rw [if_pos hh],zrp h⟩
 ·cases h
theorem zmk (h:Own B w0 W (instR x::ss)) {i:Nat} (hi:x.i=i) (seq:Int):Calls Tryz.prog 255 #[.pointer (some ⟨i,0,none⟩),.int .i64 seq] W (CertP B w0 W i (prepI x.st seq) (zbf x.st seq) ss):=by
 subst hi;have hz:=zdh (h.box zct).swap;obtain ⟨-,-,-,-,c4,c5,l1,l2⟩:=zc1 hz;cases hk:idx seq with
 | none=>
  have hs:=zfq hk;have HE:=zq (show prepI x.st seq=none by simp [prepI,zer hk]);have HA:=zq (at_no x.i x.b x.cap seq _ hs c5);have H:=zq h;clear hz h hk hs c5 c4;go_enter Tryz.func255,Tryz.ntmps255
  go_wp2_with fail
  refine HA.out.mono ?_;rintro e w' ⟨rfl,rfl⟩
  go_wp2_with fail
  exact bodyPost_ret (v:= .tuple #[ctAgg noCt,.bool false]) (by simp [results,Tryz.results255,go_sem,noCt]) rfl (zca (H.out.upd0 ((Upd.refl _ _).alloc _)) HE.out (zjo HE.out))
 | some k=>
  obtain ⟨hl,hp⟩:=zes (oi_ok hz) hk;obtain ⟨i1,i2⟩:=zkm hk;have HA:=zq (zpe x.i x.b x.cap seq _ (by omega) (by omega) c5);have hks:seq.toNat-1=k:=by omega
  rw [hks] at HA;have cp:=zmw hz k hl;have cd:=oi_told hz k hl;have HLF:=zq ((oi_ok hz).lf _ (List.getElem_mem hl));have HF4:=zq (oi_ok hz).f2;cases hon:x.on
  ·rw [hon] at c4
   have HE:=zq (show prepI x.st seq=none by simp only [prepI,hp];simp [Ins.st,hon]);have H:=zq h;clear hz h hk hp i2 hks hon c5 cp cd;go_enter Tryz.func255,Tryz.ntmps255
   go_wp2_with fail
   refine HA.out.mono ?_;rintro e w' ⟨rfl,rfl⟩
   go_wp2_with fail
   exact bodyPost_ret (v:= .tuple #[ctAgg noCt,.bool false]) (by simp [results,Tryz.results255,go_sem,noCt]) rfl (zca (H.out.upd0 ((Upd.refl _ _).alloc _)) HE.out (zjo HE.out))
  rw [hon] at c4;cases hd:x.l[k].told
  ·rw [hd] at cd
   have HC:=zq (zmz (zef hz k hl));have HSM:=zq (zji (zef hz k hl)).1;have HCI:=zq (show prepI x.st seq=(zbi x.f x.l[k].sl).map fun vs=>⟨x.view,x.num,seq,x.l[k].sl.batch,vs⟩ by simp only [prepI,hp];simp [Pm.pl,Ins.st,hd,hon]);have HZ:=zq hz;have H:=zq h;have HK:=zq hk;clear hz h hk hp i2 hks hd hon;go_enter Tryz.func255,Tryz.ntmps255
   go_wp2_with fail
   refine HA.out.mono ?_;rintro e w' ⟨rfl,rfl⟩
   go_wp2_with fail
   refine HC.out.mono ?_;rintro e w2 ⟨u,rfl,hu,hv,n2⟩;rw [HLF.out] at hv⊢;cases hcm:zbi x.f x.l[k].sl with
   | none=>
    rw [hcm] at HCI hv;obtain ⟨co,cav,rfl⟩:=zds hv;have H3:=zq ((zcm HZ.out).upd0 hu);have fz:=fun o=>zac H3.out.drop.blk_out o;have hbx:=H3.out.drop.blk_out;have HBX:=zq hbx;obtain ⟨f0,f1,f2,f3,f4,fl,-⟩:=zbr hbx;have fz0:=fz 0;have fz1:=fz 1;have fz2:=fz 2;have fz3:=fz 3;have fz4:=fz 4;clear hbx fz hcm hu hv n2 HA HC cp cd c4 c5
    go_wp2_with fail
    have H4:=zq (zkz H3.out.swap 0 0 0 (.slice none 0 0) (.slice none 0 0));generalize ((((w2.setCell ⟨W.heap.size,0,none⟩ (.int .i64 0)).setCell ⟨W.heap.size,1,none⟩ (.int .i64 0)).setCell ⟨W.heap.size,2,none⟩ (.int .i64 0)).setCell ⟨W.heap.size,3,none⟩ (.slice none 0 0)).setCell ⟨W.heap.size,4,none⟩ (.slice none 0 0)=w4 at*;clear f0 f1 f2 f3 f4 fl fz0 fz1 fz2 fz3 fz4 HBX;obtain ⟨f0,f1,f2,f3,f4,fl,-⟩:=zbr H4.out.blk_out;exact bodyPost_ret (v:= .tuple #[ctAgg noCt,.bool false]) (by simp [results,Tryz.results255,go_sem,noCt,f0,f1,f2,f3,f4]) rfl (zca H4.out.drop HCI.out (zjo HCI.out))
   | some vs=>
    rw [hcm] at HCI hv;obtain ⟨s1,s2,s3⟩:=zwz hcm;have HS2:=zq s2;have hnv:vs.length≤100000:=by have:=HF4.out;omega
    obtain ⟨co,cav,rfl⟩:=zds hv;have hz2:=Own.upd0 HZ.out hu;have cp2:=zmw hz2 k hl;have HC2:=zq (zfc (zef hz2 k hl));have HU:=zq hu;have HV:=zq (show Vts w2 (.slice co vs.length cav) vs from hv);have N2:=zq n2;clear hcm hu hv n2 HA HC cp cd c4 c5 s1 s2 s3 hz2
    go_wp2_with fail
    refine HC2.out.mono ?_;rintro e w2b ⟨ub,rfl,hub,hbb,n1⟩;rw [HS2.out] at hbb;obtain ⟨ao,cap,rfl⟩:=zb9 hbb;have hsz2:=HU.out.size;have H2:=zq (zhh HZ.out (HU.out.trans hub) hbb (Reads.upd HV.out hub (by simp)) (fun k hk=>Nat.le_trans hsz2 (n1 k hk)) N2.out);have hnb:=HSM.out;have HB2:=zq (zwh H2.out.drop.drop);clear hub hbb n1 HC2 cp2 hsz2 HU HV N2
    go_wp2_with fail
    refine (zq7 x.i x.f x.num x.ahead x.view x.on _ seq ao _ cap co _ cav _ HB2.out).mono ?_;rintro e w3 ⟨rfl,hu3⟩;have H3:=zq (H2.out.upd0 hu3);clear hu3 H2 HB2;have ho3:=H3.out.drop.drop;have c1:=oi_at ho3 k hl 1 (by omega);have c2:=oi_at ho3 k hl 2 (by omega);have c3:=oi_at ho3 k hl 3 (by omega);have c4:=oi_at ho3 k hl 4 (by omega);have c5:=oi_at ho3 k hl 5 (by omega);have c6:=oi_at ho3 k hl 6 (by omega);have c7:=oi_at ho3 k hl 7 (by omega);obtain ⟨fzb,-⟩:=oi_fz ho3;have z1:=fzb (k*14+1);have z2:=fzb (k*14+2);have z3:=fzb (k*14+3);have z4:=fzb (k*14+4);have z5:=fzb (k*14+5);have z6:=fzb (k*14+6);have z7:=fzb (k*14+7);clear ho3 fzb;simp only [zao,List.getElem?_cons_succ,List.getElem?_cons_zero] at c1 c2 c3 c4 c5 c6 c7
    go_wp2_with fail
    have H4:=zq (oi_ct H3.out k hl x.view x.num seq hnb hnv);generalize ((((((w3.setCell ⟨x.b,k*14+1,none⟩ (.bool true)).setCell ⟨x.b,k*14+2,none⟩ (.bool true)).setCell ⟨x.b,k*14+3,none⟩ (.int .i64 x.view)).setCell ⟨x.b,k*14+3+1,none⟩ (.int .i64 x.num)).setCell ⟨x.b,k*14+3+2,none⟩ (.int .i64 seq)).setCell ⟨x.b,k*14+3+3,none⟩ (.slice ao x.l[k].sl.batch.length cap)).setCell ⟨x.b,k*14+3+4,none⟩ (.slice co vs.length cav)=w4 at*;clear c1 c2 c3 c4 c5 c6 c7 z1 z2 z3 z4 z5 z6 z7 H3;have hq:=(zhc H4.out k (by simpa using hl)).1;simp only [List.getElem_set_self] at hq;obtain ⟨q1,q2,q3,q4⟩:=hq;have HF:=zq (zmh ⟨x.view,x.num,seq,.slice ao x.l[k].sl.batch.length cap,.slice co vs.length cav,x.l[k].sl.batch,vs⟩ w4 q1 q3 q2 q4);clear q1 q2 q3 q4;have H4L:=zq (show W.heap.size<w4.heap.size from block_lt (zcm H4.out).drop.blk_out);refine HF.out.mono ?_;rintro e w5 ⟨⟨view',inst',seq',vb',vv',rs',vs'⟩,rfl,hcp,hu5,hb5,hv5,nb,nv⟩;simp only at hb5 hv5 nb nv;obtain ⟨ao6,cap6,rfl⟩:=zb9 hb5;obtain ⟨co6,cav6,rfl⟩:=zds hv5;have H5:=zq ((zhh (zcm H4.out).swap hu5 hb5 hv5 nb nv).rot);have HCP:=zq hcp;have HB5:=zq hb5;have HV5:=zq hv5;have NB:=zq nb;have NV:=zq nv;clear hcp hu5 hb5 hv5 nb nv H4 HF;obtain ⟨f0,f1,f2,f3,f4,fl,fz⟩:=zbr H5.out.blk_out;have fz0:=fz 0;have fz1:=fz 1;have fz2:=fz 2;have fz3:=fz 3;have fz4:=fz 4;clear fz
    go_wp2_with fail
    have H6:=zq (zkz H5.out view' inst' seq' (.slice ao6 rs'.length cap6) (.slice co6 vs'.length cav6));have HU6:=zq (zui w5 W.heap.size view' inst' seq' (.slice ao6 rs'.length cap6) (.slice co6 vs'.length cav6));generalize ((((w5.setCell ⟨W.heap.size,0,none⟩ (.int .i64 view')).setCell ⟨W.heap.size,1,none⟩ (.int .i64 inst')).setCell ⟨W.heap.size,2,none⟩ (.int .i64 seq')).setCell ⟨W.heap.size,3,none⟩ (.slice ao6 rs'.length cap6)).setCell ⟨W.heap.size,4,none⟩ (.slice co6 vs'.length cav6)=w6 at*;clear f0 f1 f2 f3 f4 fl fz0 fz1 fz2 fz3 fz4 H5;obtain ⟨f0,f1,f2,f3,f4,fl,-⟩:=zbr H6.out.blk_out;refine bodyPost_ret (v:= .tuple #[ctAgg ⟨view',inst',seq',.slice ao6 rs'.length cap6,.slice co6 vs'.length cav6,rs',vs'⟩,.bool true]) (by simp [results,Tryz.results255,go_sem,f0,f1,f2,f3,f4]) rfl ?_;have hcp:=HCP.out;simp only [Ct.cp,Cp.mk.injEq] at hcp;obtain ⟨e1,e2,e3,e4,e5⟩:=hcp;have hnew: ∀(v:Value),(∀k∈blkOf v,w4.heap.size≤k)→(∀k∈blkOf v,W.heap.size≤k)∧ ∀k∈blkOf v,k∉[W.heap.size]:=fun v hv=>⟨fun k hk=>by have:=hv k hk;have:=H4L.out;omega,fun k hk hn=>by have:=hv k hk;have:=H4L.out;simp at hn;omega⟩;refine ⟨⟨view',inst',seq',.slice ao6 rs'.length cap6,.slice co6 vs'.length cav6,rs',vs'⟩,?_,?_,⟨by simp only [e4];exact hnb,by simp only [e5];exact hnv⟩,HB5.out.upd HU6.out (hnew _ NB.out).2,Reads.upd HV5.out HU6.out (hnew _ NV.out).2,(hnew _ NB.out).1,(hnew _ NV.out).1,
     x.sl k {x.l[k] with told:=true,has:=true,ct:=⟨x.view,x.num,seq,.slice ao x.l[k].sl.batch.length cap,.slice co vs.length cav,x.l[k].sl.batch,vs⟩},rfl,?_,H6.out.drop⟩
    ·rw [HCI.out];rfl
    ·rw [HCI.out]
     simp only [Ct.cp,Option.map_some,Option.getD_some,Cp.mk.injEq];exact ⟨e1,e2,e3,e4,e5⟩
    ·rw [show zbf x.st seq=x.st.upd k fun p=> {p with told:=true,has:=true,ct:=⟨x.view,x.num,seq,x.l[k].sl.batch,vs⟩} by simp [zbf,HK.out,HCI.out]]
     exact zt5 x k hl _ _ rfl
  ·rw [hd] at cd
   have HE:=zq (show prepI x.st seq=none by simp only [prepI,hp];simp [Pm.pl,hd]);have H:=zq h;clear hz h hk hp i2 hks hd hon c5 cp;go_enter Tryz.func255,Tryz.ntmps255
   go_wp2_with fail
   refine HA.out.mono ?_;rintro e w' ⟨rfl,rfl⟩
   go_wp2_with fail
   exact bodyPost_ret (v:= .tuple #[ctAgg noCt,.bool false]) (by simp [results,Tryz.results255,go_sem,noCt]) rfl (zca (H.out.upd0 ((Upd.refl _ _).alloc _)) HE.out (zjo HE.out))
theorem zl7 {i:Nat} {st:In} (h:AtI B w0 W i st ss) (seq:Int):Calls Tryz.prog 255 #[.pointer (some ⟨i,0,none⟩),.int .i64 seq] W fun e w'=> ∃c:Ct,e= .returned (.tuple #[ctAgg c,.bool (prepI st seq).isSome])∧Told W w' (prepI st seq) c∧
  AtI B w0 w' i (zbf st seq) (redR c.vv 2 c.vs.length (zan c.vs)::redR c.vb 6 c.rs.length (zaq c.rs)::ss):=by
 obtain ⟨x,h1,rfl,h3⟩:=h;refine (zmk h3 h1 seq).mono ?_;rintro e w' ⟨c,he,hc,hn,hb,hv,n1,n2,x',e1,e2,e3⟩;exact ⟨c,he,⟨hc,hn,hb,hv,n1,n2⟩,x',e1,e2,e3.rot⟩
theorem zpd {i:Nat} {st:In} (h:AtI B w0 W i st ss) (seq:Int):Calls Tryz.prog 256 #[.pointer (some ⟨i,0,none⟩),.int .i64 seq] W fun e w'=> ∃c:Ct,e= .returned (.tuple #[ctAgg c,.bool (commI st seq).isSome])∧Told W w' (commI st seq) c∧
  AtI B w0 w' i (zbg st seq) (redR c.vv 2 c.vs.length (zan c.vs)::redR c.vb 6 c.rs.length (zaq c.rs)::ss):=by
 obtain ⟨x,h1,rfl,h3⟩:=h;refine (zpt h3 h1 seq).mono ?_;rintro e w' ⟨c,he,hc,hn,hb,hv,n1,n2,x',e1,e2,e3⟩;exact ⟨c,he,⟨hc,hn,hb,hv,n1,n2⟩,x',e1,e2,e3.rot⟩
end
section
variable {B:Nat} {w0 W W':World} {ss rs:List Res} {x:Ins}
def ctsR (cts:List Ct):Res:=imm (fun w D=> ∀c∈cts,CtIn w c D) (fun h hk hs c hc=>(h c hc).dep hk hs)
theorem zyc {cts:List Ct} {c:Ct} (h:Own B w0 W (redR c.vv 2 c.vs.length (zan c.vs)::redR c.vb 6 c.rs.length (zaq c.rs)::ctsR cts::rs)) (hn:c.rs.length≤100000) (hm:c.vs.length≤100000):Own B w0 W (ctsR (cts++[c])::rs):=by
 have h1:=h.rot;refine (h1.alter (r':=ctsR (cts++[c])) ?_ (by simp [ctsR,imm])).rot'.drop.drop;obtain ⟨D,⟨q1,q2⟩,q3,q4⟩:=h1.head;obtain ⟨D1,⟨v1,v2⟩,v3,_⟩:=(h1.all (redR c.vv 2 c.vs.length (zan c.vs)) (List.mem_cons_of_mem _ List.mem_cons_self)).1;obtain ⟨D2,⟨b1,b2⟩,b3,_⟩:=(h1.all (redR c.vb 6 c.rs.length (zaq c.rs)) (List.mem_cons_of_mem _ (List.mem_cons_of_mem _ List.mem_cons_self))).1;refine ⟨D++(D1++D2),⟨fun c' hc'=> ?_,fun k hk=> ?_⟩,fun k hk=> ?_,q4⟩
 ·rcases List.mem_append.1 hc' with hc' | hc'
  ·exact (q1 c' hc').mono (by simp+contextual)
  ·simp at hc';subst hc'
   exact ⟨b1.mono (by simp+contextual),hn,v1.mono (by simp+contextual),hm⟩
 ·rcases List.mem_append.1 hk with hk | hk
  ·exact q2 k hk
  ·rcases List.mem_append.1 hk with hk | hk
   ·exact v2 k hk
   ·exact b2 k hk
 ·rcases List.mem_append.1 hk with hk | hk
  ·exact q3 k hk
  ·rcases List.mem_append.1 hk with hk | hk
   ·exact v3 k hk
   ·exact b3 k hk
theorem zpk {c:Ct} {a1:Option Addr} {n1 c1:Nat} {a2:Option Addr} {n2 c2:Nat} (h1:c.vb= .slice a1 n1 c1) (h2:c.vv= .slice a2 n2 c2): ∀u∈zar c,u.oneCell'=true:=by
 intro u hu;simp only [zar,h1,h2,List.mem_cons,List.not_mem_nil,or_false] at hu;rcases hu with rfl | rfl | rfl | rfl | rfl<;>rfl
end
end Go.Proofs.YtannckelmojkoaaGreat
