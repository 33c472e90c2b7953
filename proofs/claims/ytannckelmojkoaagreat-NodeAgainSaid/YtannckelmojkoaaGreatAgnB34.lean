/- Parts of the proof, one behind the other. -/
import Derived.Test.YtannckelmojkoaaGreatAgnB33
set_option maxHeartbeats 32000000
set_option maxRecDepth 100000
set_option linter.unusedVariables false
set_option linter.unusedSimpArgs false
namespace Go.Proofs.YtannckelmojkoaaGreat
open Go.RowKit Go.Heap
theorem Outs.g {n:Nat} {p q:NSt} (h:Outs n p q):KeepG p.1 q.1:=by
 obtain ⟨o,e,-⟩:=h.e;rw [e];exact ⟨rfl,rfl,rfl,rfl,rfl,rfl⟩
theorem Outs.gr {n:Nat} {p q:NSt} (h:Outs n p q) (w:Wf p):Gr n p q:=by
 obtain ⟨-,-,-,e4,-,-,-,e8,-,-⟩:=h.same;exact ⟨h.outl,h.nt,h.c,w.sm.ins e4,w.pt.of e8,h.g⟩
theorem zs2 (p:NSt) (hf:p.1.c.f≤4) (hb:p.1.bg.length≤5) (hi:p.1.ins.length≤5) (ht:p.1.tab.length≤16):Outs 3500 p (zh0 p):=by
 rw [znl];have h1:=zil p hf;have h2:=h1.trans (zim (zpb p) (by rw [h1.c];exact hf));have h3:=h2.trans (zin (zl5 (zpb p)) (by rw [h2.c];exact hf));generalize zpc (zl5 (zpb p))=p3 at*;have b3:p3.1.bg.length≤5:=by rw [h3.same.2.2.2.2.2.2.2.2.1];exact hb
 have h4:=h3.trans ((zio p3 (by rw [h3.c];exact hf)).mono (m:=65) (by omega));generalize zu3 p3=p4 at*;have b4:p4.1.ins.length≤5:=by rw [h4.same.2.2.2.1];exact hi
 have h5:=h4.trans ((ziq p4 (by rw [h4.c];exact hf)).mono (m:=65) (by omega));generalize zu4 p4=p5 at*;have b5:p5.1.tab.length≤16:=by rw [h5.same.2.2.2.2.2.1];exact ht
 exact (h5.trans ((zp4 p5 (by rw [h5.c];exact hf)).mono (m:=208) (by omega))).mono (by omega)
def pr1 (p:NSt) (k:Nat):NSt:=(List.range k).foldl zbb p
theorem ztg (p:NSt) (k:Nat):pr1 p (k+1)=zbb (pr1 p k) k:=zhq _ _ _
theorem gr_pr1 {p:NSt} (h:Wf p) (k:Nat):Gr (103*k) p (pr1 p k):=(zr3 zbb 103 zkj _ p h).mono (by rw [List.length_range];omega)
theorem tick2_is (s:Ns) (l:Nt):tick2 (s,l)=if s.now%s.c.ag=0 then zh0 (s,l) else (s,l):=rfl
theorem tick3_is (s:Ns) (l:Nt):tick3 (s,l)=if !(insAt s 0).on&&decide (s.since+s.c.wa≤s.now) then zfr (s,l) else (s,l):=rfl
theorem tick4_is (s:Ns) (l:Nt):tick4 (s,l)=if (insAt s 0).on&&oldP s then zfr (s,l) else (s,l):=rfl
def tick5 (p:NSt):NSt:=if (insAt p.1 0).on&&zcq p.1.c p.1.mt then zfr p else p
theorem tick5_is (s:Ns) (l:Nt):tick5 (s,l)=if (insAt s 0).on&&zcq s.c s.mt then zfr (s,l) else (s,l):=rfl
theorem zug {p:NSt} (h:p.1.now<p.1.start+p.1.c.pe):zix p=p:=if_pos h
theorem zqp {p:NSt} (h: ¬p.1.now<p.1.start+p.1.c.pe):zix p=({zh7 (tick5 p).1 with start:=(tick5 p).1.now},(tick5 p).2):=if_neg h
def QT (p:NSt):Prop:=(!(insAt (tick2 (tick1 (zgg p))).1 0).on&&decide ((tick2 (tick1 (zgg p))).1.since+(tick2 (tick1 (zgg p))).1.c.wa≤(tick2 (tick1 (zgg p))).1.now))=false∧((insAt (tick3 (tick2 (tick1 (zgg p)))).1 0).on&&oldP (tick3 (tick2 (tick1 (zgg p)))).1)=false∧((insAt (tick4 (tick3 (tick2 (tick1 (zgg p))))).1 0).on&&zcq (tick4 (tick3 (tick2 (tick1 (zgg p))))).1.c (tick4 (tick3 (tick2 (tick1 (zgg p))))).1.mt)=false
def LvA (B:Nat) (w0:World) (x:Np):Prop:=(∀(p:NSt) (W:World) (ss:List Res),NdIs B w0 W x p.1 p.2 ss→Wf p→p.2.length≤200000000→p.1.out.length≤200000000→
  Calls Tryz.prog 92 #[ptrV x.p] W fun e w'=>e= .returned (.tuple #[])∧NdIs B w0 w' x (zfr p).1 (zfr p).2 ss)∧ ∀p:NSt,Wf p→Gr 7291 p (zfr p)
theorem gr_if {B:Nat} {w0:World} {x:Np} {p q:NSt} {b:Bool} (hb:b=false∨LvA B w0 x) (h:Wf p) (e:q=if b then zfr p else p):Gr 7291 p q:=by
 rw [e];cases b with
 | false=>exact (Gr.refl h).mono (by omega)
 | true=>
  rcases hb with hb | hb
  ·cases hb
  ·exact hb.2 p h
theorem lv_of {B:Nat} {w0:World} {x:Np} (h:true=false∨LvA B w0 x):LvA B w0 x:=by
 rcases h with h | h
 ·cases h
 ·exact h
theorem pr1_tab {p:NSt} {B:Nat} {w0:World} {x:Np} (h:zak p.1.tab=[]∨CmtC B w0 x) (k:Nat):zak (pr1 p k).1.tab=[]∨CmtC B w0 x:=by
 rcases h with h | h
 ·refine .inl ?_
  have e: ∀k,pr1 p k=p:=fun k=>by
   induction k with
   | zero=>rfl
   | succ k ih=>
    rw [ztg,ih];unfold zbb;simp only [h,pickB,List.foldl_nil,List.isEmpty_nil,Bool.true_or,if_true,ite_self]
  rw [e k];exact h
 ·exact .inr h
section
variable {B:Nat} {w0 w W W':World} {ss rs:List Res} {x:Np} {s s':Ns} {l l':Nt} {k:Nat}
theorem zsm (p:NSt) (HQ:zak p.1.tab=[]∨CmtC B w0 x) (h:NdIs B w0 W x p.1 p.2 ss) (hk:k<p.1.c.f+1) (hn:p.2.length≤500000000) (ho:p.1.out.length≤500000000):
  Calls Tryz.prog 89 #[ptrV x.p,.int .i64 k] W fun e w'=>e= .returned (.tuple #[])∧NdIs B w0 w' x (zbb p k).1 (zbb p k).2 ss:=zp1 HQ h hk hn ho
theorem nTick_of (HQ:zak s.tab=[]∨CmtC B w0 x) (HL:QT (s,l)∨LvA B w0 x) (h:NdIs B w0 W x s l ss) (hp:PtOk s) (hn:l.length≤100000000) (ho:s.out.length≤100000000):
  Calls Tryz.prog 33 #[ptrV x.p] W fun e w'=>e= .returned (.tuple #[])∧NdIs B w0 w' x (tickS (s,l)).1 (tickS (s,l)).2 ss∧Gr 30000 (s,l) (tickS (s,l)):=by
 have wf0:Wf (s,l):=⟨h.ok.c,SmN.of s h.ok,hp⟩;have c33:=h.cell 33 rfl (by decide);have c17:=h.cell 17 rfl (by decide);obtain ⟨fin,hfin⟩: ∃fin,fin=tickS (s,l):=⟨_,rfl⟩;rw [←hfin];have hfin:=hfin.trans (zuh (s,l));cases hst:s.stop with
 | true=>
  rw [hst] at c33;have e:fin=(s,l):=by rw [hfin];exact if_pos hst
  have HF:Hid (NdIs B w0 W x fin.1 fin.2 ss∧Gr 30000 (s,l) fin):=zq (by rw [e];exact ⟨h,(Gr.refl wf0).mono (by omega)⟩);clear HQ HL h hfin hst e wf0 hp;go_enter Tryz.func33,Tryz.ntmps33
  go_wp2_with fail
  refine bodyPost_ret (v:= .tuple #[]) (results_none rfl _ _ _) rfl ?_;exact ⟨rfl,HF.out⟩
 | false=>
 rw [hst] at c33;have hfin:=hfin.trans (if_neg (by simp only [hst];decide));by_cases hnow:s.now<1048576
 case neg=>
  have HT:=zq (zp0 h hnow);have e:fin=({s with stop:=true},l):=by rw [hfin];exact if_pos (by simp only;omega)
  have z33:=h.fz 33;have HF:Hid (NdIs B w0 (W.setCell ⟨x.p,33,none⟩ (.bool true)) x fin.1 fin.2 ss∧Gr 30000 (s,l) fin):=zq (by
   rw [e];refine ⟨h.putStop true,?_⟩;exact (Gr.mono (n:=0) ⟨Nat.le_refl _,Nat.le_refl _,rfl,fun j=>wf0.sm j,wf0.pt,⟨rfl,rfl,rfl,rfl,rfl,rfl⟩⟩ (by omega)))
  clear HQ HL h hfin hst e wf0 hp hnow;go_enter Tryz.func33,Tryz.ntmps33
  go_wp2_with fail
  with_reducible refine HT.out.mono ?_
  rintro e w' ⟨rfl,rfl⟩
  go_wp2_with fail
  refine bodyPost_ret (v:= .tuple #[]) (results_none rfl _ _ _) rfl ?_;exact ⟨rfl,HF.out⟩
 case pos=>
 have hfin:=hfin.trans (if_neg (by simp only;omega));have HT:=zq (nd_tick h hnow);obtain ⟨su,hsu⟩: ∃su:Ns,su= {s with now:=s.now+1}:=⟨_,rfl⟩;have hup:zgg (s,l)=(su,l):=by rw [hsu];rfl
 rw [hup] at hfin;rw [←hsu] at HT;have hf2:=h.ok.c.f2;have wfu:Wf (su,l):=by rw [hsu];exact ⟨wf0.c,fun j=>wf0.sm j,wf0.pt⟩
 have HG0:Hid (Gr 0 (s,l) (su,l)):=zq (by rw [hsu];exact ⟨Nat.le_refl _,Nat.le_refl _,rfl,fun j=>wf0.sm j,wf0.pt,⟨rfl,rfl,rfl,rfl,rfl,rfl⟩⟩);have hcu:su.c=s.c:=by rw [hsu]
 have hou:su.out=s.out:=by rw [hsu]
 have hou2:su.out.length≤100000000:=by rw [hou];exact ho
 have hfu:su.c.f≤4:=by rw [hcu];exact hf2
 obtain ⟨p1,hp1⟩: ∃p1,p1=tick1 (su,l):=⟨_,rfl⟩;obtain ⟨p2,hp2⟩: ∃p2,p2=tick2 p1:=⟨_,rfl⟩;obtain ⟨p3,hp3⟩: ∃p3,p3=tick3 p2:=⟨_,rfl⟩;obtain ⟨p4,hp4⟩: ∃p4,p4=tick4 p3:=⟨_,rfl⟩;rw [←hp1,←hp2,←hp3,←hp4] at hfin;have HL:((!(insAt p2.1 0).on&&decide (p2.1.since+p2.1.c.wa≤p2.1.now))=false∧((insAt p3.1 0).on&&oldP p3.1)=false∧((insAt p4.1 0).on&&zcq p4.1.c p4.1.mt)=false)∨LvA B w0 x:=by
  unfold QT at HL;rw [hup,←hp1,←hp2,←hp3,←hp4] at HL;exact HL
 have HL3:=zq (HL.imp (fun q=>q.1) id);have HL4:=zq (HL.imp (fun q=>q.2.1) id);have HL5:=zq (HL.imp (fun q=>q.2.2) id);have HQ1:Hid (zak su.tab=[]∨CmtC B w0 x):=zq (by rw [hsu];exact HQ);have HFIN:=zq hfin;have HP1:=zq hp1;have HP2:=zq hp2;have HP3:=zq hp3;have HP4:=zq hp4;have g1:=gr_tick1 wfu;rw [←hp1] at g1;have HG1:=zq g1;have HWU:=zq wfu;have hicI:(su.c.f:Int)+1≤(x.ic:Int):=by rw [hcu];have:=h.caps.1;omega
 clear HQ HL h hfin hst wf0 hp hnow hsu hup wfu hcu hou hp1 hp2 hp3 hp4 g1 ho hf2;clear hfin;clear hfin;clear hfin;go_enter Tryz.func33,Tryz.ntmps33
 go_wp2_with fail
 with_reducible refine HT.out.mono ?_
 rintro e w1 ⟨rfl,h1⟩;have H0:=zq h1;have c18:w1.cell? ⟨x.p,18,none⟩=some (slI x.ib (su.c.f+1) x.ic):=h1.cell 18 rfl (by decide);clear h1 HT c33 c17
 go_upto_block 0 with fail
 go_cut [] (fun wx=>Hid (NdIs B w0 wx x p1.1 p1.2 ss))
 case first=>
  go_wp2_with fail
  go_loopw [21] (fun n wr=> ∃k:Nat,k≤su.c.f+1∧n= .int .i64 k∧Hid (NdIs B w0 wr x (pr1 (su,l) k).1 (pr1 (su,l) k).2 ss)) (fun n _=>su.c.f+1-(intOf n).toNat)
  case atStart=>exact ⟨0,by omega,rfl,H0⟩
  case round=>
   clear H0 c18;obtain ⟨k,hk,rfl,H⟩:=hrel;have hk0:(0:Int)≤(k:Int):=by omega
   by_cases hlt:k<su.c.f+1
   ·have hkI:(k:Int)<(su.c.f:Int)+1:=by omega
    have hO:=gr_pr1 HWU.out k;have h1:=hO.nt;have h2:=hO.out;have h3:=hO.c;have HST:=zq (ztg (su,l) k);simp only at h1 h2 h3;have HC:=zq (zsm (pr1 (su,l) k) (pr1_tab (p:=(su,l)) HQ1.out k) H.out (by rw [h3];exact hlt) (by omega) (by omega));rw [←HST.out] at HC;clear hO h1 h2 h3 HST H
    go_wp2_with fail
    with_reducible refine HC.out.mono ?_
    rintro e w2 ⟨rfl,h2⟩;have H2:=zq h2;clear h2 HC
    go_wp2_with fail
    go_roundw
    case rel=>exact ⟨k+1,by omega,by go_num,H2⟩
    case measure=>simp [intOf];omega
   ·obtain rfl:k=su.c.f+1:=by omega
    have hkI:decide (((su.c.f+1:Nat):Int)<(su.c.f:Int)+1)=false:=by simp
    have HF:Hid (NdIs B w0 wr x p1.1 p1.2 ss):=zq (by rw [HP1.out];exact H.out);clear H
    go_wp2_with fail
    go_meet
    exact HF
 case rest=>
 have H1:=hcut;have HW1:=zq (HG1.out.wf HWU.out);have hn1:=HG1.out.nt;have hq1:=HG1.out.out;clear H0 HP1 hcut c18 hicI hfu;obtain ⟨s1,l1⟩:=p1;simp only at hn1 hq1 H1;have hn1:l1.length≤101000000:=by omega
 have hq1:s1.out.length≤101000000:=by omega
 have HP2:=zq (HP2.out.trans (tick2_is s1 l1));have hno0:=H1.out.ok.now0;have hno1:=H1.out.ok.now1;have hag1:=H1.out.ok.c.ag1;have hag2:=H1.out.ok.c.ag2;have c17:wc.cell? ⟨x.p,17,none⟩=some (ptrV x.t):=H1.out.cell 17 rfl (by decide);have c13:wc.cell? ⟨x.p,13,none⟩=some (.int .i64 s1.c.ag):=H1.out.cell 13 rfl (by decide);have HN:=zq (fun n=>zh4 (H1.out.drewN n));obtain ⟨md,hmd⟩: ∃md,md=s1.now%s1.c.ag:=⟨_,rfl⟩;have hdz:s1.c.ag≠0:=by omega
 have htm:s1.now.tmod s1.c.ag=md:=by rw [hmd];exact Int.tmod_eq_emod_of_nonneg hno0
 have hmd0:0≤md:=by rw [hmd];exact Int.emod_nonneg _ hdz
 have hmd1:md<s1.c.ag:=by rw [hmd];exact Int.emod_lt_of_pos _ (by omega)
 have hwm:IntKind.i64.wrap md=md:=IntWalk.i64_in _ (by omega);rw [←hmd] at HP2;clear hmd
 go_upto_region 8 with fail
 go_quiet ((go_at_call 90;exact zap (HN.out _)))
 generalize hw:World.drewN wc _=w2;have H2:Hid (NdIs B w0 w2 x s1 l1 ss):=zq (by rw [←hw];exact H1.out.drewN _);have HO2:=zq (zs2 (s1,l1) H1.out.ok.c.f2 (by have:=H1.out.ok.bg;have:=H1.out.ok.c.f2;simp only;omega) (by have:=H1.out.ok.ins;have:=H1.out.ok.c.f2;simp only;omega) (zga H1.out.ok.tab H1.out.ok.c.cl2));clear hw H1 c17 c13 HN htm hwm hmd0 hmd1;have HG2:Hid (Gr 3500 (s1,l1) p2):=zq (by
  rw [HP2.out];split
  ·exact HO2.out.gr HW1.out
  ·exact (Gr.refl HW1.out).mono (by omega))
 go_upto_if 39 with fail
 go_cut [] (fun wx=>Hid (NdIs B w0 wx x p2.1 p2.2 ss))
 case first=>
  by_cases hv:md=0
  ·have hb:(md==0)=true:=by simp [hv]
   have hp2:=HP2.out.trans (if_pos hv);have HS:=zq (zsj H2.out (by omega) (by omega));rw [←hp2] at HS;clear hv hp2 H2 HP2
   go_wp2_with fail
   with_reducible refine HS.out.mono ?_
   rintro e w3 ⟨rfl,h3⟩;have H3:=zq h3;clear h3 HS
   go_wp2_with fail
   go_meet
   exact H3
  ·have hb:(md==0)=false:=by simp [hv]
   have hp2:=HP2.out.trans (if_neg hv);have H3:Hid (NdIs B w0 w2 x p2.1 p2.2 ss):=zq (by rw [hp2];exact H2.out);clear hv hp2 H2 HP2
   go_wp2_with fail
   go_meet
   exact H3
 case rest=>
 have H3:=hcut;have HW2:=zq (HG2.out.wf HW1.out);have hn2:=HG2.out.nt;have hq2:=HG2.out.out;clear H2 HP2 hcut HO2 hdz hag1 hag2 hno0 hno1;obtain ⟨s2,l2⟩:=p2;simp only at hn2 hq2 H3;have hn2:l2.length≤102000000:=by omega
 have hq2:s2.out.length≤102000000:=by omega
 have HP3:=zq (HP3.out.trans (tick3_is s2 l2));have hsi0:=H3.out.ok.since0;have hsi1:=H3.out.ok.since1;have hwa1:=H3.out.ok.c.wa1;have hwa2:=H3.out.ok.c.wa2;have hic2:(0:Int)<(s2.c.f:Int)+1:=by omega
 have hicp:(s2.c.f:Int)+1≤(x.ic:Int):=by have:=H3.out.caps.1;omega
 obtain ⟨i,hi,ci⟩:=H3.out.iAt (k:=0) (by omega);have HI:=zq hi;have HIN:=zq (fun n=>zcl (H3.out.drewN n) 0 (by omega) hi);have HN:=zq (fun n=>zh4 (H3.out.drewN n));have c18:wc.cell? ⟨x.p,18,none⟩=some (slI x.ib (s2.c.f+1) x.ic):=H3.out.cell 18 rfl (by decide);have c17:wc.cell? ⟨x.p,17,none⟩=some (ptrV x.t):=H3.out.cell 17 rfl (by decide);have c31:wc.cell? ⟨x.p,31,none⟩=some (.int .i64 s2.since):=H3.out.cell 31 rfl (by decide);have c12:wc.cell? ⟨x.p,12,none⟩=some (.int .i64 s2.c.wa):=H3.out.cell 12 rfl (by decide);have hws:IntKind.i64.wrap (s2.since+s2.c.wa)=s2.since+s2.c.wa:=IntWalk.i64_in _ (by omega);have HG3:Hid (Gr 7291 (s2,l2) p3):=zq (gr_if HL3.out HW2.out HP3.out);clear hi;obtain ⟨on,hon⟩: ∃on,on=(insAt s2 0).on:=⟨_,rfl⟩;rw [←hon] at HIN HP3 HL3;clear hon
 go_upto_region 10 with fail
 go_cut [67] (fun c wx=>c= .bool (!on&&decide (s2.since+s2.c.wa≤s2.now))∧Hid (NdIs B w0 wx x s2 l2 ss))
 case first=>
  clear HP3 HG3 HL3;cases on with
  | true=>
   go_quiet (first | (go_at_call 73;exact zap (HIN.out _)) | (go_at_call 90;exact zap (HN.out _)))
   go_wp2_with fail
   go_meet
   exact ⟨rfl,zq (H3.out.drewN _)⟩
  | false=>
   cases hd:decide (s2.since+s2.c.wa≤s2.now) with
   | true=>
    have HR:Hid (Value.bool true= .bool (!false&&decide (s2.since+s2.c.wa≤s2.now))):=zq (by rw [hd];rfl)
    go_quiet (first | (go_at_call 73;exact zap (HIN.out _)) | (go_at_call 90;exact zap (HN.out _)))
    go_wp2_with fail
    go_meet
    exact ⟨HR.out,zq (H3.out.drewN _)⟩
   | false=>
    have HR:Hid (Value.bool false= .bool (!false&&decide (s2.since+s2.c.wa≤s2.now))):=zq (by rw [hd];rfl)
    go_quiet (first | (go_at_call 73;exact zap (HIN.out _)) | (go_at_call 90;exact zap (HN.out _)))
    go_wp2_with fail
    go_meet
    exact ⟨HR.out,zq (H3.out.drewN _)⟩
 case rest=>
 clear H3 HIN HN c18 c17 c31 c12 hws ci HI hic2 hicp hwa1 hwa2 hsi0 hsi1;obtain ⟨rfl,H3⟩:=hcut;generalize (!on&&decide (s2.since+s2.c.wa≤s2.now))=b3 at*
 go_upto_if 67 with fail
 go_cut [] (fun wx=>Hid (NdIs B w0 wx x p3.1 p3.2 ss))
 case first=>
  cases b3 with
  | true=>
   have hp3:=HP3.out.trans (if_pos rfl);have HS:=zq ((lv_of HL3.out).1 (s2,l2) _ _ H3.out HW2.out (by simp only;omega) (by simp only;omega));rw [←hp3] at HS;clear hp3 H3 HP3
   go_wp2_with fail
   with_reducible refine HS.out.mono ?_
   rintro e w3 ⟨rfl,h3⟩;have H4:=zq h3;clear h3 HS
   go_wp2_with fail
   go_meet
   exact H4
  | false=>
   have hp3:=HP3.out.trans (if_neg (by simp));have H4:Hid (NdIs B w0 wc x p3.1 p3.2 ss):=zq (by rw [hp3];exact H3.out);clear hp3 H3 HP3
   go_wp2_with fail
   go_meet
   exact H4
 case rest=>
 have H4:=hcut;have HW3:=zq (HG3.out.wf HW2.out);have hn3:=HG3.out.nt;have hq3:=HG3.out.out;clear H3 HP3 hcut;obtain ⟨s3,l3⟩:=p3;simp only at hn3 hq3 H4;have hn3:l3.length≤103000000:=by omega
 have hq3:s3.out.length≤103000000:=by omega
 have HP4:=zq (HP4.out.trans (tick4_is s3 l3));have hic2:(0:Int)<(s3.c.f:Int)+1:=by omega
 have hicp:(s3.c.f:Int)+1≤(x.ic:Int):=by have:=H4.out.caps.1;omega
 obtain ⟨i3,hi,ci⟩:=H4.out.iAt (k:=0) (by omega);have HIN:=zq (zcl H4.out 0 (by omega) hi);have HOL:=zq (nold_any H4.out);have c18:wc.cell? ⟨x.p,18,none⟩=some (slI x.ib (s3.c.f+1) x.ic):=H4.out.cell 18 rfl (by decide);have HG4:Hid (Gr 7291 (s3,l3) p4):=zq (gr_if HL4.out HW3.out HP4.out);clear hi;obtain ⟨on3,hon⟩: ∃on,on=(insAt s3 0).on:=⟨_,rfl⟩;rw [←hon] at HIN HP4 HL4;obtain ⟨ol,hol⟩: ∃ol,ol=oldP s3:=⟨_,rfl⟩;rw [←hol] at HOL HP4 HL4;clear hon hol
 go_upto_region 12 with fail
 go_cut [80] (fun c wx=>c= .bool (on3&&ol)∧Hid (NdIs B w0 wx x s3 l3 ss))
 case first=>
  clear HP4 HG4 HL4;cases on3 with
  | false=>
   go_wp2_with fail
   with_reducible refine HIN.out.mono ?_
   rintro e w' ⟨rfl,rfl⟩
   go_wp2_with fail
   go_meet
   exact ⟨rfl,H4⟩
  | true=>
   go_wp2_with fail
   with_reducible refine HIN.out.mono ?_
   rintro e w' ⟨rfl,rfl⟩
   go_wp2_with fail
   with_reducible refine HOL.out.mono ?_
   rintro e w4 ⟨rfl,h4⟩;have H5:=zq h4;clear h4 HOL
   go_wp2_with fail
   go_meet
   exact ⟨rfl,H5⟩
 case rest=>
 clear H4 HIN HOL c18 ci hic2 hicp;obtain ⟨rfl,H4⟩:=hcut;generalize (on3&&ol)=b4 at*
 go_upto_if 80 with fail
 go_cut [] (fun wx=>Hid (NdIs B w0 wx x p4.1 p4.2 ss))
 case first=>
  cases b4 with
  | true=>
   have hp4:=HP4.out.trans (if_pos rfl);have HS:=zq ((lv_of HL4.out).1 (s3,l3) _ _ H4.out HW3.out (by simp only;omega) (by simp only;omega));rw [←hp4] at HS;clear hp4 H4 HP4
   go_wp2_with fail
   with_reducible refine HS.out.mono ?_
   rintro e w5 ⟨rfl,h5⟩;have H5:=zq h5;clear h5 HS
   go_wp2_with fail
   go_meet
   exact H5
  | false=>
   have hp4:=HP4.out.trans (if_neg (by simp));have H5:Hid (NdIs B w0 wc x p4.1 p4.2 ss):=zq (by rw [hp4];exact H4.out);clear hp4 H4 HP4
   go_wp2_with fail
   go_meet
   exact H5
 case rest=>
 have H5:=hcut;have HW4:=zq (HG4.out.wf HW3.out);have hn4:=HG4.out.nt;have hq4:=HG4.out.out;clear H4 HP4 hcut;have HG04:=zq ((((HG0.out.trans HG1.out).trans HG2.out).trans HG3.out).trans HG4.out);clear HG0 HG1 HG2 HG3 HG4 HWU HW1 HW2 HW3;obtain ⟨s4,l4⟩:=p4;simp only at hn4 hq4 H5;have hn4:l4.length≤104000000:=by omega
 have hq4:s4.out.length≤104000000:=by omega
 have hst0:=H5.out.ok.start0;have hst1:=H5.out.ok.start1;have hpe1:=H5.out.ok.c.pe1;have hpe2:=H5.out.ok.c.pe2;have HN:=zq (fun n=>zh4 (H5.out.drewN n));have c17:wc.cell? ⟨x.p,17,none⟩=some (ptrV x.t):=H5.out.cell 17 rfl (by decide);have c32:wc.cell? ⟨x.p,32,none⟩=some (.int .i64 s4.start):=H5.out.cell 32 rfl (by decide);have c7:wc.cell? ⟨x.p,7,none⟩=some (.int .i64 s4.c.pe):=H5.out.cell 7 rfl (by decide);have hws:IntKind.i64.wrap (s4.start+s4.c.pe)=s4.start+s4.c.pe:=IntWalk.i64_in _ (by omega);by_cases hpe:s4.now<s4.start+s4.c.pe
 ·have hd:decide (s4.start+s4.c.pe≤s4.now)=false:=by simp;omega
  have e:fin=(s4,l4):=HFIN.out.trans (zug hpe);have HF:Hid (∀n,NdIs B w0 (wc.drewN n) x fin.1 fin.2 ss∧Gr 30000 (s,l) fin):=zq (fun n=>by rw [e];exact ⟨H5.out.drewN n,HG04.out.mono (by omega)⟩);clear hpe e H5 HFIN HG04
  go_upto_region 14 with fail
  go_quiet ((go_at_call 90;exact zap (HN.out _)))
  go_wp2_with fail
  refine bodyPost_end (results_none rfl _ _ _) rfl ?_;exact ⟨rfl,HF.out _⟩
 have hd:decide (s4.start+s4.c.pe≤s4.now)=true:=by simp;omega
 have HFIN:=zq (HFIN.out.trans (zqp (p:=(s4,l4)) hpe));clear hpe;obtain ⟨p5,hp5⟩: ∃p5,p5=tick5 (s4,l4):=⟨_,rfl⟩;rw [←hp5] at HFIN;have HP5:=zq (hp5.trans (tick5_is s4 l4));have HG5:Hid (Gr 7291 (s4,l4) p5):=zq (gr_if HL5.out HW4.out HP5.out);clear hp5
 go_upto_region 14 with fail
 go_quiet ((go_at_call 90;exact zap (HN.out _)))
 generalize hw:World.drewN wc _=w6;have H6:Hid (NdIs B w0 w6 x s4 l4 ss):=zq (by rw [←hw];exact H5.out.drewN _);clear hw H5 c17 c32 c7 hws HN hd;have hic2:(0:Int)<(s4.c.f:Int)+1:=by omega
 have hicp:(s4.c.f:Int)+1≤(x.ic:Int):=by have:=H6.out.caps.1;omega
 obtain ⟨i4,hi,ci⟩:=H6.out.iAt (k:=0) (by omega);have HI4:=zq hi;have HIN:=zq (fun n=>zcl (H6.out.drewN n) 0 (by omega) hi);have c18:w6.cell? ⟨x.p,18,none⟩=some (slI x.ib (s4.c.f+1) x.ic):=H6.out.cell 18 rfl (by decide);obtain ⟨on4,hon⟩: ∃on,on=(insAt s4 0).on:=⟨_,rfl⟩;rw [←hon] at HIN HP5 HL5;obtain ⟨ve,hve⟩: ∃ve,ve=zcq s4.c s4.mt:=⟨_,rfl⟩;rw [←hve] at HP5 HL5;have HVE:=zq hve;clear hon hve hi
 go_upto_region 15 with fail
 go_cut [117] (fun c wx=>c= .bool (on4&&ve)∧Hid (NdIs B w0 wx x s4 l4 ss))
 case first=>
  clear HP5 HG5 HFIN HG04 HL5;cases on4 with
  | false=>
   go_quiet ((go_at_call 73;exact zap (HIN.out _)))
   go_wp2_with fail
   go_meet
   exact ⟨rfl,zq (H6.out.drewN _)⟩
  | true=>
   have HH:Hid (∀W,NdIs B w0 W x s4 l4 ss→Held.Held [(x.p,18,[slI x.ib (s4.c.f+1) x.ic]),(x.ib,0,[ptrV i4]),(x.p,0,[.int .i64 s4.c.f,.int .i64 s4.c.cl,.int .i64 s4.c.bt,.int .i64 s4.c.ah,.int .i64 s4.c.qu,.int .i64 s4.c.fl,.int .i64 s4.c.sh,.int .i64 s4.c.pe,.int .i64 s4.c.nu,.int .i64 s4.c.de,.int .i64 s4.c.la,.int .i64 s4.c.om,.int .i64 s4.c.wa,.int .i64 s4.c.ag,.int .i64 s4.c.re]),(x.p,23,[ptrV x.mt])] W):=zq (fun W h=>⟨⟨h.cell 18 rfl (by decide),trivial⟩,⟨h.instAt 0 HI4.out,trivial⟩,⟨h.cell 0 rfl (by decide),h.cell 1 rfl (by decide),h.cell 2 rfl (by decide),h.cell 3 rfl (by decide),h.cell 4 rfl (by decide),h.cell 5 rfl (by decide),h.cell 6 rfl (by decide),h.cell 7 rfl (by decide),h.cell 8 rfl (by decide),h.cell 9 rfl (by decide),h.cell 10 rfl (by decide),h.cell 11 rfl (by decide),h.cell 12 rfl (by decide),h.cell 13 rfl (by decide),h.cell 14 rfl (by decide),trivial⟩,⟨h.cell 23 rfl (by decide),trivial⟩,trivial⟩);have HI1:Hid (Calls Tryz.prog 73 #[ptrV i4] w6.drew fun e w'=>e= .returned (.bool true)∧w6.drew=w'):=zq (HIN.out 1);have HAL:=zq (nd_mall H6.out.drew);have hml:(s4.mt.length:Int)=(s4.c.f:Int)+1:=by have:=H6.out.ok.mt;omega
   clear HIN c18 ci hml;refine Held.wp_held2 [(x.p,18,[slI x.ib (s4.c.f+1) x.ic]),(x.ib,0,[ptrV i4]),(x.p,0,[.int .i64 s4.c.f,.int .i64 s4.c.cl,.int .i64 s4.c.bt,.int .i64 s4.c.ah,.int .i64 s4.c.qu,.int .i64 s4.c.fl,.int .i64 s4.c.sh,.int .i64 s4.c.pe,.int .i64 s4.c.nu,.int .i64 s4.c.de,.int .i64 s4.c.la,.int .i64 s4.c.om,.int .i64 s4.c.wa,.int .i64 s4.c.ag,.int .i64 s4.c.re]),(x.p,23,[ptrV x.mt])] [(3,0),(5,1),(11,2),(15,3)] [17] [(7,true),(10,true),(1,false)] (by kernel_rfl) (by kernel_rfl) (HH.out _ H6.out.drew) ?_;simp only [Held.cutAt,Held.walk,List.take_succ_cons,List.take_zero,List.drop_succ_cons,List.drop_zero];have c18:w6.drew.cell? ⟨x.p,18,none⟩=some (slI x.ib (s4.c.f+1) x.ic):=H6.out.drew.cell 18 rfl (by decide);have ci:w6.drew.cell? ⟨x.ib,0,none⟩=some (ptrV i4):=H6.out.drew.instAt 0 HI4.out
   go_wp2_with fail
   with_reducible refine HI1.out.mono ?_
   rintro e w' ⟨rfl,rfl⟩
   go_wp2_with fail
   refine ⟨HH.out _ H6.out.drew,?_⟩;have c23:w6.drew.cell? ⟨x.p,23,none⟩=some (ptrV x.mt):=H6.out.drew.cell 23 rfl (by decide);have a0:w6.drew.cell? ⟨x.p,0,none⟩=some (.int .i64 s4.c.f):=H6.out.drew.cell 0 rfl (by decide);have a1:w6.drew.cell? ⟨x.p,1,none⟩=some (.int .i64 s4.c.cl):=H6.out.drew.cell 1 rfl (by decide);have a2:w6.drew.cell? ⟨x.p,2,none⟩=some (.int .i64 s4.c.bt):=H6.out.drew.cell 2 rfl (by decide);have a3:w6.drew.cell? ⟨x.p,3,none⟩=some (.int .i64 s4.c.ah):=H6.out.drew.cell 3 rfl (by decide);have a4:w6.drew.cell? ⟨x.p,4,none⟩=some (.int .i64 s4.c.qu):=H6.out.drew.cell 4 rfl (by decide);have a5:w6.drew.cell? ⟨x.p,5,none⟩=some (.int .i64 s4.c.fl):=H6.out.drew.cell 5 rfl (by decide);have a6:w6.drew.cell? ⟨x.p,6,none⟩=some (.int .i64 s4.c.sh):=H6.out.drew.cell 6 rfl (by decide);have a7:w6.drew.cell? ⟨x.p,7,none⟩=some (.int .i64 s4.c.pe):=H6.out.drew.cell 7 rfl (by decide);have a8:w6.drew.cell? ⟨x.p,8,none⟩=some (.int .i64 s4.c.nu):=H6.out.drew.cell 8 rfl (by decide);have a9:w6.drew.cell? ⟨x.p,9,none⟩=some (.int .i64 s4.c.de):=H6.out.drew.cell 9 rfl (by decide);have a10:w6.drew.cell? ⟨x.p,10,none⟩=some (.int .i64 s4.c.la):=H6.out.drew.cell 10 rfl (by decide);have a11:w6.drew.cell? ⟨x.p,11,none⟩=some (.int .i64 s4.c.om):=H6.out.drew.cell 11 rfl (by decide);have a12:w6.drew.cell? ⟨x.p,12,none⟩=some (.int .i64 s4.c.wa):=H6.out.drew.cell 12 rfl (by decide);have a13:w6.drew.cell? ⟨x.p,13,none⟩=some (.int .i64 s4.c.ag):=H6.out.drew.cell 13 rfl (by decide);have a14:w6.drew.cell? ⟨x.p,14,none⟩=some (.int .i64 s4.c.re):=H6.out.drew.cell 14 rfl (by decide);clear c18 ci HI1
   go_wp2_with fail
   with_reducible refine HAL.out.mono ?_
   rintro e w7 ⟨g,cap,rfl,hcap,hc,h7⟩;have H7:=zq h7;have HV:=zq (zmv h7 hcap hc);rw [←HVE.out] at HV;clear hcap hc h7 HAL a0 a1 a2 a3 a4 a5 a6 a7 a8 a9 a10 a11 a12 a13 a14 c23
   go_wp2_with fail
   refine ⟨HH.out _ H7.out,?_⟩
   go_wp2_with fail
   with_reducible refine HV.out.mono ?_
   rintro e w8 ⟨rfl,h8⟩;have H8:=zq h8;clear h8 HV HH H7
   go_wp2_with fail
   refine ⟨trivial,?_⟩
   go_wp2_with fail
   refine ⟨trivial,by rfl,⟨.inr ⟨⟨rfl,.inl ⟨by kernel_rfl,rfl⟩⟩,trivial⟩,.inr ⟨⟨rfl,.inl ⟨by kernel_rfl,rfl⟩⟩,trivial⟩,.inr ⟨⟨rfl,.inr ⟨by kernel_rfl,by kernel_rfl⟩⟩,trivial⟩,.inr ⟨⟨rfl,.inl ⟨by kernel_rfl,rfl⟩⟩,trivial⟩,trivial⟩,?_⟩
   go_wp2_with fail
   go_meet
   exact ⟨rfl,H8⟩
 case rest=>
 clear H6 HIN c18 ci hic2 hicp;obtain ⟨rfl,H6⟩:=hcut;generalize (on4&&ve)=b5 at*
 go_upto_if 117 with fail
 go_cut [] (fun wx=>Hid (NdIs B w0 wx x p5.1 p5.2 ss))
 case first=>
  cases b5 with
  | true=>
   have hp5:=HP5.out.trans (if_pos rfl);have HS:=zq ((lv_of HL5.out).1 (s4,l4) _ _ H6.out HW4.out (by simp only;omega) (by simp only;omega));rw [←hp5] at HS;clear hp5 H6 HP5
   go_wp2_with fail
   with_reducible refine HS.out.mono ?_
   rintro e w7 ⟨rfl,h7⟩;have H7:=zq h7;clear h7 HS
   go_wp2_with fail
   go_meet
   exact H7
  | false=>
   have hp5:=HP5.out.trans (if_neg (by simp));have H7:Hid (NdIs B w0 wc x p5.1 p5.2 ss):=zq (by rw [hp5];exact H6.out);clear hp5 H6 HP5
   go_wp2_with fail
   go_meet
   exact H7
 case rest=>
 have H7:=hcut;clear H6 HP5 hcut;obtain ⟨s5,l5⟩:=p5;simp only at H7 HFIN;have HRE:=zq (nd_reset H7.out);have c23:wc.cell? ⟨x.p,23,none⟩=some (ptrV x.mt):=H7.out.cell 23 rfl (by decide);have HGF:Hid (Gr 30000 (s,l) fin):=zq (by
  have h:=(HG04.out.trans HG5.out).mono (m:=30000) (by omega);rw [HFIN.out];exact ⟨h.out,h.nt,h.c,fun j=>h.sm j,h.pt,⟨h.g.gd,h.g.used,h.g.bad,h.g.stale,h.g.shut,h.g.full⟩⟩)
 clear HG04 HG5
 go_wp2_with fail
 with_reducible refine HRE.out.mono ?_
 rintro e w8 ⟨rfl,h8⟩;have HN:=zq (zh4 h8);have d17:w8.cell? ⟨x.p,17,none⟩=some (ptrV x.t):=h8.cell 17 rfl (by decide);have z32:=h8.fz 32;have d32:=h8.cell 32 rfl (by decide);have HF:Hid (NdIs B w0 (w8.setCell ⟨x.p,32,none⟩ (.int .i64 (zh7 s5).now)) x fin.1 fin.2 ss):=zq (by
  rw [HFIN.out];exact h8.putStart (zh7 s5).now h8.ok.now0 h8.ok.now1)
 clear h8 HRE c23 H7 HFIN
 go_wp2_with fail
 with_reducible refine HN.out.mono ?_
 rintro e w' ⟨rfl,rfl⟩
 go_wp2_with fail
 refine bodyPost_end (results_none rfl _ _ _) rfl ?_;exact ⟨rfl,HF.out,HGF.out⟩
end
theorem zg2 {α β:Type} (g:α→β→α): ∀(l:List β) (p:α),(∀b∈l,g p b=p)→l.foldl g p=p
 | [],_,_=>rfl
 | b::l,p,h=>by
  rw [List.foldl_cons,h b (by simp)];exact zg2 g l p (fun c hc=>h c (by simp [hc]))
theorem zw9 (l:Nt) (m:Ms):sealP (sealP l m).2 m=sealP l m:=by
 unfold sealP;cases bodyP m with
 | none=>rfl
 | some b=>
  simp only;rw [zfv,zot]
theorem zzv {f:Nat} {l:Nt} {k cl:Int} {r:Rq} (hn:l.length≤1000000000) (hf:f≤4) (h0:0≤k) (h1:k≤3*f) (hq:RqGood cl r):
  ∃(b:Bys) (l':Nt),sealP l (crtM 4 0 0 1 [r] k)=(some b,l')∧sealP l' (crtM 4 0 0 1 [r] k)=(some b,l')∧Px l l'∧l'.length≤l.length+1:=by
 have hb:=zq0 (kind:=4) (k:=k) hq.w (by omega) (by omega) h0 (by omega);obtain ⟨B,hB⟩: ∃B,B=msB (crtM 4 0 0 1 [r] k):=⟨_,rfl⟩;have hl:B.length≤65530:=by rw [hB];exact zx7 _ _ _ _ _ _
 rw [←hB] at hb;have hs:sealP l (crtM 4 0 0 1 [r] k)=(some (numB (sealN l k B)++B),sealL l k B):=by
  unfold sealP;rw [hb];simp only;have e:envP (sealN l (crtM 4 0 0 1 [r] k).fm B) B=some (numB (sealN l k B)++B):=by
   unfold envP;have h8:=zjz hn k B;have h9:=zcv (sealN l k B);rw [if_pos]
   ·rfl
   ·simp only [Bool.and_eq_true,decide_eq_true_eq]
    exact ⟨h8,by show (numB (sealN l k B)).length+_≤_;omega⟩
  rw [e];rfl
 have h2:=zw9 l (crtM 4 0 0 1 [r] k);rw [hs] at h2;exact ⟨_,_,hs,h2,zy6 _ _ _,(zjy _ _ _).2⟩
def agS (f:Nat) (id:Int) (p:Pl) (u t st:Int) (out:List (Int×Bys)):Ns:=
 {orS f id p (newS (stdC f) id).com 0 (newL 2) out u with now:=t,start:=st}
section
variable {f:Nat} {id u t st:Int} {p p':Pl} {out:List (Int×Bys)} {l l':Nt} {r:Rq} {b:Bys}
theorem ag_at:insAt (agS f id p u t st out) 0=ordI f 4 p:=or_at (f:=f) (id:=id) (p:=p) (com:=(newS (stdC f) id).com) (n:=0) (bk:=newL 2) (out:=out) (u:=u)
theorem ag_set:zbc (agS f id p u t st out) 0 (ordI f 4 p')=agS f id p' u t st out:=by
 unfold agS zbc orS;simp only [List.set_set]
theorem ag_new:newS (stdC f) id=agS f id (zbq f) 0 0 0 []:=or_new
theorem zzo:(agS f id p u t st out).ins=ordI f 4 p::(List.range f).map fun (k:Nat)=>newI f ((k+1:Nat):Int) 4:=by
 have e:(newS (stdC f) id).ins=newI f 0 4::((List.range f).map fun (k:Nat)=>newI f ((k+1:Nat):Int) 4):=by
  show (List.range (f+1)).map _=_;rw [List.range_succ_eq_map,List.map_cons,List.map_map];rfl
 show (newS (stdC f) id).ins.set 0 (ordI f 4 p)=_;rw [e];rfl
theorem ag_at2 {k:Nat} (hk:0<k) (hk2:k<f+1):insAt (agS f id p u t st out) k=newI f (k:Int) 4:=by
 obtain ⟨j,rfl⟩: ∃j,k=j+1:=⟨k-1,by omega⟩;unfold insAt;rw [zzo,List.getD_cons_succ,List.getD_eq_getElem?_getD,List.getElem?_eq_getElem (by simp;omega)];simp
theorem zrd (n a q:Int):(zau (newI f n a) q).2=false:=by
 unfold zau plAt newI;cases idx q with
 | none=>rfl
 | some k=>
  simp only [Option.bind_some,List.getElem?_replicate];by_cases hk:k<16
  ·rw [if_pos hk];rfl
  ·rw [if_neg hk]
theorem zz2 (n a:Int):doneI (newI f n a)=0:=rfl
theorem zpi {j:Nat} (hj:0<j) (hj2:j<16):(zau (ordI f 4 p) ((j+1:Nat):Int)).2=false:=by
 have hi:idx ((j+1:Nat):Int)=some j:=by
  unfold idx;rw [if_pos (by omega)];congr 1
 unfold zau plAt;rw [hi];obtain ⟨i,rfl⟩: ∃i,j=i+1:=⟨j-1,by omega⟩;have:(ordI f 4 p).l[i+1]?=some (zbq f):=by
  show (p::List.replicate 15 (zbq f))[i+1]?=_;rw [List.getElem?_cons_succ,List.getElem?_replicate,if_pos (by omega)]
 rw [Option.bind_some,this];rfl
theorem zu9 (e1:sealP l (crtM 4 0 0 1 [r] id)=(some b,l')): ∃sl,zch 4 0 1 [r] (agS f id p 0 0 0 [],l)=(agS f id {p with sl:=voteS p.sl 4 id sl [r]} 0 0 0 ((zav (3*f+1) id).map fun k=>(k,b)),l'):=by
 have e5:sendS (agS f id p 0 0 0 [],l) (balM' 4 (agS f id p 0 0 0 []).view ((0:Nat):Int) 1 [r])=(agS f id p 0 0 0 ((zav (3*f+1) id).map fun k=>(k,b)),l'):=by
  unfold sendS;have hm:zl0 (balM' 4 (agS f id p 0 0 0 []).view ((0:Nat):Int) 1 [r]) (agS f id p 0 0 0 []).id=crtM 4 0 0 1 [r] id:=rfl;simp only;rw [hm,e1];rfl
 refine ⟨sendN (agS f id p 0 0 0 [],l) (balM' 4 (agS f id p 0 0 0 []).view ((0:Nat):Int) 1 [r]),?_⟩;unfold zch;simp only;rw [e5];simp only;rw [ag_at,zwo,ag_set];rfl
def agQ (f:Nat) (r:Rq):Pl:= {zbq f with sl:= {(zbq f).sl with has:=true,batch:=[r]}}
theorem zy3 (hq:RqGood 2 r) (hf1:1≤f) (hf:f≤4) (h0:0≤id) (h1:id≤3*f) (hn:l.length≤900000000):
  ∃p b l',zch 4 0 1 [r] (agS f id (agQ f r) 0 0 0 [],l)=(agS f id p 0 0 0 ((zav (3*f+1) id).map fun k=>(k,b)),l')∧prepI (ordI f 4 p) 1=none∧commI (ordI f 4 p) 1=none∧(p.sl.has=true∧zbj p.sl=[r]∧p.done=false)∧sealP l' (crtM 4 0 0 1 [r] id)=(some b,l')∧Px l l'∧l'.length≤l.length+1:=by
 obtain ⟨b,l',e1,e2,e3,e4⟩:=zzv (f:=f) (l:=l) (k:=id) (r:=r) (cl:=2) (by omega) hf h0 h1 hq;obtain ⟨n,hnid⟩: ∃n:Nat,id=(n:Int):=⟨id.toNat,by omega⟩;subst hnid;have hn3:n≤3*f:=by omega
 have hP0:OrP f r 0 (fun _=>false) 0 (fun _=>false) (agQ f r):=⟨rfl,rfl,VtL.none f [r],VtL.none f [r],by simp [agQ,zbq],rfl⟩;obtain ⟨sl,e6⟩:=zu9 (f:=f) (p:=agQ f r) e1;have hP:=hP0.vote4 (sl:=sl) hn3 rfl (by simp;omega);have hv:=hP0.vote4s (sl:=sl) hn3 rfl;refine ⟨{agQ f r with sl:=voteS (agQ f r).sl 4 (n:Int) sl [r]},b,l',e6,hP.noPrep (.inl (by omega)) (by omega),hP.noComm (by omega),⟨hP.has,?_,hP.done⟩,e2,e3,e4⟩;show zbj (voteS (agQ f r).sl 4 (n:Int) sl [r])=[r];rw [hv];rfl
theorem ag_pre (hf1:1≤f):zbc (newS (stdC f) id) 0 (preI (insAt (newS (stdC f) id) 0) 1 [r])=agS f id (agQ f r) 0 0 0 []:=by
 rw [ag_new,ag_at,ordI_pre [r] rfl (by omega),ag_set];rfl
theorem znk:(zau (insAt (agS f id (agQ f r) 0 0 0 []) 0) 1).1=[r]:=by
 rw [ag_at,zij];rfl
theorem pre_ag (hq:RqGood 2 r) (hf1:1≤f) (hf:f≤4) (h0:0≤id) (h1:id≤3*f) (hb:zd3 l 2 2 [r]=true) (hn:l.length≤900000000):
  ∃p b l',zcn (crtM 3 0 0 1 [r] 0) (newS (stdC f) id,l)=(0,(agS f id p 0 0 0 ((zav (3*f+1) id).map fun k=>(k,b)),l'))∧(p.sl.has=true∧zbj p.sl=[r]∧p.done=false)∧sealP l' (crtM 4 0 0 1 [r] id)=(some b,l')∧Px l l'∧l'.length≤l.length+1:=by
 obtain ⟨p,b,l',e6,n1,n2,hp,e2,e3,e4⟩:=zy3 (l:=l) hq hf1 hf h0 h1 hn;refine ⟨p,b,l',?_,hp,e2,e3,e4⟩;unfold zcn;have hb':zd3 l (newS (stdC f) id).c.bt (newS (stdC f) id).c.cl (crtM 3 0 0 1 [r] 0).rs=true:=hb;have hpb:preB (insAt (newS (stdC f) id) (crtM 3 0 0 1 [r] 0).inst.toNat) (crtM 3 0 0 1 [r] 0).seq=true:=by
  show preB (insAt (newS (stdC f) id) 0) 1=true;rw [ag_new,ag_at,zoa rfl (by omega)]
 rw [hb',if_neg (by simp),hpb,if_neg (by rintro (h | h);exact h rfl;cases h)]
 show (0,zb7 0 1 (zbc (newS (stdC f) id) 0 (preI (insAt (newS (stdC f) id) 0) 1 [r]),l))=_;rw [ag_pre hf1];unfold zb7;simp only;rw [znk,e6,zv2]
 ·rw [ag_at,n1]
 ·rw [ag_at,n2]
theorem ztk (q:NSt) (k:Nat) (h:q.1.tab=[]):zbb q k=q:=by
 unfold zbb;simp only [h,zak,List.filter_nil,List.map_nil,pickB,List.foldl_nil,List.isEmpty_nil,Bool.true_or,if_true,ite_self]
theorem zt3 {k j:Nat} (h:(zau (insAt (agS f id p u t st out) k) ((j:Int)+1)).2=false):zdi k (agS f id p u t st out,l) j=(agS f id p u t st out,l):=by
 unfold zdi;simp only;rw [h,if_pos (by simp)]
theorem slots_no {k:Nat} (hk:0<k) (hk2:k<f+1):zd6 (agS f id p u t st out,l) k=(agS f id p u t st out,l):=by
 unfold zd6;split
 ·exact zg2 _ _ _ (fun j _=>zt3 (by rw [ag_at2 hk hk2];exact zrd _ _ _))
 ·rfl
theorem send_ag (hs:sealP l (crtM 4 0 0 1 [r] id)=(some b,l)):sendS (agS f id p u t st out,l) (balM' 4 0 0 1 [r])=(agS f id p u t st (out++(zav (3*f+1) id).map fun k=>(k,b)),l):=by
 unfold sendS;have hm:zl0 (balM' 4 0 0 1 [r]) (agS f id p u t st out).id=crtM 4 0 0 1 [r] id:=rfl;simp only;rw [hm,hs];rfl
theorem zxf (h0:id≠0) (hp:p.sl.has=true∧zbj p.sl=[r]∧p.done=false) (hs:sealP l (crtM 4 0 0 1 [r] id)=(some b,l)):
  zd6 (agS f id p u t st out,l) 0=(agS f id p u t st (out++(zav (3*f+1) id).map fun k=>(k,b)),l):=by
 have e0:zdi 0 (agS f id p u t st out,l) 0=(agS f id p u t st (out++(zav (3*f+1) id).map fun k=>(k,b)),l):=by
  unfold zdi;simp only;have h1:((0:Nat):Int)+1=1:=rfl;rw [h1,ag_at,zij,zfb,hp.1,hp.2.1,hp.2.2];rw [if_neg (by simp)];have h2:decide (zam (agS f id p u t st out).c.f (agS f id p u t st out).view ((0:Nat):Int)=(agS f id p u t st out).id)=false:=by
   rw [decide_eq_false_iff_not];show¬zam f 0 0=id;have:zam f 0 0=0:=by unfold zam;simp
   omega
  have h3: ¬rowAt (agS f id p u t st out).com 0 (0+1)=(agS f id p u t st out).view+1:=by
   show¬rowAt (List.replicate (f+1) (List.replicate 17 0)) 0 1=1;rw [List.replicate_succ];show¬((0:Int)=1);decide
  rw [h2,Bool.false_and,if_neg (show¬(false=true) by simp)];simp only;have h4:sendS (agS f id p u t st out,l) (balM' 4 (agS f id p u t st out).view ((0:Nat):Int) 1 [r])=(agS f id p u t st (out++(zav (3*f+1) id).map fun k=>(k,b)),l):=send_ag hs;rw [h4,if_neg h3]
 unfold zd6;rw [if_pos (by show (insAt (agS f id p u t st out) 0).on=true;rw [ag_at];rfl)];have hr:List.range 16=0::(List.range 15).map Nat.succ:=List.range_succ_eq_map;rw [hr,List.foldl_cons,e0];refine zg2 _ _ _ (fun j hj=>zt3 ?_);rw [List.mem_map] at hj;obtain ⟨i,hi,rfl⟩:=hj;rw [List.mem_range] at hi;rw [ag_at];exact zpi (by omega) (by omega)
theorem zzq (h0:id≠0) (hp:p.sl.has=true∧zbj p.sl=[r]∧p.done=false) (hs:sealP l (crtM 4 0 0 1 [r] id)=(some b,l)):
  zh0 (agS f id p u t st out,l)=(agS f id p u t st (out++(zav (3*f+1) id).map fun k=>(k,b)),l):=by
 obtain ⟨o2,ho2⟩: ∃o2,o2=out++(zav (3*f+1) id).map fun k=>(k,b):=⟨_,rfl⟩;have e1:(List.range ((agS f id p u t st out,l):NSt).1.c.f.succ).foldl zd6 (agS f id p u t st out,l)=(agS f id p u t st o2,l):=by
  rw [List.range_succ_eq_map,List.foldl_cons,zxf h0 hp hs,←ho2];refine zg2 _ _ _ (fun k hk=> ?_);rw [List.mem_map] at hk;obtain ⟨i,hi,rfl⟩:=hk;rw [List.mem_range] at hi;exact slots_no (by omega) (by have:i<f:=hi;omega)
 have e3:allOn (agS f id p u t st o2)=true:=by
  unfold allOn;rw [zzo,List.all_cons,List.all_map];show (true&&_)=true;rw [Bool.true_and,List.all_eq_true];intro k _;rfl
 have e4:(agS f id p u t st o2).bg.foldl bgOne (agS f id p u t st o2,l)=(agS f id p u t st o2,l):=by
  refine zg2 _ _ _ (fun k hk=> ?_);have:k=(0,noMs):=List.eq_of_mem_replicate hk;subst this;exact if_neg (by rintro ⟨-,h⟩;exact absurd h (by simp))
 have e5:(agS f id p u t st o2).ins.foldl pfOne (agS f id p u t st o2,l)=(agS f id p u t st o2,l):=by
  refine zg2 _ _ _ (fun i hi=> ?_);have hd:doneI i=0:=by
   rw [zzo,List.mem_cons,List.mem_map] at hi;rcases hi with rfl | ⟨k,_,rfl⟩
   ·rw [zwm,hp.2.2];rfl
   ·exact zz2 _ _
  unfold pfOne;rw [hd,if_neg (by omega)]
 unfold zh0;simp only;rw [show (List.range ((agS f id p u t st out).c.f+1)).foldl zd6 (agS f id p u t st out,l)=(agS f id p u t st o2,l) from e1];simp only;rw [if_neg (show¬(agS f id p u t st o2).voted=(agS f id p u t st o2).view by show¬((-1:Int)=0);omega)];simp only [e3,if_true];rw [e4];simp only;rw [e5,ho2];rfl
theorem zlw (h1:1≤f) (h2:f≤4):zcq (agS f id p u t st out).c (agS f id p u t st out).mt=false:=by
 show zcq (stdC f) (List.replicate (f+1) (0,0))=false;have:f=1∨f=2∨f=3∨f=4:=by omega
 rcases this with rfl | rfl | rfl | rfl<;>decide
theorem end_ag (h1:1≤f) (h2:f≤4):zix (agS f id p u t st out,l)=(agS f id p u t (if t<st+8 then st else t) out,l):=by
 unfold zix;by_cases h:t<st+8
 ·rw [if_pos (by exact h),if_pos h]
 ·rw [if_neg (by exact h),if_neg h]
  simp only;rw [zlw h1 h2,Bool.and_false,if_neg (by simp)];have hr:zh7 (agS f id p u t st out)=agS f id p u t st out:=by
   unfold zh7;have:(agS f id p u t st out).mt.map (fun _=>((0,0):Int×Int))=(agS f id p u t st out).mt:=by
    show (List.replicate (f+1) ((0,0):Int×Int)).map _=List.replicate (f+1) (0,0);rw [List.map_replicate]
   rw [this]
  simp only [hr];rfl
theorem zlt (h0:id≠0) (hp:p.sl.has=true∧zbj p.sl=[r]∧p.done=false) (hs:sealP l (crtM 4 0 0 1 [r] id)=(some b,l)):
  ∃o2,o2=(if (t+1)%2=0 then out++(zav (3*f+1) id).map fun k=>(k,b) else out)∧tick1 (zgg (agS f id p u t st out,l))=(agS f id p u (t+1) st out,l)∧tick2 (agS f id p u (t+1) st out,l)=(agS f id p u (t+1) st o2,l)∧tick3 (agS f id p u (t+1) st o2,l)=(agS f id p u (t+1) st o2,l)∧tick4 (agS f id p u (t+1) st o2,l)=(agS f id p u (t+1) st o2,l)∧(insAt (agS f id p u (t+1) st o2) 0).on=true∧oldP (agS f id p u (t+1) st o2)=false:=by
 have e1:(List.range (f+1)).foldl zbb (agS f id p u (t+1) st out,l)=(agS f id p u (t+1) st out,l):=zg2 _ _ _ (fun k _=>ztk _ k rfl);have e2:(if (t+1)%2=0 then zh0 (agS f id p u (t+1) st out,l) else (agS f id p u (t+1) st out,l))=(agS f id p u (t+1) st (if (t+1)%2=0 then out++(zav (3*f+1) id).map fun k=>(k,b) else out),l):=by
  by_cases h:(t+1)%2=0
  ·rw [if_pos h,if_pos h,zzq h0 hp hs]
  ·rw [if_neg h,if_neg h]
 obtain ⟨o2,ho2⟩: ∃o2,o2=(if (t+1)%2=0 then out++(zav (3*f+1) id).map fun k=>(k,b) else out):=⟨_,rfl⟩;rw [←ho2] at e2;have h3:(insAt (agS f id p u (t+1) st o2) 0).on=true:=by rw [ag_at];rfl
 have h4:oldP (agS f id p u (t+1) st o2)=false:=rfl;exact ⟨o2,ho2,e1,e2,if_neg (by rw [h3];simp),if_neg (by rw [h4,Bool.and_false];simp),h3,h4⟩
theorem tick_ag (h1:1≤f) (h2:f≤4) (h0:id≠0) (hp:p.sl.has=true∧zbj p.sl=[r]∧p.done=false) (hs:sealP l (crtM 4 0 0 1 [r] id)=(some b,l)) (ht:t<1048576):
  tickS (agS f id p u t st out,l)=(agS f id p u (t+1) (if t+1<st+8 then st else t+1) (if (t+1)%2=0 then out++(zav (3*f+1) id).map fun k=>(k,b) else out),l):=by
 obtain ⟨o2,ho2,g1,g2,g3,g4,-,-⟩:=zlt (u:=u) (t:=t) (st:=st) (out:=out) h0 hp hs;rw [←ho2,zuh,if_neg (by show¬(false=true);simp),if_neg (by show¬(1048576≤t);omega),g1,g2,g3,g4];exact end_ag h1 h2
end
theorem znt (w:World) (a b:Nat):(w.drewN a).drewN b=w.drewN (a+b):=by
 unfold World.drewN;simp only [Nat.add_assoc]
theorem byt_at {w:World} {ao:Option Addr} {n cap:Nat} {bs:Bys} (h:Byt w (.slice ao n cap) bs) (m k:Nat) (hk:k<bs.length): ∃b o,ao=some ⟨b,o,none⟩∧(w.drewN m).cell? ⟨b,o+k,none⟩=some (.int .u8 (bs[k]:Int)):=zq6 h k hk
theorem zw7 {v u:Value} {bs:Bys} (w:World) (h1:Byt w v bs) (h2:Byt w u bs) (hl:bs.length≤65536):
  Calls Tryz.prog 107 #[v,u] w fun e w'=>e= .returned (.bool true)∧ ∃n,w'=w.drewN n:=by
 obtain ⟨ao,cap,rfl,hc1,hc2⟩:=zb1 h1;obtain ⟨bo,cap',rfl,hd1,hd2⟩:=zb1 h2;have H1:=zq (fun m k hk=>byt_at h1 m k hk);have H2:=zq (fun m k hk=>byt_at h2 m k hk);clear h1 h2;obtain ⟨n,hn⟩: ∃n,n=bs.length:=⟨_,rfl⟩;have hcI:(n:Int)≤(cap:Int):=by omega
 have hdI:(n:Int)≤(cap':Int):=by omega
 have hnl:n≤65536:=by omega
 rw [←hn];have HN:=zq hn;clear hc1 hc2 hd1 hd2 hn hl;have hlb:((n:Int) !=(n:Int))=false:=by simp
 go_enter Tryz.func107,Tryz.ntmps107
 go_wp2_with fail
 go_loopw [5] (fun i wr=> ∃k:Nat,k≤n∧i= .int .i64 k∧ ∃m,wr=w.drewN m) (fun i _=>n-(intOf i).toNat)
 case atStart=>exact ⟨0,by omega,rfl,⟨0,rfl⟩⟩
 case round=>
  obtain ⟨k,hk,rfl,m,hm⟩:=hrel;by_cases hlt:k<n
  ·obtain ⟨b,o,rfl,q0⟩:=H1.out m k (by have:=HN.out;omega)
   obtain ⟨b',o',rfl,p0⟩:=H2.out m k (by have:=HN.out;omega);rw [←hm] at q0 p0;have HM:=zq hm;clear hm H1 H2;generalize bs[k]'_=c at*;have hkI:(k:Int)<(n:Int):=by omega
   have hne:((c:Int) !=(c:Int))=false:=by simp
   go_wp2_with fail
   go_quiet (fail)
   go_wp2_with fail
   go_roundw
   case rel=>exact ⟨k+1,by omega,by go_num,_,(by rw [HM.out];exact znt _ _ _)⟩
   case measure=>simp [intOf];omega
  ·subst hm
   go_wp2_with fail
   go_ret
   exact ⟨rfl,_,rfl⟩
def SdsAt (w:World) (v:Value) (os:List Sd):Prop:=Reads w v 2 os.length (os.flatMap sdC)∧ ∀o∈os,Byt w o.v o.b∧o.b.length≤65536
theorem SdsAt.cell {w:World} {a:Option Addr} {n k:Nat} {os:List Sd} (h:SdsAt w (.slice a n k) os) (j:Nat) (hj:j<os.length): ∃b o,a=some ⟨b,o,none⟩∧w.cell? ⟨b,o+j*2,none⟩=some (.int .i64 os[j].dst)∧w.cell? ⟨b,o+j*2+1,none⟩=some os[j].v:=by
 obtain ⟨⟨ao',cap',hv,h1,h2,h3,h4,h5⟩,-⟩:=h;simp only [Value.slice.injEq] at hv;obtain ⟨rfl,rfl,rfl⟩:=hv;obtain ⟨b,o,rfl,hb,hc⟩:=h5 (by omega);have g0:=hc (j*2) (by omega);have g1:=hc (j*2+1) (by omega);have e0:=zea sdC 2 (fun _=>rfl) os j 0 hj (by omega);have e1:=zea sdC 2 (fun _=>rfl) os j 1 hj (by omega);rw [Nat.add_zero] at e0;rw [e0] at g0;rw [e1] at g1;exact ⟨b,o,rfl,g0.trans rfl,by rw [Nat.add_assoc];exact g1.trans rfl⟩
theorem SdsAt.form {w:World} {v:Value} {os:List Sd} (h:SdsAt w v os): ∃ao cap,v= .slice ao os.length cap∧os.length≤cap∧cap≤maxLen:=let ⟨ao,cap,hv,h1,h2,_⟩:=h.1;⟨ao,cap,hv,h1,h2⟩
theorem SdsAt.draw {w:World} {v:Value} {os:List Sd} (h:SdsAt w v os) (n:Nat):SdsAt (w.drewN n) v os:=⟨h.1.upd (M:=[]) ((Upd.refl _ _).drewN n) (by simp),fun o ho=>⟨(h.2 o ho).1.upd ((Upd.refl _ _).drewN n),(h.2 o ho).2⟩⟩
theorem zxa {v u:Value} {os os':List Sd} (w:World) (h1:SdsAt w v os) (h2:SdsAt w u os') (he:os.map Sd.p=os'.map Sd.p) (hl:os.length≤1000000):
  Calls Tryz.prog 45 #[v,u] w fun e w'=>e= .returned (.bool true)∧ ∃n,w'=w.drewN n:=by
 obtain ⟨ao,cap,rfl,hc1,hc2⟩:=h1.form;obtain ⟨bo,cap',rfl,hd1,hd2⟩:=h2.form;have hlen:os'.length=os.length:=by have:=congrArg List.length he;simpa using this.symm
 have HP:Hid (∀j (hj:j<os.length) (hj':j<os'.length),os[j].dst=os'[j].dst∧os[j].b=os'[j].b):=zq (fun j hj hj'=>by
  have h3:(os.map Sd.p)[j]?=(os'.map Sd.p)[j]?:=by rw [he]
  rw [List.getElem?_map,List.getElem?_map,List.getElem?_eq_getElem hj,List.getElem?_eq_getElem hj'] at h3;simp only [Option.map_some,Option.some.injEq,Sd.p,Prod.mk.injEq] at h3;exact h3)
 have H1:=zq h1;have H2:=zq h2;have HL:=zq hlen;obtain ⟨n,hn⟩: ∃n,n=os.length:=⟨_,rfl⟩;have hcI:(n:Int)≤(cap:Int):=by omega
 have hdI:(n:Int)≤(cap':Int):=by omega
 have hnl:n≤1000000:=by omega
 rw [hlen,←hn];have HN:=zq hn;clear hc1 hc2 hd1 hd2 hn hl h1 h2 he hlen;have hlb:((n:Int) !=(n:Int))=false:=by simp
 go_enter Tryz.func45,Tryz.ntmps45
 go_wp2_with fail
 go_loopw [5] (fun i wr=> ∃k:Nat,k≤n∧i= .int .i64 k∧ ∃m,wr=w.drewN m) (fun i _=>n-(intOf i).toNat)
 case atStart=>exact ⟨0,by omega,rfl,⟨0,rfl⟩⟩
 case round=>
  obtain ⟨k,hk,rfl,m,hm⟩:=hrel;by_cases hlt:k<n
  ·have hk1:k<os.length:=by have:=HN.out;omega
   have hk2:k<os'.length:=by have:=HN.out;have:=HL.out;omega
   obtain ⟨b,o,rfl,q0,q1⟩:=(H1.out.draw m).cell k hk1;obtain ⟨b',o',rfl,p0,p1⟩:=(H2.out.draw m).cell k hk2;obtain ⟨z0,z1⟩:=HP.out k hk1 hk2;have g1:=H1.out.2 os[k] (List.getElem_mem hk1);have g2:=H2.out.2 os'[k] (List.getElem_mem hk2);rw [←hm] at q0 q1 p0 p1;rw [←z0] at p0;rw [←z1] at g2;obtain ⟨a1,c1,hv1,-,-⟩:=zb1 g1.1;obtain ⟨a2,c2,hv2,-,-⟩:=zb1 g2.1;have HS:Hid (∀j,Calls Tryz.prog 107 #[os[k].v,os'[k].v] (wr.drewN j) fun e w'=>e= .returned (.bool true)∧ ∃n,w'=wr.drewN n):=zq (fun j=>by
    have hu:Upd [] w (wr.drewN j):=by rw [hm];exact ((Upd.refl _ _).drewN m).drewN j
    exact zbs (zw7 (wr.drewN j) (g1.1.upd hu) (g2.1.upd hu) g1.2))
   rw [hv1] at q1 HS;rw [hv2] at p1 HS;have HM:=zq hm;clear hm H1 H2 g1 g2 z0 z1 HP hv1 hv2;generalize os[k].b.length=bl at*;generalize os[k].dst=d at*;clear hk1 hk2;have hkI:(k:Int)<(n:Int):=by omega
   have hne:((d:Int) !=(d:Int))=false:=by simp
   go_wp2_with fail
   go_quiet ((go_at_call 107;exact HS.out _))
   go_wp2_with fail
   go_roundw
   case rel=>exact ⟨k+1,by omega,by go_num,_,(by rw [HM.out];exact znt _ _ _)⟩
   case measure=>simp [intOf];omega
  ·subst hm
   go_wp2_with fail
   go_ret
   exact ⟨rfl,_,rfl⟩
section
variable {B:Nat} {w0 w W W':World} {ss rs:List Res} {x:Np} {s s':Ns} {l l':Nt} {rn:Nat} {vp vb:Value} {vt:Rn} {f id:Nat} {r:Rq}
theorem quiet_ag (hq:RqGood 2 r) (hf1:1≤f) (hf:f≤4) (hid:id≤3*f) (hn:l.length≤900000000):zw1 0 1 (zbc (newS (stdC f) (id:Int)) 0 (preI (insAt (newS (stdC f) (id:Int)) 0) 1 [r]),l):=by
 obtain ⟨p,b,l',e6,n1,n2,-⟩:=zy3 (l:=l) (id:=(id:Int)) hq hf1 hf (by omega) (by omega) hn;rw [ag_pre hf1];unfold zw1;simp only;rw [znk,e6];have e:look1 0 1 (agS f (id:Int) p 0 0 0 ((zav (3*f+1) (id:Int)).map fun k=>(k,b)),l')=(agS f (id:Int) p 0 0 0 ((zav (3*f+1) (id:Int)).map fun k=>(k,b)),l'):=by
  unfold look1;simp only;rw [ag_at,n1]
 rw [e];simp only;rw [ag_at,n2]
theorem give_ag (h:NdIs B w0 W x (newS (stdC f) (id:Int)) l (mmR (balW 3 0 0 1 vb [r] 0) (rnR rn vp vt l ss))) (hf1:1≤f) (hf2:f≤4) (hid:id≤3*f) (hq:RqGood 2 r) (hb:zd3 l 2 2 [r]=true) (hn:l.length≤900):
  Calls Tryz.prog 23 #[ptrV x.p,.agg (twA x.nt rn),.agg (mmA (balW 3 0 0 1 vb [r] 0))] W fun e w'=>e= .returned (.tuple #[])∧ ∃p b l' vp' vt',(p.sl.has=true∧zbj p.sl=[r]∧p.done=false)∧sealP l' (crtM 4 0 0 1 [r] (id:Int))=(some b,l')∧l'.length≤l.length+2∧NdIs B w0 w' x (agS f (id:Int) p 1 0 0 ((zav (3*f+1) (id:Int)).map fun k=>(k,b))) l' (mmR (balW 3 0 0 1 vb [r] 0) (rnR rn vp' vt' l' ss)):=by
 have hbd:=zq0 (kind:=3) (k:=0) hq.w (by omega) (by omega) (by omega) (by omega);have hp1:=zy6 l 0 (balB 3 r 0);have hl1:=(zjy l 0 (balB 3 r 0)).2;have hb1:=hp1.batch hb;obtain ⟨p,b,l',e1,e2,e5,e3,e4⟩:=pre_ag (l:=sealL l 0 (balB 3 r 0)) (id:=(id:Int)) hq hf1 hf2 (by omega) (by omega) hb1 (by omega);obtain ⟨s',hs'⟩: ∃s',s'=agS f (id:Int) p 0 0 0 ((zav (3*f+1) (id:Int)).map fun k=>(k,b)):=⟨_,rfl⟩;rw [←hs'] at e1;have o1:s'.gd=[]:=by rw [hs'];rfl
 have o2:s'.used=0:=by rw [hs'];rfl
 have o3:s'.bad=0:=by rw [hs'];rfl
 have o4:s'.stale=0:=by rw [hs'];rfl
 have o5:s'.full=0:=by rw [hs'];rfl
 have key:=zvu (m:=balW 3 0 0 1 vb [r] 0) (b:=balB 3 r 0) (v:=0) (p:=(s',l')) h ⟨by simp,by simp,by simp,by simp⟩ (by omega) (by show (0:Int)≤0;omega) (by show (0:Int)≤100;omega) hbd (zx7 _ _ _ _ _ _) (by show formP f 2 (crtM 3 0 0 1 [r] 0)=true;exact zzu hq.ok (.inl rfl) (by omega) (by omega) (fun _=>rfl)) rfl rfl (fun mm hmm=>by
  have e5:mm.kind=3:=congrArg Ms.kind hmm;have e6:mm.inst=0:=congrArg Ms.inst hmm;have e7:mm.rs=[r]:=congrArg Ms.rs hmm;refine zwg e5 (fun W2 ss2 h2=> ?_);have e8:mm.seq=1:=congrArg Ms.seq hmm;have h3:=npre_of (.inl (by
   rw [e6,e7,e8];exact quiet_ag hq hf1 hf2 hid (by show (sealL l 0 (balB 3 r 0)).length≤_;omega))) h2 (by rw [e6];omega) (by rw [e6];omega) (by rw [e7];simp) (by show (sealL l 0 (balB 3 r 0)).length≤_;omega) (by show ([]:List (Int×Bys)).length≤_;simp)
  rw [hmm] at h3;have h4:zcn (balW 3 0 0 1 vb [r] 0).ms (newS (stdC f) (id:Int),sealL l 0 (balB 3 r 0))=(0,(s',l')):=e1;rw [show (balW 3 0 0 1 vb [r] 0).fm=(0:Int) from rfl] at h3;rw [h4] at h3;exact h3) (.inl rfl) (by rw [o1];simp) (by rw [o2];omega) (by rw [o3];omega) (by rw [o4];omega) (by rw [o5];omega)
 refine key.mono ?_;rintro e w' ⟨he,vp',vt',h5⟩;have h6:=(h5.perm (ss':=rnR rn vp' vt' (sealL l 0 (balB 3 r 0)) (mmR (balW 3 0 0 1 vb [r] 0) ss)) ((List.perm_append_comm (l₁:=[_,_,_,_,_,_]) (l₂:=[_,_,_])).append_right ss)).more e3;have h7:=h6.perm (ss':=mmR (balW 3 0 0 1 vb [r] 0) (rnR rn vp' vt' l' ss)) ((List.perm_append_comm (l₁:=[_,_,_]) (l₂:=[_,_,_,_,_,_])).append_right ss);have h8:(zpj (balW 3 0 0 1 vb [r] 0).fm (0,(s',l'))).1=agS f (id:Int) p 1 0 0 ((zav (3*f+1) (id:Int)).map fun k=>(k,b)):=by
  rw [hs'];rfl
 rw [h8] at h7;exact ⟨he,p,b,l',vp',vt',e2,e5,by omega,h7⟩
end
end Go.Proofs.YtannckelmojkoaaGreat
