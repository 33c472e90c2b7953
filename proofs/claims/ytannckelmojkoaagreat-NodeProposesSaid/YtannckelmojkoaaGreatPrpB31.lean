/- Parts of the proof, one behind the other. -/
import Derived.Test.YtannckelmojkoaaGreatPrpB30
set_option maxHeartbeats 32000000
set_option maxRecDepth 100000
set_option linter.unusedVariables false
set_option linter.unusedSimpArgs false
namespace Go.Proofs.YtannckelmojkoaaGreat
open Go.RowKit Go.Heap
theorem Outs.g {n:Nat} {p q:NSt} (h:Outs n p q):KeepG p.1 q.1:=by
 obtain ⟨o,e,-⟩:=h.e;rw [e];exact ⟨rfl,rfl,rfl,rfl,rfl,rfl⟩
theorem Outs.gr {n:Nat} {p q:NSt} (h:Outs n p q) (w:Wf p):Gr n p q:=by
 obtain ⟨-,-,-,e4,-,-,-,e8,-,-⟩:=h.same;exact ⟨h.outl,h.nt,h.c,w.sm.ins e4,w.pt.of e8,h.g⟩
def pr1 (p:NSt) (k:Nat):NSt:=(List.range k).foldl zaw p
theorem zi4 (p:NSt) (k:Nat):pr1 p (k+1)=zaw (pr1 p k) k:=zsk _ _ _
theorem gr_pr1 {p:NSt} (h:Wf p) (k:Nat):Gr (103*k) p (pr1 p k):=(zqy zaw 103 zj0 _ p h).mono (by rw [List.length_range];omega)
theorem ztj (s:Ns) (l:Nt):tick2 (s,l)=if s.now%s.c.ag=0 then zle (s,l) else (s,l):=rfl
theorem ztk (s:Ns) (l:Nt):tick3 (s,l)=if !(insAt s 0).on&&decide (s.since+s.c.wa≤s.now) then zfk (s,l) else (s,l):=rfl
theorem ztl (s:Ns) (l:Nt):tick4 (s,l)=if (insAt s 0).on&&oldP s then zfk (s,l) else (s,l):=rfl
def tick5 (p:NSt):NSt:=if (insAt p.1 0).on&&zcu p.1.c p.1.mt then zfk p else p
theorem tick5_is (s:Ns) (l:Nt):tick5 (s,l)=if (insAt s 0).on&&zcu s.c s.mt then zfk (s,l) else (s,l):=rfl
theorem ztm {p:NSt} (h:p.1.now<p.1.start+p.1.c.pe):zk6 p=p:=if_pos h
theorem zpm {p:NSt} (h: ¬p.1.now<p.1.start+p.1.c.pe):zk6 p=({zkk (tick5 p).1 with start:=(tick5 p).1.now},(tick5 p).2):=if_neg h
def QT (p:NSt):Prop:=(!(insAt (tick2 (tick1 (zeh p))).1 0).on&&decide ((tick2 (tick1 (zeh p))).1.since+(tick2 (tick1 (zeh p))).1.c.wa≤(tick2 (tick1 (zeh p))).1.now))=false∧((insAt (tick3 (tick2 (tick1 (zeh p)))).1 0).on&&oldP (tick3 (tick2 (tick1 (zeh p)))).1)=false∧((insAt (tick4 (tick3 (tick2 (tick1 (zeh p))))).1 0).on&&zcu (tick4 (tick3 (tick2 (tick1 (zeh p))))).1.c (tick4 (tick3 (tick2 (tick1 (zeh p))))).1.mt)=false
def LvA (B:Nat) (w0:World) (x:Np):Prop:=(∀(p:NSt) (W:World) (ss:List Res),NdIs B w0 W x p.1 p.2 ss→Wf p→p.2.length≤200000000→p.1.out.length≤200000000→
  Calls Tryz.prog 92 #[ptrV x.p] W fun e w'=>e= .returned (.tuple #[])∧NdIs B w0 w' x (zfk p).1 (zfk p).2 ss)∧ ∀p:NSt,Wf p→Gr 7291 p (zfk p)
theorem gr_if {B:Nat} {w0:World} {x:Np} {p q:NSt} {b:Bool} (hb:b=false∨LvA B w0 x) (h:Wf p) (e:q=if b then zfk p else p):Gr 7291 p q:=by
 rw [e];cases b with
 | false=>exact (Gr.refl h).mono (by omega)
 | true=>
  rcases hb with hb | hb
  ·cases hb
  ·exact hb.2 p h
theorem lv_of {B:Nat} {w0:World} {x:Np} (h:true=false∨LvA B w0 x):LvA B w0 x:=by
 rcases h with h | h
 ·cases h
 ·exact h
def QA (p:NSt):Prop:= ¬(tick1 (zeh p)).1.now%(tick1 (zeh p)).1.c.ag=0
def AgA (B:Nat) (w0:World) (x:Np):Prop:=(∀(p:NSt) (W:World) (ss:List Res),NdIs B w0 W x p.1 p.2 ss→p.2.length≤200000000→p.1.out.length≤200000000→
  Calls Tryz.prog 91 #[ptrV x.p] W fun e w'=>e= .returned (.tuple #[])∧NdIs B w0 w' x (zle p).1 (zle p).2 ss)∧ ∀p:NSt,p.1.c.f≤4→p.1.bg.length≤5→p.1.ins.length≤5→p.1.tab.length≤16→Outs 3500 p (zle p)
section
variable {B:Nat} {w0 w W W':World} {ss rs:List Res} {x:Np} {s s':Ns} {l l':Nt} {k:Nat}
theorem zrj (p:NSt) (HQ:PrQ p k∨CmtC B w0 x) (h:NdIs B w0 W x p.1 p.2 ss) (hk:k<p.1.c.f+1) (hn:p.2.length≤500000000) (ho:p.1.out.length≤500000000):
  Calls Tryz.prog 89 #[ptrV x.p,.int .i64 k] W fun e w'=>e= .returned (.tuple #[])∧NdIs B w0 w' x (zaw p k).1 (zaw p k).2 ss:=zo2 HQ h hk hn ho
theorem zl0 (HQ:(∀k,k<s.c.f+1→PrQ (pr1 (zeh (s,l)) k) k)∨CmtC B w0 x) (HA:QA (s,l)∨AgA B w0 x) (HL:QT (s,l)∨LvA B w0 x) (h:NdIs B w0 W x s l ss) (hp:PtOk s) (hn:l.length≤100000000) (ho:s.out.length≤100000000):
  Calls Tryz.prog 33 #[ptrV x.p] W fun e w'=>e= .returned (.tuple #[])∧NdIs B w0 w' x (tickS (s,l)).1 (tickS (s,l)).2 ss∧Gr 30000 (s,l) (tickS (s,l)):=by
 have wf0:Wf (s,l):=⟨h.ok.c,SmN.of s h.ok,hp⟩;have c33:=h.cell 33 rfl (by decide);have c17:=h.cell 17 rfl (by decide);obtain ⟨fin,hfin⟩: ∃fin,fin=tickS (s,l):=⟨_,rfl⟩;rw [←hfin];have hfin:=hfin.trans (zms (s,l));cases hst:s.stop with
 | true=>
  rw [hst] at c33;have e:fin=(s,l):=by rw [hfin];exact if_pos hst
  have HF:Hid (NdIs B w0 W x fin.1 fin.2 ss∧Gr 30000 (s,l) fin):=zq (by rw [e];exact ⟨h,(Gr.refl wf0).mono (by omega)⟩);clear HQ HA HL h hfin hst e wf0 hp;go_enter Tryz.func33,Tryz.ntmps33
  go_wp2_with fail
  refine bodyPost_ret (v:= .tuple #[]) (results_none rfl _ _ _) rfl ?_;exact ⟨rfl,HF.out⟩
 | false=>
 rw [hst] at c33;have hfin:=hfin.trans (if_neg (by simp only [hst];decide));by_cases hnow:s.now<1048576
 case neg=>
  have HT:=zq (zo1 h hnow);have e:fin=({s with stop:=true},l):=by rw [hfin];exact if_pos (by simp only;omega)
  have z33:=h.fz 33;have HF:Hid (NdIs B w0 (W.setCell ⟨x.p,33,none⟩ (.bool true)) x fin.1 fin.2 ss∧Gr 30000 (s,l) fin):=zq (by
   rw [e];refine ⟨h.putStop true,?_⟩;exact (Gr.mono (n:=0) ⟨Nat.le_refl _,Nat.le_refl _,rfl,fun j=>wf0.sm j,wf0.pt,⟨rfl,rfl,rfl,rfl,rfl,rfl⟩⟩ (by omega)))
  clear HQ HA HL h hfin hst e wf0 hp hnow;go_enter Tryz.func33,Tryz.ntmps33
  go_wp2_with fail
  with_reducible refine HT.out.mono ?_
  rintro e w' ⟨rfl,rfl⟩
  go_wp2_with fail
  refine bodyPost_ret (v:= .tuple #[]) (results_none rfl _ _ _) rfl ?_;exact ⟨rfl,HF.out⟩
 case pos=>
 have hfin:=hfin.trans (if_neg (by simp only;omega));have HT:=zq (nd_tick h hnow);obtain ⟨su,hsu⟩: ∃su:Ns,su= {s with now:=s.now+1}:=⟨_,rfl⟩;have hup:zeh (s,l)=(su,l):=by rw [hsu];rfl
 rw [hup] at hfin;rw [←hsu] at HT;have hf2:=h.ok.c.f2;have wfu:Wf (su,l):=by rw [hsu];exact ⟨wf0.c,fun j=>wf0.sm j,wf0.pt⟩
 have HG0:Hid (Gr 0 (s,l) (su,l)):=zq (by rw [hsu];exact ⟨Nat.le_refl _,Nat.le_refl _,rfl,fun j=>wf0.sm j,wf0.pt,⟨rfl,rfl,rfl,rfl,rfl,rfl⟩⟩);have hcu:su.c=s.c:=by rw [hsu]
 have hou:su.out=s.out:=by rw [hsu]
 have hou2:su.out.length≤100000000:=by rw [hou];exact ho
 have hfu:su.c.f≤4:=by rw [hcu];exact hf2
 obtain ⟨p1,hp1⟩: ∃p1,p1=tick1 (su,l):=⟨_,rfl⟩;obtain ⟨p2,hp2⟩: ∃p2,p2=tick2 p1:=⟨_,rfl⟩;obtain ⟨p3,hp3⟩: ∃p3,p3=tick3 p2:=⟨_,rfl⟩;obtain ⟨p4,hp4⟩: ∃p4,p4=tick4 p3:=⟨_,rfl⟩;rw [←hp1,←hp2,←hp3,←hp4] at hfin;have HL:((!(insAt p2.1 0).on&&decide (p2.1.since+p2.1.c.wa≤p2.1.now))=false∧((insAt p3.1 0).on&&oldP p3.1)=false∧((insAt p4.1 0).on&&zcu p4.1.c p4.1.mt)=false)∨LvA B w0 x:=by
  unfold QT at HL;rw [hup,←hp1,←hp2,←hp3,←hp4] at HL;exact HL
 have HL3:=zq (HL.imp (fun q=>q.1) id);have HL4:=zq (HL.imp (fun q=>q.2.1) id);have HL5:=zq (HL.imp (fun q=>q.2.2) id);have HQ1:Hid ((∀k,k<su.c.f+1→PrQ (pr1 (su,l) k) k)∨CmtC B w0 x):=zq (HQ.imp (fun q k hk=>by
  have:=q k (by rw [←hcu];exact hk);rw [hup] at this;exact this) id)
 have HA1:Hid ((¬p1.1.now%p1.1.c.ag=0)∨AgA B w0 x):=zq (by
  unfold QA at HA;rw [hup,←hp1] at HA;exact HA)
 have HFIN:=zq hfin;have HP1:=zq hp1;have HP2:=zq hp2;have HP3:=zq hp3;have HP4:=zq hp4;have g1:=zzb wfu;rw [←hp1] at g1;have HG1:=zq g1;have HWU:=zq wfu;have hicI:(su.c.f:Int)+1≤(x.ic:Int):=by rw [hcu];have:=h.caps.1;omega
 clear HQ HA HL h hfin hst wf0 hp hnow hsu hup wfu hcu hou hp1 hp2 hp3 hp4 g1 ho hf2;clear hfin;clear hfin;clear hfin;go_enter Tryz.func33,Tryz.ntmps33
 go_wp2_with fail
 with_reducible refine HT.out.mono ?_
 rintro e w1 ⟨rfl,h1⟩;have H0:=zq h1;have c18:w1.cell? ⟨x.p,18,none⟩=some (slI x.ib (su.c.f+1) x.ic):=h1.cell 18 rfl (by decide);clear h1 HT c33 c17
 go_upto_block 0 with fail
 go_cut [] (fun wx=>Hid (NdIs B w0 wx x p1.1 p1.2 ss))
 case first=>
  go_wp2_with fail
  go_loopw [21] (fun n wr=> ∃k:Nat,k≤su.c.f+1∧n= .int .i64 k∧Hid (NdIs B w0 wr x (pr1 (su,l) k).1 (pr1 (su,l) k).2 ss)) (fun n _=>su.c.f+1-(intOf n).toNat)
  case atStart=>exact ⟨0,by omega,rfl,H0⟩
  case round=>
   clear H0 c18;obtain ⟨k,hk,rfl,H⟩:=hrel;have hk0:(0:Int)≤(k:Int):=by omega
   by_cases hlt:k<su.c.f+1
   ·have hkI:(k:Int)<(su.c.f:Int)+1:=by omega
    have hO:=gr_pr1 HWU.out k;have h1:=hO.nt;have h2:=hO.out;have h3:=hO.c;have HST:=zq (zi4 (su,l) k);simp only at h1 h2 h3;have HC:=zq (zrj (pr1 (su,l) k) (HQ1.out.imp (fun q=>q k hlt) id) H.out (by rw [h3];exact hlt) (by omega) (by omega));rw [←HST.out] at HC;clear hO h1 h2 h3 HST H
    go_wp2_with fail
    with_reducible refine HC.out.mono ?_
    rintro e w2 ⟨rfl,h2⟩;have H2:=zq h2;clear h2 HC
    go_wp2_with fail
    go_roundw
    case rel=>exact ⟨k+1,by omega,by go_num,H2⟩
    case measure=>simp [intOf];omega
   ·obtain rfl:k=su.c.f+1:=by omega
    have hkI:decide (((su.c.f+1:Nat):Int)<(su.c.f:Int)+1)=false:=by simp
    have HF:Hid (NdIs B w0 wr x p1.1 p1.2 ss):=zq (by rw [HP1.out];exact H.out);clear H
    go_wp2_with fail
    go_meet
    exact HF
 case rest=>
 have H1:=hcut;have HW1:=zq (HG1.out.wf HWU.out);have hn1:=HG1.out.nt;have hq1:=HG1.out.out;clear H0 HP1 hcut c18 hicI hfu;obtain ⟨s1,l1⟩:=p1;simp only at hn1 hq1 H1;have hn1:l1.length≤101000000:=by omega
 have hq1:s1.out.length≤101000000:=by omega
 have HP2:=zq (HP2.out.trans (ztj s1 l1));have hno0:=H1.out.ok.now0;have hno1:=H1.out.ok.now1;have hag1:=H1.out.ok.c.ag1;have hag2:=H1.out.ok.c.ag2;have c17:wc.cell? ⟨x.p,17,none⟩=some (ptrV x.t):=H1.out.cell 17 rfl (by decide);have c13:wc.cell? ⟨x.p,13,none⟩=some (.int .i64 s1.c.ag):=H1.out.cell 13 rfl (by decide);have HN:=zq (fun n=>zgw (H1.out.drewN n));obtain ⟨md,hmd⟩: ∃md,md=s1.now%s1.c.ag:=⟨_,rfl⟩;have hdz:s1.c.ag≠0:=by omega
 have htm:s1.now.tmod s1.c.ag=md:=by rw [hmd];exact Int.tmod_eq_emod_of_nonneg hno0
 have hmd0:0≤md:=by rw [hmd];exact Int.emod_nonneg _ hdz
 have hmd1:md<s1.c.ag:=by rw [hmd];exact Int.emod_lt_of_pos _ (by omega)
 have hwm:IntKind.i64.wrap md=md:=IntWalk.i64_in _ (by omega);simp only at HA1;rw [←hmd] at HP2 HA1;clear hmd
 go_upto_region 8 with fail
 go_quiet ((go_at_call 90;exact zas (HN.out _)))
 generalize hw:World.drewN wc _=w2;have H2:Hid (NdIs B w0 w2 x s1 l1 ss):=zq (by rw [←hw];exact H1.out.drewN _);have HO2:Hid (md=0→Outs 3500 (s1,l1) (zle (s1,l1))):=zq (fun hz=>(HA1.out.resolve_left (fun h=>h hz)).2 (s1,l1) H1.out.ok.c.f2 (by have:=H1.out.ok.bg;have:=H1.out.ok.c.f2;simp only;omega) (by have:=H1.out.ok.ins;have:=H1.out.ok.c.f2;simp only;omega) (zhf H1.out.ok.tab H1.out.ok.c.cl2));clear hw H1 c17 c13 HN htm hwm hmd0 hmd1;have HG2:Hid (Gr 3500 (s1,l1) p2):=zq (by
  rw [HP2.out];split
  ·rename_i hz
   exact (HO2.out hz).gr HW1.out
  ·exact (Gr.refl HW1.out).mono (by omega))
 go_upto_if 39 with fail
 go_cut [] (fun wx=>Hid (NdIs B w0 wx x p2.1 p2.2 ss))
 case first=>
  by_cases hv:md=0
  ·have hb:(md==0)=true:=by simp [hv]
   have hp2:=HP2.out.trans (if_pos hv);have HS:=zq ((HA1.out.resolve_left (fun h=>h hv)).1 (s1,l1) _ _ H2.out (by simp only;omega) (by simp only;omega));rw [←hp2] at HS;clear hv hp2 H2 HP2
   go_wp2_with fail
   with_reducible refine HS.out.mono ?_
   rintro e w3 ⟨rfl,h3⟩;have H3:=zq h3;clear h3 HS
   go_wp2_with fail
   go_meet
   exact H3
  ·have hb:(md==0)=false:=by simp [hv]
   have hp2:=HP2.out.trans (if_neg hv);have H3:Hid (NdIs B w0 w2 x p2.1 p2.2 ss):=zq (by rw [hp2];exact H2.out);clear hv hp2 H2 HP2
   go_wp2_with fail
   go_meet
   exact H3
 case rest=>
 have H3:=hcut;have HW2:=zq (HG2.out.wf HW1.out);have hn2:=HG2.out.nt;have hq2:=HG2.out.out;clear H2 HP2 hcut HO2 HA1 hdz hag1 hag2 hno0 hno1;obtain ⟨s2,l2⟩:=p2;simp only at hn2 hq2 H3;have hn2:l2.length≤102000000:=by omega
 have hq2:s2.out.length≤102000000:=by omega
 have HP3:=zq (HP3.out.trans (ztk s2 l2));have hsi0:=H3.out.ok.since0;have hsi1:=H3.out.ok.since1;have hwa1:=H3.out.ok.c.wa1;have hwa2:=H3.out.ok.c.wa2;have hic2:(0:Int)<(s2.c.f:Int)+1:=by omega
 have hicp:(s2.c.f:Int)+1≤(x.ic:Int):=by have:=H3.out.caps.1;omega
 obtain ⟨i,hi,ci⟩:=H3.out.iAt (k:=0) (by omega);have HI:=zq hi;have HIN:=zq (fun n=>zc4 (H3.out.drewN n) 0 (by omega) hi);have HN:=zq (fun n=>zgw (H3.out.drewN n));have c18:wc.cell? ⟨x.p,18,none⟩=some (slI x.ib (s2.c.f+1) x.ic):=H3.out.cell 18 rfl (by decide);have c17:wc.cell? ⟨x.p,17,none⟩=some (ptrV x.t):=H3.out.cell 17 rfl (by decide);have c31:wc.cell? ⟨x.p,31,none⟩=some (.int .i64 s2.since):=H3.out.cell 31 rfl (by decide);have c12:wc.cell? ⟨x.p,12,none⟩=some (.int .i64 s2.c.wa):=H3.out.cell 12 rfl (by decide);have hws:IntKind.i64.wrap (s2.since+s2.c.wa)=s2.since+s2.c.wa:=IntWalk.i64_in _ (by omega);have HG3:Hid (Gr 7291 (s2,l2) p3):=zq (gr_if HL3.out HW2.out HP3.out);clear hi;obtain ⟨on,hon⟩: ∃on,on=(insAt s2 0).on:=⟨_,rfl⟩;rw [←hon] at HIN HP3 HL3;clear hon
 go_upto_region 10 with fail
 go_cut [67] (fun c wx=>c= .bool (!on&&decide (s2.since+s2.c.wa≤s2.now))∧Hid (NdIs B w0 wx x s2 l2 ss))
 case first=>
  clear HP3 HG3 HL3;cases on with
  | true=>
   go_quiet (first | (go_at_call 73;exact zas (HIN.out _)) | (go_at_call 90;exact zas (HN.out _)))
   go_wp2_with fail
   go_meet
   exact ⟨rfl,zq (H3.out.drewN _)⟩
  | false=>
   cases hd:decide (s2.since+s2.c.wa≤s2.now) with
   | true=>
    have HR:Hid (Value.bool true= .bool (!false&&decide (s2.since+s2.c.wa≤s2.now))):=zq (by rw [hd];rfl)
    go_quiet (first | (go_at_call 73;exact zas (HIN.out _)) | (go_at_call 90;exact zas (HN.out _)))
    go_wp2_with fail
    go_meet
    exact ⟨HR.out,zq (H3.out.drewN _)⟩
   | false=>
    have HR:Hid (Value.bool false= .bool (!false&&decide (s2.since+s2.c.wa≤s2.now))):=zq (by rw [hd];rfl)
    go_quiet (first | (go_at_call 73;exact zas (HIN.out _)) | (go_at_call 90;exact zas (HN.out _)))
    go_wp2_with fail
    go_meet
    exact ⟨HR.out,zq (H3.out.drewN _)⟩
 case rest=>
 clear H3 HIN HN c18 c17 c31 c12 hws ci HI hic2 hicp hwa1 hwa2 hsi0 hsi1;obtain ⟨rfl,H3⟩:=hcut;generalize (!on&&decide (s2.since+s2.c.wa≤s2.now))=b3 at*
 go_upto_if 67 with fail
 go_cut [] (fun wx=>Hid (NdIs B w0 wx x p3.1 p3.2 ss))
 case first=>
  cases b3 with
  | true=>
   have hp3:=HP3.out.trans (if_pos rfl);have HS:=zq ((lv_of HL3.out).1 (s2,l2) _ _ H3.out HW2.out (by simp only;omega) (by simp only;omega));rw [←hp3] at HS;clear hp3 H3 HP3
   go_wp2_with fail
   with_reducible refine HS.out.mono ?_
   rintro e w3 ⟨rfl,h3⟩;have H4:=zq h3;clear h3 HS
   go_wp2_with fail
   go_meet
   exact H4
  | false=>
   have hp3:=HP3.out.trans (if_neg (by simp));have H4:Hid (NdIs B w0 wc x p3.1 p3.2 ss):=zq (by rw [hp3];exact H3.out);clear hp3 H3 HP3
   go_wp2_with fail
   go_meet
   exact H4
 case rest=>
 have H4:=hcut;have HW3:=zq (HG3.out.wf HW2.out);have hn3:=HG3.out.nt;have hq3:=HG3.out.out;clear H3 HP3 hcut;obtain ⟨s3,l3⟩:=p3;simp only at hn3 hq3 H4;have hn3:l3.length≤103000000:=by omega
 have hq3:s3.out.length≤103000000:=by omega
 have HP4:=zq (HP4.out.trans (ztl s3 l3));have hic2:(0:Int)<(s3.c.f:Int)+1:=by omega
 have hicp:(s3.c.f:Int)+1≤(x.ic:Int):=by have:=H4.out.caps.1;omega
 obtain ⟨i3,hi,ci⟩:=H4.out.iAt (k:=0) (by omega);have HIN:=zq (zc4 H4.out 0 (by omega) hi);have HOL:=zq (nold_any H4.out);have c18:wc.cell? ⟨x.p,18,none⟩=some (slI x.ib (s3.c.f+1) x.ic):=H4.out.cell 18 rfl (by decide);have HG4:Hid (Gr 7291 (s3,l3) p4):=zq (gr_if HL4.out HW3.out HP4.out);clear hi;obtain ⟨on3,hon⟩: ∃on,on=(insAt s3 0).on:=⟨_,rfl⟩;rw [←hon] at HIN HP4 HL4;obtain ⟨ol,hol⟩: ∃ol,ol=oldP s3:=⟨_,rfl⟩;rw [←hol] at HOL HP4 HL4;clear hon hol
 go_upto_region 12 with fail
 go_cut [80] (fun c wx=>c= .bool (on3&&ol)∧Hid (NdIs B w0 wx x s3 l3 ss))
 case first=>
  clear HP4 HG4 HL4;cases on3 with
  | false=>
   go_wp2_with fail
   with_reducible refine HIN.out.mono ?_
   rintro e w' ⟨rfl,rfl⟩
   go_wp2_with fail
   go_meet
   exact ⟨rfl,H4⟩
  | true=>
   go_wp2_with fail
   with_reducible refine HIN.out.mono ?_
   rintro e w' ⟨rfl,rfl⟩
   go_wp2_with fail
   with_reducible refine HOL.out.mono ?_
   rintro e w4 ⟨rfl,h4⟩;have H5:=zq h4;clear h4 HOL
   go_wp2_with fail
   go_meet
   exact ⟨rfl,H5⟩
 case rest=>
 clear H4 HIN HOL c18 ci hic2 hicp;obtain ⟨rfl,H4⟩:=hcut;generalize (on3&&ol)=b4 at*
 go_upto_if 80 with fail
 go_cut [] (fun wx=>Hid (NdIs B w0 wx x p4.1 p4.2 ss))
 case first=>
  cases b4 with
  | true=>
   have hp4:=HP4.out.trans (if_pos rfl);have HS:=zq ((lv_of HL4.out).1 (s3,l3) _ _ H4.out HW3.out (by simp only;omega) (by simp only;omega));rw [←hp4] at HS;clear hp4 H4 HP4
   go_wp2_with fail
   with_reducible refine HS.out.mono ?_
   rintro e w5 ⟨rfl,h5⟩;have H5:=zq h5;clear h5 HS
   go_wp2_with fail
   go_meet
   exact H5
  | false=>
   have hp4:=HP4.out.trans (if_neg (by simp));have H5:Hid (NdIs B w0 wc x p4.1 p4.2 ss):=zq (by rw [hp4];exact H4.out);clear hp4 H4 HP4
   go_wp2_with fail
   go_meet
   exact H5
 case rest=>
 have H5:=hcut;have HW4:=zq (HG4.out.wf HW3.out);have hn4:=HG4.out.nt;have hq4:=HG4.out.out;clear H4 HP4 hcut;have HG04:=zq ((((HG0.out.trans HG1.out).trans HG2.out).trans HG3.out).trans HG4.out);clear HG0 HG1 HG2 HG3 HG4 HWU HW1 HW2 HW3;obtain ⟨s4,l4⟩:=p4;simp only at hn4 hq4 H5;have hn4:l4.length≤104000000:=by omega
 have hq4:s4.out.length≤104000000:=by omega
 have hst0:=H5.out.ok.start0;have hst1:=H5.out.ok.start1;have hpe1:=H5.out.ok.c.pe1;have hpe2:=H5.out.ok.c.pe2;have HN:=zq (fun n=>zgw (H5.out.drewN n));have c17:wc.cell? ⟨x.p,17,none⟩=some (ptrV x.t):=H5.out.cell 17 rfl (by decide);have c32:wc.cell? ⟨x.p,32,none⟩=some (.int .i64 s4.start):=H5.out.cell 32 rfl (by decide);have c7:wc.cell? ⟨x.p,7,none⟩=some (.int .i64 s4.c.pe):=H5.out.cell 7 rfl (by decide);have hws:IntKind.i64.wrap (s4.start+s4.c.pe)=s4.start+s4.c.pe:=IntWalk.i64_in _ (by omega);by_cases hpe:s4.now<s4.start+s4.c.pe
 ·have hd:decide (s4.start+s4.c.pe≤s4.now)=false:=by simp;omega
  have e:fin=(s4,l4):=HFIN.out.trans (ztm hpe);have HF:Hid (∀n,NdIs B w0 (wc.drewN n) x fin.1 fin.2 ss∧Gr 30000 (s,l) fin):=zq (fun n=>by rw [e];exact ⟨H5.out.drewN n,HG04.out.mono (by omega)⟩);clear hpe e H5 HFIN HG04
  go_upto_region 14 with fail
  go_quiet ((go_at_call 90;exact zas (HN.out _)))
  go_wp2_with fail
  refine bodyPost_end (results_none rfl _ _ _) rfl ?_;exact ⟨rfl,HF.out _⟩
 have hd:decide (s4.start+s4.c.pe≤s4.now)=true:=by simp;omega
 have HFIN:=zq (HFIN.out.trans (zpm (p:=(s4,l4)) hpe));clear hpe;obtain ⟨p5,hp5⟩: ∃p5,p5=tick5 (s4,l4):=⟨_,rfl⟩;rw [←hp5] at HFIN;have HP5:=zq (hp5.trans (tick5_is s4 l4));have HG5:Hid (Gr 7291 (s4,l4) p5):=zq (gr_if HL5.out HW4.out HP5.out);clear hp5
 go_upto_region 14 with fail
 go_quiet ((go_at_call 90;exact zas (HN.out _)))
 generalize hw:World.drewN wc _=w6;have H6:Hid (NdIs B w0 w6 x s4 l4 ss):=zq (by rw [←hw];exact H5.out.drewN _);clear hw H5 c17 c32 c7 hws HN hd;have hic2:(0:Int)<(s4.c.f:Int)+1:=by omega
 have hicp:(s4.c.f:Int)+1≤(x.ic:Int):=by have:=H6.out.caps.1;omega
 obtain ⟨i4,hi,ci⟩:=H6.out.iAt (k:=0) (by omega);have HI4:=zq hi;have HIN:=zq (fun n=>zc4 (H6.out.drewN n) 0 (by omega) hi);have c18:w6.cell? ⟨x.p,18,none⟩=some (slI x.ib (s4.c.f+1) x.ic):=H6.out.cell 18 rfl (by decide);obtain ⟨on4,hon⟩: ∃on,on=(insAt s4 0).on:=⟨_,rfl⟩;rw [←hon] at HIN HP5 HL5;obtain ⟨ve,hve⟩: ∃ve,ve=zcu s4.c s4.mt:=⟨_,rfl⟩;rw [←hve] at HP5 HL5;have HVE:=zq hve;clear hon hve hi
 go_upto_region 15 with fail
 go_cut [117] (fun c wx=>c= .bool (on4&&ve)∧Hid (NdIs B w0 wx x s4 l4 ss))
 case first=>
  clear HP5 HG5 HFIN HG04 HL5;cases on4 with
  | false=>
   go_quiet ((go_at_call 73;exact zas (HIN.out _)))
   go_wp2_with fail
   go_meet
   exact ⟨rfl,zq (H6.out.drewN _)⟩
  | true=>
   have HH:Hid (∀W,NdIs B w0 W x s4 l4 ss→Held.Held [(x.p,18,[slI x.ib (s4.c.f+1) x.ic]),(x.ib,0,[ptrV i4]),(x.p,0,[.int .i64 s4.c.f,.int .i64 s4.c.cl,.int .i64 s4.c.bt,.int .i64 s4.c.ah,.int .i64 s4.c.qu,.int .i64 s4.c.fl,.int .i64 s4.c.sh,.int .i64 s4.c.pe,.int .i64 s4.c.nu,.int .i64 s4.c.de,.int .i64 s4.c.la,.int .i64 s4.c.om,.int .i64 s4.c.wa,.int .i64 s4.c.ag,.int .i64 s4.c.re]),(x.p,23,[ptrV x.mt])] W):=zq (fun W h=>⟨⟨h.cell 18 rfl (by decide),trivial⟩,⟨h.instAt 0 HI4.out,trivial⟩,⟨h.cell 0 rfl (by decide),h.cell 1 rfl (by decide),h.cell 2 rfl (by decide),h.cell 3 rfl (by decide),h.cell 4 rfl (by decide),h.cell 5 rfl (by decide),h.cell 6 rfl (by decide),h.cell 7 rfl (by decide),h.cell 8 rfl (by decide),h.cell 9 rfl (by decide),h.cell 10 rfl (by decide),h.cell 11 rfl (by decide),h.cell 12 rfl (by decide),h.cell 13 rfl (by decide),h.cell 14 rfl (by decide),trivial⟩,⟨h.cell 23 rfl (by decide),trivial⟩,trivial⟩);have HI1:Hid (Calls Tryz.prog 73 #[ptrV i4] w6.drew fun e w'=>e= .returned (.bool true)∧w6.drew=w'):=zq (HIN.out 1);have HAL:=zq (nd_mall H6.out.drew);have hml:(s4.mt.length:Int)=(s4.c.f:Int)+1:=by have:=H6.out.ok.mt;omega
   clear HIN c18 ci hml;refine Held.wp_held2 [(x.p,18,[slI x.ib (s4.c.f+1) x.ic]),(x.ib,0,[ptrV i4]),(x.p,0,[.int .i64 s4.c.f,.int .i64 s4.c.cl,.int .i64 s4.c.bt,.int .i64 s4.c.ah,.int .i64 s4.c.qu,.int .i64 s4.c.fl,.int .i64 s4.c.sh,.int .i64 s4.c.pe,.int .i64 s4.c.nu,.int .i64 s4.c.de,.int .i64 s4.c.la,.int .i64 s4.c.om,.int .i64 s4.c.wa,.int .i64 s4.c.ag,.int .i64 s4.c.re]),(x.p,23,[ptrV x.mt])] [(3,0),(5,1),(11,2),(15,3)] [17] [(7,true),(10,true),(1,false)] (by kernel_rfl) (by kernel_rfl) (HH.out _ H6.out.drew) ?_;simp only [Held.cutAt,Held.walk,List.take_succ_cons,List.take_zero,List.drop_succ_cons,List.drop_zero];have c18:w6.drew.cell? ⟨x.p,18,none⟩=some (slI x.ib (s4.c.f+1) x.ic):=H6.out.drew.cell 18 rfl (by decide);have ci:w6.drew.cell? ⟨x.ib,0,none⟩=some (ptrV i4):=H6.out.drew.instAt 0 HI4.out
   go_wp2_with fail
   with_reducible refine HI1.out.mono ?_
   rintro e w' ⟨rfl,rfl⟩
   go_wp2_with fail
   refine ⟨HH.out _ H6.out.drew,?_⟩;have c23:w6.drew.cell? ⟨x.p,23,none⟩=some (ptrV x.mt):=H6.out.drew.cell 23 rfl (by decide);have a0:w6.drew.cell? ⟨x.p,0,none⟩=some (.int .i64 s4.c.f):=H6.out.drew.cell 0 rfl (by decide);have a1:w6.drew.cell? ⟨x.p,1,none⟩=some (.int .i64 s4.c.cl):=H6.out.drew.cell 1 rfl (by decide);have a2:w6.drew.cell? ⟨x.p,2,none⟩=some (.int .i64 s4.c.bt):=H6.out.drew.cell 2 rfl (by decide);have a3:w6.drew.cell? ⟨x.p,3,none⟩=some (.int .i64 s4.c.ah):=H6.out.drew.cell 3 rfl (by decide);have a4:w6.drew.cell? ⟨x.p,4,none⟩=some (.int .i64 s4.c.qu):=H6.out.drew.cell 4 rfl (by decide);have a5:w6.drew.cell? ⟨x.p,5,none⟩=some (.int .i64 s4.c.fl):=H6.out.drew.cell 5 rfl (by decide);have a6:w6.drew.cell? ⟨x.p,6,none⟩=some (.int .i64 s4.c.sh):=H6.out.drew.cell 6 rfl (by decide);have a7:w6.drew.cell? ⟨x.p,7,none⟩=some (.int .i64 s4.c.pe):=H6.out.drew.cell 7 rfl (by decide);have a8:w6.drew.cell? ⟨x.p,8,none⟩=some (.int .i64 s4.c.nu):=H6.out.drew.cell 8 rfl (by decide);have a9:w6.drew.cell? ⟨x.p,9,none⟩=some (.int .i64 s4.c.de):=H6.out.drew.cell 9 rfl (by decide);have a10:w6.drew.cell? ⟨x.p,10,none⟩=some (.int .i64 s4.c.la):=H6.out.drew.cell 10 rfl (by decide);have a11:w6.drew.cell? ⟨x.p,11,none⟩=some (.int .i64 s4.c.om):=H6.out.drew.cell 11 rfl (by decide);have a12:w6.drew.cell? ⟨x.p,12,none⟩=some (.int .i64 s4.c.wa):=H6.out.drew.cell 12 rfl (by decide);have a13:w6.drew.cell? ⟨x.p,13,none⟩=some (.int .i64 s4.c.ag):=H6.out.drew.cell 13 rfl (by decide);have a14:w6.drew.cell? ⟨x.p,14,none⟩=some (.int .i64 s4.c.re):=H6.out.drew.cell 14 rfl (by decide);clear c18 ci HI1
   go_wp2_with fail
   with_reducible refine HAL.out.mono ?_
   rintro e w7 ⟨g,cap,rfl,hcap,hc,h7⟩;have H7:=zq h7;have HV:=zq (zl3 h7 hcap hc);rw [←HVE.out] at HV;clear hcap hc h7 HAL a0 a1 a2 a3 a4 a5 a6 a7 a8 a9 a10 a11 a12 a13 a14 c23
   go_wp2_with fail
   refine ⟨HH.out _ H7.out,?_⟩
   go_wp2_with fail
   with_reducible refine HV.out.mono ?_
   rintro e w8 ⟨rfl,h8⟩;have H8:=zq h8;clear h8 HV HH H7
   go_wp2_with fail
   refine ⟨trivial,?_⟩
   go_wp2_with fail
   refine ⟨trivial,by rfl,⟨.inr ⟨⟨rfl,.inl ⟨by kernel_rfl,rfl⟩⟩,trivial⟩,.inr ⟨⟨rfl,.inl ⟨by kernel_rfl,rfl⟩⟩,trivial⟩,.inr ⟨⟨rfl,.inr ⟨by kernel_rfl,by kernel_rfl⟩⟩,trivial⟩,.inr ⟨⟨rfl,.inl ⟨by kernel_rfl,rfl⟩⟩,trivial⟩,trivial⟩,?_⟩
   go_wp2_with fail
   go_meet
   exact ⟨rfl,H8⟩
 case rest=>
 clear H6 HIN c18 ci hic2 hicp;obtain ⟨rfl,H6⟩:=hcut;generalize (on4&&ve)=b5 at*
 go_upto_if 117 with fail
 go_cut [] (fun wx=>Hid (NdIs B w0 wx x p5.1 p5.2 ss))
 case first=>
  cases b5 with
  | true=>
   have hp5:=HP5.out.trans (if_pos rfl);have HS:=zq ((lv_of HL5.out).1 (s4,l4) _ _ H6.out HW4.out (by simp only;omega) (by simp only;omega));rw [←hp5] at HS;clear hp5 H6 HP5
   go_wp2_with fail
   with_reducible refine HS.out.mono ?_
   rintro e w7 ⟨rfl,h7⟩;have H7:=zq h7;clear h7 HS
   go_wp2_with fail
   go_meet
   exact H7
  | false=>
   have hp5:=HP5.out.trans (if_neg (by simp));have H7:Hid (NdIs B w0 wc x p5.1 p5.2 ss):=zq (by rw [hp5];exact H6.out);clear hp5 H6 HP5
   go_wp2_with fail
   go_meet
   exact H7
 case rest=>
 have H7:=hcut;clear H6 HP5 hcut;obtain ⟨s5,l5⟩:=p5;simp only at H7 HFIN;have HRE:=zq (nd_reset H7.out);have c23:wc.cell? ⟨x.p,23,none⟩=some (ptrV x.mt):=H7.out.cell 23 rfl (by decide);have HGF:Hid (Gr 30000 (s,l) fin):=zq (by
  have h:=(HG04.out.trans HG5.out).mono (m:=30000) (by omega);rw [HFIN.out];exact ⟨h.out,h.nt,h.c,fun j=>h.sm j,h.pt,⟨h.g.gd,h.g.used,h.g.bad,h.g.stale,h.g.shut,h.g.full⟩⟩)
 clear HG04 HG5
 go_wp2_with fail
 with_reducible refine HRE.out.mono ?_
 rintro e w8 ⟨rfl,h8⟩;have HN:=zq (zgw h8);have d17:w8.cell? ⟨x.p,17,none⟩=some (ptrV x.t):=h8.cell 17 rfl (by decide);have z32:=h8.fz 32;have d32:=h8.cell 32 rfl (by decide);have HF:Hid (NdIs B w0 (w8.setCell ⟨x.p,32,none⟩ (.int .i64 (zkk s5).now)) x fin.1 fin.2 ss):=zq (by
  rw [HFIN.out];exact h8.putStart (zkk s5).now h8.ok.now0 h8.ok.now1)
 clear h8 HRE c23 H7 HFIN
 go_wp2_with fail
 with_reducible refine HN.out.mono ?_
 rintro e w' ⟨rfl,rfl⟩
 go_wp2_with fail
 refine bodyPost_end (results_none rfl _ _ _) rfl ?_;exact ⟨rfl,HF.out,HGF.out⟩
end
def plc (out:List Rq) (r:Rq):Nat→Nat
 | 0=>0
 | k+1=>if cmpRq r (reqAt out k)<0 then plc out r k else k+1
def insP (out:List Rq) (r:Rq):List Rq:=if r∈out then out else out.insertIdx (plc out r out.length) r
def zdw (l:List Rq):List Rq:=l.foldl insP []
def Fam (l:List Rq):Prop:= ∀a∈l,∀b∈l,a.client=b.client∧a.kind=b.kind∧a.key=b.key∧a.val=b.val∧(a.time=b.time→a=b)
abbrev RiseT (l:List Rq):Prop:=l.Pairwise fun a b=>a.time<b.time
theorem zp9 (r:Rq):cmpRq r r=0:=by
 unfold cmpRq orI cmpI;simp [orI]
theorem zsc (out:List Rq) (r:Rq): ∀k,plc out r k≤k
 | 0=>Nat.le_refl _
 | k+1=>by
  unfold plc;split
  ·have:=zsc out r k;omega
  ·exact Nat.le_refl _
theorem zq3 (out:List Rq) (r:Rq):(insP out r).length≤out.length+1∧out.length≤(insP out r).length∧1≤(insP out r).length:=by
 unfold insP;split
 ·rename_i h
  have:=List.length_pos_of_mem h;omega
 ·rw [List.length_insertIdx,if_pos (zsc _ _ _)]
  omega
theorem zzc {out:List Rq} {r a:Rq} (h:a∈insP out r):a∈out∨a=r:=by
 unfold insP at h;split at h
 ·exact .inl h
 ·rw [List.mem_insertIdx (zsc _ _ _)] at h
  rcases h with h | h
  ·exact .inr h
  ·exact .inl h
theorem zyt (a b:Int):cmpI a b<0↔a<b:=by
 unfold cmpI;split
 ·omega
 ·split<;>omega
theorem zud (a:Int):cmpI a a=0:=by unfold cmpI;rw [if_neg (by omega),if_neg (by omega)]
theorem zxk {l:List Rq} (h:Fam l) {a b:Rq} (ha:a∈l) (hb:b∈l):cmpRq a b<0↔a.time<b.time:=by
 obtain ⟨e1,e2,e3,e4,e5⟩:=h a ha b hb;by_cases ht:a.time=b.time
 ·have:=e5 ht
  subst this;rw [zp9];omega
 ·have hc:cmpI a.time b.time≠0:=by
   unfold cmpI;split
   ·omega
   ·split<;>omega
  unfold cmpRq;rw [e1,zud];unfold orI;rw [if_pos rfl];unfold orI;rw [if_neg hc];exact zyt _ _
theorem plc_is {l out:List Rq} {r:Rq} (h:Fam l) (hr:r∈l) (ho: ∀a∈out,a∈l): ∀k,k≤out.length→(∀j,plc out r k≤j→j<k→r.time<(reqAt out j).time)∧(∀j,j+1=plc out r k→ ¬r.time<(reqAt out j).time)
 | 0,_=>⟨fun j _ h=>by omega,fun j h=>by unfold plc at h;omega⟩
 | k+1,hk=>by
  have hm:reqAt out k∈l:=by
   unfold reqAt;rw [List.getD_eq_getElem?_getD,List.getElem?_eq_getElem (by omega)];exact ho _ (List.getElem_mem (by omega))
  have hc:=zxk h hr hm;obtain ⟨h1,h2⟩:=plc_is h hr ho k (by omega);unfold plc;split
  ·rename_i hlt
   refine ⟨fun j a b=> ?_,h2⟩;by_cases hj:j=k
   ·subst hj;exact hc.1 hlt
   ·exact h1 j a (by omega)
  ·rename_i hlt
   refine ⟨fun j a b=>by omega,fun j e=> ?_⟩;have:j=k:=by omega
   subst this;exact fun hh=>hlt (hc.2 hh)
theorem zzf {l out:List Rq} {r:Rq} (h:Fam l) (hr:r∈l) (ho: ∀a∈out,a∈l) (hp:RiseT out):RiseT (insP out r):=by
 unfold insP;split
 ·exact hp
 ·rename_i hn
  have hle:=zsc out r out.length;obtain ⟨h1,h2⟩:=plc_is h hr ho out.length (Nat.le_refl _);rw [ze2 out _ r hle];have hat: ∀j (hj:j<out.length),reqAt out j=out[j]:=fun j hj=>by
   unfold reqAt;rw [List.getD_eq_getElem?_getD,List.getElem?_eq_getElem hj];rfl
  have hpi:=List.pairwise_iff_getElem.1 hp;generalize plc out r out.length=k at*;have hlow: ∀a∈out.take k,a.time<r.time:=fun a ha=>by
   obtain ⟨i,hi,rfl⟩:=List.mem_iff_getElem.1 ha;rw [List.length_take] at hi;rw [List.getElem_take];have hi2:i<out.length:=by omega
   have hne:out[i].time≠r.time:=fun e=>by
    have:=(h _ (ho _ (List.getElem_mem hi2)) r hr).2.2.2.2 e;exact hn (this ▸ List.getElem_mem hi2)
   have hk1:k-1<out.length:=by omega
   have hle2:out[i].time≤out[k-1].time:=by
    by_cases hik:i=k-1
    ·subst hik;exact Int.le_refl _
    ·exact Int.le_of_lt (hpi i (k-1) hi2 hk1 (by omega))
   have h3:=h2 (k-1) (by omega);rw [hat _ hk1] at h3;omega
  have hup: ∀a∈out.drop k,r.time<a.time:=fun a ha=>by
   obtain ⟨i,hi,rfl⟩:=List.mem_iff_getElem.1 ha;rw [List.length_drop] at hi;rw [List.getElem_drop];have h3:=h1 (k+i) (by omega) (by omega);rw [hat _ (by omega)] at h3;exact h3
  refine List.pairwise_append.2 ⟨List.Pairwise.sublist (List.take_sublist _ _) hp,List.pairwise_cons.2 ⟨hup,List.Pairwise.sublist (List.drop_sublist _ _) hp⟩,fun a ha b hb=> ?_⟩;have h3:=hlow a ha;rcases List.mem_cons.1 hb with rfl | hb
  ·exact h3
  ·have:=hup b hb;omega
theorem zry {l:List Rq} (h:Fam l): ∀(xs out:List Rq),(∀a∈xs,a∈l)→(∀a∈out,a∈l)→RiseT out→RiseT (xs.foldl insP out)∧(∀a∈xs.foldl insP out,a∈l)∧(xs.foldl insP out).length≤out.length+xs.length∧out.length≤(xs.foldl insP out).length∧(xs≠[]→1≤(xs.foldl insP out).length)
 | [],out,_,ho,hp=>⟨hp,ho,by simp,Nat.le_refl _,fun h=>absurd rfl h⟩
 | x::xs,out,hx,ho,hp=>by
  have hr:=zzf h (hx x (by simp)) ho hp;have hm: ∀a∈insP out x,a∈l:=fun a ha=>by
   rcases zzc ha with h1 | rfl
   ·exact ho a h1
   ·exact hx a (by simp)
  obtain ⟨a1,a2,a3,a4,a5⟩:=zry h xs (insP out x) (fun a ha=>hx a (by simp [ha])) hm hr;obtain ⟨b1,b2,b3⟩:=zq3 out x;rw [List.foldl_cons];refine ⟨a1,a2,?_,?_,fun _=> ?_⟩
  ·rw [List.length_cons];omega
  ·omega
  ·omega
theorem order_is {l:List Rq} (h:Fam l):RiseT (zdw l)∧(∀a∈zdw l,a∈l)∧(zdw l).length≤l.length∧(l≠[]→1≤(zdw l).length):=by
 obtain ⟨a1,a2,a3,-,a5⟩:=zry h l [] (fun a ha=>ha) (fun a ha=>by cases ha) List.Pairwise.nil;exact ⟨a1,a2,by simpa [zdw] using a3,a5⟩
end Go.Proofs.YtannckelmojkoaaGreat
namespace Go.Heap
open Go Go.RowKit
theorem Own.cutRow {B:Nat} {w0 W:World} {rs:List Res} {E sz n k:Nat} {ao:Option Addr} {cap:Nat} {xs:List Value} (h:Own B w0 W (ownR E sz (.slice ao n cap) n xs::rs)) (hk:k≤n):Own B w0 W (ownR E sz (.slice ao k cap) k (xs.take (k*sz))::rs):=by
 have hb:blkOf (.slice ao k cap)=blkOf (.slice ao n cap):=by cases ao<;>rfl
 obtain ⟨D,⟨ho,hD⟩,h2,h3⟩:=h.head;refine h.alter ⟨D,⟨⟨?_,?_⟩,hD⟩,h2,h3⟩ (fun j hj=>by show j∈blkOf (.slice ao n cap);rw [←hb];exact hj)
 ·have:=Nat.mul_le_mul_right sz hk
  rw [List.length_take,ho.1];omega
 ·rcases ho.2 with ⟨hv,hn⟩ | ⟨g,cap',cur,hv,h4,h5,h6,h7,h8,h9⟩
  ·simp only [Value.slice.injEq] at hv
   obtain ⟨rfl,-,rfl⟩:=hv;obtain rfl:k=0:=by omega
   exact .inl ⟨rfl,rfl⟩
  ·simp only [Value.slice.injEq] at hv
   obtain ⟨rfl,-,rfl⟩:=hv;refine .inr ⟨g,cap,cur,rfl,h4,h5,by omega,h7,h8,?_⟩;rw [←h9,List.take_take,Nat.min_eq_left (Nat.mul_le_mul_right sz hk)]
end Go.Heap
namespace Go.Proofs.YtannckelmojkoaaGreat
open Go.RowKit Go.Heap
theorem zpb (v:Value) (l:List Rq) (r:Rq) (w:World) (hn:l.length≤100000) (h:Bat w v l):
  Calls Tryz.prog 105 #[v,.agg #[.int .i64 r.client,.int .i64 r.time,.int .i64 r.kind,.int .i64 r.key,.int .i64 r.val,.int .i64 r.sl]] w fun e w'=>e= .returned (.bool (decide (r∈l)))∧Upd [] w w':=by
 obtain ⟨ao,cap,rfl,h1,h2,h3,h4,h5⟩:=h;clear h1 h2 h3 h4;have H5:=zq h5;clear h5;have H0:=zq ((Own.start (Below.refl w.heap.size w) (Nat.le_refl _)).box (rqBox r));go_enter Tryz.func105,Tryz.ntmps105
 go_wp2_with fail
 go_loopw [5] (fun i wr=> ∃k:Nat,k≤l.length∧i= .int .i64 k∧Hid (NoneIn r l k)∧Hid (Own w.heap.size w wr [blk w.heap.size (rqBox r)])) (fun i _=>l.length-(intOf i).toNat)
 case atStart=>exact ⟨0,by omega,rfl,zq (by intro j _ hj;omega),H0⟩
 case round=>
  clear H0;obtain ⟨k,hk,rfl,HN,H1⟩:=hrel;by_cases hlt:k<l.length
  ·have hkI:(k:Int)<(l.length:Int):=by omega
   obtain ⟨b,o,rfl,hbs,hc⟩:=H5.out (by omega);obtain ⟨q0,q1,q2,q3,q4,q5⟩:=zba (zbt H1.out.below hbs hc) k l[k] (by simp);clear hc;have hbx:=H1.out.blk_out;obtain ⟨p0,p1,p2,p3,p4,p5⟩:=zjb hbx;have hlb:=block_lt hbx;have hz:=H1.out.below.size;clear hbx;by_cases he:l[k]=r
   ·have heq: ∀wx,(Op.equalIn 10000 38 (rqAgg l[k]) (rqAgg r)).run Tryz.prog wx= .ok true wx:=fun wx=>by rw [zbd];simp [he]
    have HE:=zq he;clear he;unfold rqAgg at heq;have hgd:=Tryz.guardReq
    go_wp2_with fail
    go_quiet (fail)
    go_wp2_with fail
    go_ret
    refine ⟨zad ?_,Upd.of_below (H1.out.upd0 ((Upd.refl _ _).drewN _)).below⟩;symm;rw [decide_eq_true_iff,←HE.out];exact List.getElem_mem hlt
   ·have heq: ∀wx,(Op.equalIn 10000 38 (rqAgg l[k]) (rqAgg r)).run Tryz.prog wx= .ok false wx:=fun wx=>by rw [zbd];simp [he]
    have HE:=zq he;clear he;unfold rqAgg at heq;have hgd:=Tryz.guardReq
    go_wp2_with fail
    go_quiet (fail)
    go_wp2_with fail
    go_roundw
    case rel=>
     refine ⟨k+1,by omega,by go_num,zq (fun j hj hjk=> ?_),zq (H1.out.upd0 ((Upd.refl _ _).drewN _))⟩;by_cases e:j=k
     ·subst e;exact HE.out
     ·exact HN.out j hj (by omega)
    case measure=>simp [intOf];omega
  ·have hkl:k=l.length:=by omega
   subst hkl;have hkI: ¬(l.length:Int)<(l.length:Int):=by omega
   go_wp2_with fail
   go_ret
   refine ⟨zad ?_,Upd.of_below H1.out.below⟩;symm;rw [decide_eq_false_iff_not];intro hm;obtain ⟨j,hj,e⟩:=List.getElem_of_mem hm;exact HN.out j hj hj e
abbrev sixO (r:Rq):Obj:= .cells #[.int .i64 r.client,.int .i64 r.time,.int .i64 r.kind,.int .i64 r.key,.int .i64 r.val,.int .i64 r.sl] 280 (0,0)
def sixL (r:Rq):List Int:=[r.client,r.time,r.kind,r.key,r.val,r.sl]
theorem six_at {B:Nat} {w0 w:World} {rs:List Res} {b i:Nat} {r:Rq} (h:Own B w0 w rs) (e:rs[i]?=some (blk b (sixO r))): ∀k,k<6→w.cell? ⟨b,k,none⟩=some (.int .i64 ((sixL r).getD k 0)):=fun k hk=>by
 have:k=0∨k=1∨k=2∨k=3∨k=4∨k=5:=by omega
 rcases this with rfl | rfl | rfl | rfl | rfl | rfl
 ·exact zaa (h.blkAt i e) 0 rfl
 ·exact zaa (h.blkAt i e) 1 rfl
 ·exact zaa (h.blkAt i e) 2 rfl
 ·exact zaa (h.blkAt i e) 3 rfl
 ·exact zaa (h.blkAt i e) 4 rfl
 ·exact zaa (h.blkAt i e) 5 rfl
def cmpK (a b:Rq) (k:Nat):Int:=orI (((List.range 6).drop k).map fun j=>cmpI ((sixL a).getD j 0) ((sixL b).getD j 0))
theorem cmpK_0 (a b:Rq):cmpK a b 0=cmpRq a b:=rfl
theorem cmpK_6 (a b:Rq):cmpK a b 6=0:=rfl
theorem cmpK_s {a b:Rq} {k:Nat} (hk:k<6):cmpK a b k=if cmpI ((sixL a).getD k 0) ((sixL b).getD k 0)=0 then cmpK a b (k+1) else cmpI ((sixL a).getD k 0) ((sixL b).getD k 0):=by
 have:k=0∨k=1∨k=2∨k=3∨k=4∨k=5:=by omega
 rcases this with rfl | rfl | rfl | rfl | rfl | rfl<;>rfl
theorem zmb (a b:Rq) (W:World):Calls Tryz.prog 106 #[rqAgg a,rqAgg b] W fun e w'=>e= .returned (.int .i64 (cmpRq a b))∧Upd [] W w':=by
 have h1:=((((Own.start (Below.refl W.heap.size W) (Nat.le_refl _)).box (rqO a)).box (rqO b)).box (sixO a)).box (sixO b);simp only [zbf] at h1;have H1:=zq h1;have HK:=zq (cmpK_0 a b);have HK6:=zq (cmpK_6 a b);have HS:=zq (fun k (hk:k<6)=>cmpK_s (a:=a) (b:=b) hk);generalize cmpRq a b=res at*;generalize hg:cmpK a b=g at*;have HX:=zq (fun (w:World) (h:Own W.heap.size W w [blk (W.heap.size+1+1+1) (sixO b),blk (W.heap.size+1+1) (sixO a),blk (W.heap.size+1) (rqO b),blk W.heap.size (rqO a)])=>And.intro (six_at h (i:=1) rfl) (six_at h (i:=0) rfl));generalize hxa:(fun k=>(sixL a).getD k 0)=xa at*;have HA:Hid (∀k,(sixL a).getD k 0=xa k):=zq (fun k=>by rw [←hxa]);generalize hxb:(fun k=>(sixL b).getD k 0)=xb at*;have HB:Hid (∀k,(sixL b).getD k 0=xb k):=zq (fun k=>by rw [←hxb]);clear h1 hg hxa hxb;unfold rqAgg;go_enter Tryz.func106,Tryz.ntmps106
 go_wp2_with fail
 go_loopw [7] (fun i wr=> ∃k:Nat,k≤6∧i= .int .i64 k∧Hid (res=g k)∧Hid (Own W.heap.size W wr [blk (W.heap.size+1+1+1) (sixO b),blk (W.heap.size+1+1) (sixO a),blk (W.heap.size+1) (rqO b),blk W.heap.size (rqO a)])) (fun i _=>6-(intOf i).toNat)
 case atStart=>exact ⟨0,by omega,rfl,zq HK.out.symm,H1⟩
 case round=>
  clear H1 HK;obtain ⟨k,hk,rfl,HR,H1⟩:=hrel;by_cases hlt:k<6
  ·have hkI:(k:Int)<6:=by omega
   have hs:=HS.out k hlt;obtain ⟨hxa,hxb⟩:=HX.out wr H1.out;have ha:=hxa k hlt;have hb:=hxb k hlt;rw [HA.out] at ha hs;rw [HB.out] at hb hs;have HS1:=zq hs;clear hs hxa hxb HX;generalize xa k=u at*;generalize xb k=v at*;by_cases h1:u<v
   ·have hd:decide (u<v)=true:=by simpa using h1
    have HE:Hid (res= -1):=zq (by
     rw [HR.out,HS1.out];have e:cmpI u v= -1:=by unfold cmpI;rw [if_pos h1]
     rw [e,if_neg (by omega)])
    clear HS1 HR h1
    go_wp2_with fail
    go_quiet (fail)
    go_wp2_with fail
    go_ret
    exact ⟨by rw [HE.out];rfl,Upd.of_below (H1.out.upd0 ((Upd.refl _ _).drewN _)).below⟩
   ·have hd:decide (u<v)=false:=by simpa using h1
    by_cases h2:v<u
    ·have hd2:decide (v<u)=true:=by simpa using h2
     have HE:Hid (res=1):=zq (by
      rw [HR.out,HS1.out];have e:cmpI u v=1:=by unfold cmpI;rw [if_neg h1,if_pos h2]
      rw [e,if_neg (by omega)])
     clear HS1 HR h1 h2
     go_wp2_with fail
     go_quiet (fail)
     go_wp2_with fail
     go_quiet (fail)
     go_wp2_with fail
     go_ret
     exact ⟨by rw [HE.out];rfl,Upd.of_below ((H1.out.upd0 ((Upd.refl _ _).drewN _)).upd0 ((Upd.refl _ _).drewN _)).below⟩
    ·have hd2:decide (v<u)=false:=by simpa using h2
     have HE:Hid (res=g (k+1)):=zq (by
      rw [HR.out,HS1.out];have e:cmpI u v=0:=by unfold cmpI;rw [if_neg h1,if_neg h2]
      rw [e,if_pos rfl])
     clear HS1 HR h1 h2
     go_wp2_with fail
     go_quiet (fail)
     go_wp2_with fail
     go_quiet (fail)
     go_wp2_with fail
     go_roundw
     case rel=>exact ⟨k+1,by omega,by go_num,HE,zq (H1.out.upd0 ((Upd.refl _ _).drewN _))⟩
     case measure=>simp [intOf];omega
  ·obtain rfl:k=6:=by omega
   have hkI:decide (((6:Nat):Int)<6)=false:=by simp
   have HE:Hid (res=0):=zq (by rw [HR.out];exact HK6.out)
   go_wp2_with fail
   go_ret
   exact ⟨by rw [HE.out];rfl,Upd.of_below H1.out.below⟩
end Go.Proofs.YtannckelmojkoaaGreat
