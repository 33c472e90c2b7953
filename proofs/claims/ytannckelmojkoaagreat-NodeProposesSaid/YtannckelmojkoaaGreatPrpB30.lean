/- Parts of the proof, one behind the other. -/
import Derived.Test.YtannckelmojkoaaGreatPrpB29
set_option maxHeartbeats 32000000
set_option maxRecDepth 100000
set_option linter.unusedVariables false
set_option linter.unusedSimpArgs false
namespace Go.Proofs.YtannckelmojkoaaGreat
open Go.RowKit Go.Heap
theorem Tryz.infoRqT:(Tryz.prog.info? 38).map (fun i=>(i.zero,i.size,i.bytes))=some (some (.agg #[.int .i64 0,.int .i64 0,.int .i64 0,.int .i64 0,.int .i64 0,.int .i64 0]),6,48):=by kernel_rfl
theorem zk0 {l:List Td} {k:Nat} (hk:k<l.length):zai (l.take (k+1))=zai (l.take k)++if l[k].ready=true then [l[k].r] else []:=by
 unfold zai;rw [List.take_succ_eq_append_getElem hk,List.filter_append,List.map_append];by_cases h:l[k].ready=true<;>simp [h]
theorem zeu (l:List Td):(zai l).length≤l.length:=by unfold zai;rw [List.length_map];exact List.length_filter_le _ _
section
variable {B:Nat} {w0 W:World} {ss:List Res} {tb f:Nat} {cl:Int} {v:Value} {l:List Td}
theorem zpi (h:Own B w0 W ss) (k0:Nat) (e0:ss[k0]?=some (blk tb (tabOb f cl v))) (k1:Nat) (e1:ss[k1]?=some (tdR v l)) (hb: ∀t∈l,t.by_.length=13) (hn:l.length≤1000):
  Calls Tryz.prog 157 #[ptrV tb] W fun e w'=> ∃ao cap,e= .returned (.slice ao (zai l).length cap)∧Own B w0 w' (batR (.slice ao (zai l).length cap) (zai l)::ss):=by
 obtain ⟨i0,hi,hz0,hz1,hz2⟩:=info_parts Tryz.infoRqT;have hrd:Reads W v 21 l.length (l.flatMap tdC):=owns_reads (zaj (h.get k1 e1));obtain ⟨ao,cap,rfl,hcap,-⟩:=hrd;have H1:=zq (h.row0 (E:=38) (sz:=6));have x2:W.cell? ⟨tb,2,none⟩=some (.slice ao l.length cap):=zaa (h.blkAt k0 e0) 2 rfl;have HB:=zq hb;have E1:=zq e1;clear h hb e0 e1;have HIS:Hid ((Tryz.prog.info? 314).map (·.size)=some 21):=zq (by obtain ⟨i1,g,-,g1,-⟩:=info_parts Tryz.infoTold;rw [g];exact congrArg some g1);go_enter Tryz.func157,Tryz.ntmps157
 go_wp2_with fail
 go_loopw [3,11] (fun sv i wr=> ∃(k:Nat) (o7:Option Addr) (c7:Nat),k≤l.length∧i= .int .i64 k∧sv= .slice o7 (zai (l.take k)).length c7∧Hid (Own B w0 wr (ownR 38 6 (.slice o7 (zai (l.take k)).length c7) (zai (l.take k)).length ((zai (l.take k)).flatMap zaf)::ss))) (fun sv i _=>l.length-(intOf i).toNat)
 case atStart=>exact ⟨0,none,0,by omega,rfl,rfl,H1⟩
 case round=>
  clear H1 x2;obtain ⟨k,o7,c7,hk,rfl,rfl,HO⟩:=hrel;have hk0:(0:Int)≤k:=by omega
  have hkB:(k:Int)≤1000:=by omega
  by_cases hlt:k<l.length
  ·have hkI:(k:Int)<(l.length:Int):=by omega
   obtain ⟨ao',cap',hv,-,-,-,-,hc⟩:=owns_reads (zaj (HO.out.get (k1+1) E1.out));simp only [Value.slice.injEq,true_and] at hv;obtain ⟨b,o,hao,-,hcell⟩:=hc (by omega);rw [←hv.1] at hao;subst hao;clear hv;have hby:=HB.out _ (List.getElem_mem hlt);have hbk:=td_cs hby;have HRA:=zq (znv hcell (fun a ha=>(td_cs (HB.out a ha)).n) k hlt);have HDT:=zq (zk0 hlt);have HLT:Hid (∀A:List Rq,(A++[l[k].r]).flatMap zaf=A.flatMap zaf++zaf l[k].r):=zq (fun A=>by simp);have hc0:(tdC l[k])[0]?=some (.int .i64 l[k].r.client):=rfl;have hc1:(tdC l[k])[1]?=some (.int .i64 l[k].r.time):=rfl;have hc2:(tdC l[k])[2]?=some (.int .i64 l[k].r.kind):=rfl;have hc3:(tdC l[k])[3]?=some (.int .i64 l[k].r.key):=rfl;have hc4:(tdC l[k])[4]?=some (.int .i64 l[k].r.val):=rfl;have hc5:(tdC l[k])[5]?=some (.int .i64 l[k].r.sl):=rfl;have hc19:(tdC l[k])[19]?=some (.bool l[k].ready):=(zth hbk.n).1;have hone:=hbk.one;have hln:=hbk.n;have hAl:(zai (l.take k)).length≤1000:=by have h1:=zeu (l.take k);have h2:=List.length_take_le k l;omega
   clear hbk hby;generalize l[k].r=r at*;generalize hrdy:l[k].ready=rdy at*;clear hrdy;generalize tdC l[k]=cs at*;have HAL:=zq (all_oneCell_toArray hone);have HIC:Hid ((Tryz.prog.info? 314).map (·.size)=some cs.length):=zq (by rw [hln];exact HIS.out);have HIC2:Hid ((Tryz.prog.info? 314).map (·.size)=some cs.toArray.size):=zq (by rw [List.size_toArray,hln];exact HIS.out);have HTH:Hid ((wr.alloc (.cells tdZ 314 (0,0))).there wr.heap.size 0 cs.toArray.size):=zq (zn7 rfl (by rw [List.size_toArray,hln];exact Nat.le_refl _));have HST:=zq (zj9 HO.out (z:=tdZ) (T:=314) (cs:=cs) (by rw [hln];rfl) rfl);clear hcell hc hone hln HO
   go_upto_region 5 with (first
    | (refine wpList_load_mid rfl 314 (.tmp 13) rfl b (o+k*21) rfl cs _ HRA.out Tryz.underlying314 rfl HIC.out ?_)
    | (refine wpList_store_mid rfl 314 (.tmp 5) (.tmp 14) rfl wr.heap.size 0 cs.toArray rfl rfl HTH.out HIC2.out HAL.out ?_))
   clear HRA HTH HIC2 HIC HAL;generalize wr.heap.size=e0 at*;generalize World.setCells _ e0 0 _=w2 at*;have x0:=(zb9 HST.out 0 rfl 0 hc0).1;have x1:=(zb9 HST.out 0 rfl 1 hc1).1;have x2:=(zb9 HST.out 0 rfl 2 hc2).1;have x3:=(zb9 HST.out 0 rfl 3 hc3).1;have x4:=(zb9 HST.out 0 rfl 4 hc4).1;have x5:=(zb9 HST.out 0 rfl 5 hc5).1;have x19:=(zb9 HST.out 0 rfl 19 hc19).1;clear hc0 hc1 hc2 hc3 hc4 hc5 hc19;have HX:=zq (HST.out.drop.box (.cells #[.int .i64 r.client,.int .i64 r.time,.int .i64 r.kind,.int .i64 r.key,.int .i64 r.val,.int .i64 r.sl] 38 (0,0)));have HN:=zq (heap_alloc_new w2 (.cells #[.int .i64 r.client,.int .i64 r.time,.int .i64 r.kind,.int .i64 r.key,.int .i64 r.val,.int .i64 r.sl] 38 (0,0)));cases rdy with
   | false=>
    have HD:Hid (zai (l.take (k+1))=zai (l.take k)):=zq (by rw [HDT.out];simp);have HF:=zq HST.out.drop;clear HDT HLT HX HN HST x0 x1 x2 x3 x4 x5;generalize zai (l.take k)=A at*
    go_wp2_with fail
    go_roundw
    case rel=>exact ⟨k+1,o7,c7,by omega,by go_num,by rw [HD.out],zq (by rw [HD.out];exact HF.out)⟩
    case measure=>simp [intOf];omega
   | true=>
    have HD:Hid (zai (l.take (k+1))=zai (l.take k)++[r]):=zq (by rw [HDT.out];simp);clear HDT HST;have hlen:((zai (l.take k)).length:Int)≤1000:=by omega
    generalize zai (l.take k)=A at*
    go_wp2_with (at_builtin;refine za9 rfl (.tmp 17) (.tmp 20) 39 rfl 38 i0 (.agg #[.int .i64 0,.int .i64 0,.int .i64 0,.int .i64 0,.int .i64 0,.int .i64 0]) 6 48 Tryz.underlying39 hi hz0 hz1 hz2 rfl (by decide) HX.out 1 (.slice o7 A.length c7) A.length (A.flatMap zaf) rfl rfl w2.heap.size #[.int .i64 r.client,.int .i64 r.time,.int .i64 r.kind,.int .i64 r.key,.int .i64 r.val,.int .i64 r.sl] 38 (0,0) rfl HN.out rfl (by simp [Value.oneCell']) (by unfold maxLen;omega) (by omega) ?_)
    intro g2 cap2 w4 h2;have h3:Own B w0 w4 (ownR 38 6 (.slice (some ⟨g2,0,none⟩) (A.length+1) cap2) (A.length+1) (A.flatMap zaf++zaf r)::ss):=h2.dropAt 0 (by simp);have HF:Hid (Own B w0 w4 (ownR 38 6 (.slice (some ⟨g2,0,none⟩) (A++[r]).length cap2) (A++[r]).length ((A++[r]).flatMap zaf)::ss)):=zq (by
     rw [HLT.out,List.length_append,List.length_singleton];exact h3)
    clear h2 h3 HX HN HLT x0 x1 x2 x3 x4 x5
    go_wp2_with fail
    go_roundw
    case rel=>exact ⟨k+1,some ⟨g2,0,none⟩,cap2,by omega,by go_num,by rw [HD.out];simp,zq (by rw [HD.out];exact HF.out)⟩
    case measure=>simp [intOf];omega
  ·obtain rfl:k=l.length:=by omega
   have hkI:decide ((l.length:Int)<(l.length:Int))=false:=by simp
   rw [List.take_of_length_le (Nat.le_refl _)] at HO⊢;have HF:Hid (Own B w0 wr (batR (.slice o7 (zai l).length c7) (zai l)::ss)):=zq (Own.toRed HO.out);clear HO
   go_wp2_with fail
   go_ret
   exact ⟨_,_,rfl,HF.out⟩
end
section
variable {B:Nat} {w0 w W W':World} {ss rs:List Res} {x:Np} {s s':Ns} {l l':Nt}
theorem zrl (h:NdIs B w0 W x s l ss):Calls Tryz.prog 157 #[ptrV x.tb] W fun e w'=> ∃ao cap,e= .returned (.slice ao (zai s.tab).length cap)∧NdIs B w0 w' x s l (batR (.slice ao (zai s.tab).length cap) (zai s.tab)::ss):=by
 obtain ⟨v,rr,cc,d,g⟩:=h.lens 2 (by omega) (by omega);have hok:=h.ok;have d1:Own B w0 W (blk x.tb (tabOb s.c.f s.c.cl v.tv)::tdR v.tv s.tab::(ss++rr)):=Own.open d;refine (zpi d1 0 rfl 1 rfl (fun q hq=>(hok.tab.c q hq).2.2.1) (Nat.le_trans (zhf hok.tab hok.c.cl2) (by omega))).mono ?_;rintro e w' ⟨ao,cap,he,ho⟩;refine ⟨ao,cap,he,g w' s v (batR (.slice ao (zai s.tab).length cap) (zai s.tab)::ss) (joinR (tabL x.tb s.c.f s.c.cl v.tv s.tab)) hok cc rfl (Own.shut (rs:=tabL x.tb s.c.f s.c.cl v.tv s.tab) ?_)⟩;exact ho.perm (List.perm_append_comm_assoc [_] [_,_] _)
end
def oldK (s:Ns) (r:Rq):Bool:=decide (s.c.la<s.now-max ((za8 s.tab r).getD 0) s.since)
theorem oldP_is (s:Ns):oldP s=(zai s.tab).any (oldK s):=rfl
theorem any_no {α:Type} {g:α→Bool} {l:List α} (h: ∀j,(hj:j<l.length)→g l[j]=false):l.any g=false:=by
 rw [List.any_eq_false];intro a ha;obtain ⟨k,hk,rfl⟩:=List.getElem_of_mem ha;rw [h k hk];decide
theorem any_yes {α:Type} {g:α→Bool} {l:List α} {k:Nat} (hk:k<l.length) (h:g l[k]=true):l.any g=true:=List.any_eq_true.2 ⟨l[k],List.getElem_mem hk,h⟩
theorem old_any (a b c:Int) (h: -1000000000≤b-a∧b-a≤1000000000) (w:World):Calls Tryz.prog 171 #[.int .i64 a,.int .i64 b,.int .i64 c] w fun e w'=>e= .returned (.bool (decide (c<b-a)))∧w=w':=by
 have q1:IntKind.i64.wrap (b-a)=b-a:=IntWalk.i64_in _ (by omega);go_enter Tryz.func171,Tryz.ntmps171
 go_wp2_with fail
 go_ret
 exact ⟨rfl,rfl⟩
section
variable {B:Nat} {w0 w W W':World} {ss rs:List Res} {x:Np} {s s':Ns} {l l':Nt}
theorem nold_any (h:NdIs B w0 W x s l ss):Calls Tryz.prog 93 #[ptrV x.p] W fun e w'=>e= .returned (.bool (oldP s))∧NdIs B w0 w' x s l ss:=by
 have HR:=zq (zrl h);have c19:=h.cell 19 rfl (by decide);have hlen:(zai s.tab).length≤1000:=by have:=zeu s.tab;have:=zhf h.ok.tab h.ok.c.cl2;omega
 have hno0:=h.ok.now0;have hno1:=h.ok.now1;have hsi0:=h.ok.since0;have hsi1:=h.ok.since1;have HO:=zq (oldP_is s);generalize oldP s=fin at*;generalize hrd:zai s.tab=rd at*;clear hrd h;go_enter Tryz.func93,Tryz.ntmps93
 go_wp2_with fail
 with_reducible refine HR.out.mono ?_
 rintro e w1 ⟨ao,cap,rfl,h1⟩;have H1:=zq h1;clear h1 HR c19
 go_wp2_with fail
 go_loopw [13] (fun n wr=> ∃k:Nat,k≤rd.length∧n= .int .i64 k∧Hid (∀j,j<k→(hj:j<rd.length)→oldK s rd[j]=false)∧Hid (NdIs B w0 wr x s l (batR (.slice ao rd.length cap) rd::ss))) (fun n _=>rd.length-(intOf n).toNat)
 case atStart=>exact ⟨0,by omega,rfl,zq (fun j hj=>absurd hj (Nat.not_lt_zero _)),H1⟩
 case round=>
  clear H1;obtain ⟨k,hk,rfl,HA,H1⟩:=hrel;by_cases hlt:k<rd.length
  ·have hkI:(k:Int)<(rd.length:Int):=by omega
   have hk0:(0:Int)≤(k:Int):=by omega
   obtain ⟨r0,hs,-⟩:=H1.out.side;obtain ⟨ao',cap',hv',hbc,-,-,-,h5⟩:=zcn (hs.get 0 rfl);simp only [Value.slice.injEq] at hv';obtain ⟨rfl,-,rfl⟩:=hv';obtain ⟨b,o,rfl,hbs,hcs⟩:=h5 (by omega);obtain ⟨q0,q1,q2,q3,q4,q5⟩:=zba hcs k rd[k] (by simp);have hbcI:(rd.length:Int)≤(cap:Int):=by omega
   clear hcs h5 hbs hs hbc;have HA2:Hid (oldK s rd[k]=false→ ∀j,j<k+1→(hj:j<rd.length)→oldK s rd[j]=false):=zq (fun e j hj hj2=>by
    by_cases e2:j=k
    ·subst e2;exact e
    ·exact HA.out j (by omega) hj2)
   have HY:Hid (oldK s rd[k]=true→fin=true):=zq (fun e=>HO.out.trans (any_yes hlt e));clear HA;generalize hrk:rd[k]=r at*;clear hrk;have H2:=zq (H1.out.box (rqO r))
   go_upto_region 4 with fail
   generalize wr.heap.size=e0 at*;generalize wr.alloc _=w2 at*;obtain ⟨r2,hs2,-⟩:=H2.out.drew.side;have b0:=zaa (hs2.blkAt 0 rfl) 0 rfl;have b1:=zaa (hs2.blkAt 0 rfl) 1 rfl;have b2:=zaa (hs2.blkAt 0 rfl) 2 rfl;have b3:=zaa (hs2.blkAt 0 rfl) 3 rfl;have b4:=zaa (hs2.blkAt 0 rfl) 4 rfl;have b5:=zaa (hs2.blkAt 0 rfl) 5 rfl;have c19:=H2.out.drew.cell 19 rfl (by decide);obtain ⟨tv,htb⟩:=H2.out.drew.tbAt;have HS:=zq (zpj htb (Nat.le_trans (zhf H2.out.ok.tab H2.out.ok.c.cl2) (by omega)) r);have hts:0≤(za8 s.tab r).getD 0∧(za8 s.tab r).getD 0≤1048576:=by
    cases e:za8 s.tab r with
    | none=>simp
    | some t=>exact zph H2.out.ok.tab e
   have hol:oldK s r=decide (s.c.la<s.now-max ((za8 s.tab r).getD 0) s.since):=rfl;have HOL:=zq hol;clear q0 q1 q2 q3 q4 q5 hs2 htb H1 hol;obtain ⟨t,htt⟩: ∃t,t=(za8 s.tab r).getD 0:=⟨_,rfl⟩;rw [←htt] at HS HOL hts;clear htt;generalize (za8 s.tab r).isSome=tb at*;unfold rqAgg at HS;refine Mix.wp_text2 (by kernel_rfl) (by kernel_rfl) ?_
   go_wp2_with fail
   with_reducible refine HS.out.mono ?_
   rintro e w3 ⟨rfl,hu⟩;have H3:=zq ((H2.out.drew.upd0 hu).drop);clear hu HS b0 b1 b2 b3 b4 b5 c19 H2
   go_wp2_with fail
   refine ⟨by rfl,?_⟩;have c17:=H3.out.cell 17 rfl (by decide);have c31:=H3.out.cell 31 rfl (by decide);have c10:=H3.out.cell 10 rfl (by decide);have HN:=zq (fun n=>zgw (H3.out.drewN n));obtain ⟨mx,hmx⟩: ∃mx,mx=max t s.since:=⟨_,rfl⟩;have HOD:=zq (fun w=>old_any mx s.now s.c.la (by omega) w);rw [←hmx] at HOL;have hmx2:max t s.since=mx:=hmx.symm;have H5:=zq H3.out.drop;clear hmx;cases hol:decide (s.c.la<s.now-mx) with
   | true=>
    rw [hol] at HOD HOL;have HF:Hid (fin=true):=zq (HY.out HOL.out);clear hol HY HA2 HOL H3
    go_upto_region 5 with fail
    go_quiet (first | (go_at_call 90;exact zas (HN.out _)) | (go_at_call 171;exact zas (HOD.out _)))
    go_wp2_with fail
    go_ret
    exact ⟨by rw [HF.out];rfl,H5.out.drewN _⟩
   | false=>
    rw [hol] at HOD HOL;have HA3:=zq (HA2.out HOL.out);clear hol HY HA2 HOL H5
    go_upto_region 5 with fail
    go_quiet (first | (go_at_call 90;exact zas (HN.out _)) | (go_at_call 171;exact zas (HOD.out _)))
    go_wp2_with fail
    go_roundw
    case rel=>exact ⟨k+1,by omega,by go_num,HA3,zq (H3.out.drewN _)⟩
    case measure=>simp [intOf];omega
  ·obtain rfl:k=rd.length:=by omega
   have hkI:decide ((rd.length:Int)<(rd.length:Int))=false:=by simp
   have HF:Hid (fin=false):=zq (HO.out.trans (any_no (fun j hj=>HA.out j hj hj)));have H5:=zq H1.out.drop;clear HA H1
   go_wp2_with fail
   go_ret
   exact ⟨by rw [HF.out];rfl,H5.out⟩
end
structure Outs (n:Nat) (p q:NSt):Prop where
 e: ∃o,q.1= {p.1 with out:=p.1.out++o}∧o.length≤n
 nt:q.2.length≤p.2.length+n
theorem Outs.refl (p:NSt):Outs 0 p p:=⟨⟨[],by simp,by simp⟩,Nat.le_refl _⟩
theorem Outs.trans {n m:Nat} {p q r:NSt} (h:Outs n p q) (g:Outs m q r):Outs (n+m) p r:=by
 obtain ⟨⟨o1,e1,l1⟩,h2⟩:=h;obtain ⟨⟨o2,e2,l2⟩,g2⟩:=g;refine ⟨⟨o1++o2,?_,by rw [List.length_append];omega⟩,by omega⟩;rw [e2,e1];simp
theorem Outs.mono {n m:Nat} {p q:NSt} (h:Outs n p q) (hm:n≤m):Outs m p q:=⟨let ⟨o,a,b⟩:=h.e;⟨o,a,by omega⟩,by have:=h.nt;omega⟩
theorem Outs.c {n:Nat} {p q:NSt} (h:Outs n p q):q.1.c=p.1.c:=by obtain ⟨o,e,-⟩:=h.e;rw [e]
theorem Outs.outl {n:Nat} {p q:NSt} (h:Outs n p q):q.1.out.length≤p.1.out.length+n:=by obtain ⟨o,e,h2⟩:=h.e;rw [e];simp only [List.length_append];omega
theorem zvp (p:NSt) (m:Ms) (hf:p.1.c.f≤4):Outs 13 p (sendS p m):=by
 obtain ⟨o,e,h1,h2⟩:=zdp p m;exact ⟨⟨o,by rw [e],by omega⟩,by omega⟩
theorem zj5: ∀l:List Pl,zdt l≤l.length
 | []=>Nat.le_refl _
 | p::l=>by
  have ih:=zj5 l;unfold zdt;rw [List.length_cons];split
  ·omega
  ·split<;>omega
theorem zr9 {i:In} {bt:Int} {rs:List Rq} {k:Nat} (hk:k<rs.length):pickB i bt (rs.take (k+1))=if ((pickB i bt (rs.take k)).length:Int)<bt∧ !usedI i rs[k] then pickB i bt (rs.take k)++[rs[k]] else pickB i bt (rs.take k):=by
 unfold pickB;rw [List.take_succ_eq_append_getElem hk,List.foldl_append];rfl
section
variable {p:NSt} {k:Nat}
theorem pr_no (h:(insAt p.1 k).on=false∨decide (zak p.1.c.f p.1.view k=p.1.id)=false∨decide ((16:Int)<nextI (insAt p.1 k))=true∨decide ((doneI (insAt p.1 k):Int)+p.1.c.ah<nextI (insAt p.1 k))=true):zaw p k=p:=by
 unfold zaw;simp only;rw [if_pos];rcases h with h | h | h | h<;>rw [h]<;>simp
def prMid (p:NSt) (k:Nat) (b:List Rq):NSt:=({zbp p.1 k (preI (insAt p.1 k) (nextI (insAt p.1 k)) b) with pre:=setRow p.1.pre k (nextI (insAt p.1 k)) (p.1.view+1)},p.2)
theorem pr_is (h1:(insAt p.1 k).on=true) (h2:decide (zak p.1.c.f p.1.view k=p.1.id)=true) (h3:decide ((16:Int)<nextI (insAt p.1 k))=false) (h4:decide ((doneI (insAt p.1 k):Int)+p.1.c.ah<nextI (insAt p.1 k))=false):
  zaw p k=if (pickB (insAt p.1 k) p.1.c.bt (zai p.1.tab)).isEmpty || !preB (insAt p.1 k) (nextI (insAt p.1 k)) then p else
   zcz k (nextI (insAt p.1 k)) (sendS (prMid p k (pickB (insAt p.1 k) p.1.c.bt (zai p.1.tab))) (balM' 3 p.1.view k (nextI (insAt p.1 k)) (pickB (insAt p.1 k) p.1.c.bt (zai p.1.tab)))):=by
 unfold zaw;simp only;rw [if_neg]
 ·rfl
 ·rw [h1,h2,h3,h4];decide
end
def PrQ (p:NSt) (k:Nat):Prop:=zai p.1.tab=[]∨decide (zak p.1.c.f p.1.view k=p.1.id)=false∨zi7 k (nextI (insAt p.1 k)) (sendS (prMid p k (pickB (insAt p.1 k) p.1.c.bt (zai p.1.tab))) (balM' 3 p.1.view k (nextI (insAt p.1 k)) (pickB (insAt p.1 k) p.1.c.bt (zai p.1.tab))))
section
variable {B:Nat} {w0 w W W':World} {ss rs:List Res} {x:Np} {s s':Ns} {l l':Nt} {k:Nat}
theorem nd_len16 (h:NdIs B w0 W x s l ss) (hk:k<s.c.f+1):(insAt s k).l.length=16:=by
 have hki:k<s.ins.length:=by rw [h.ok.ins];exact hk
 obtain ⟨jj,r5,-,ha,-⟩:=h.inst k hki;rw [zbc s k hki];exact ai_len ha
theorem zvh {a1:Option Addr} {c1:Nat} {kind view inst seq:Int} {bs:List Rq} (h:NdIs B w0 W x s l (batR (.slice a1 bs.length c1) bs::ss)) (hb:bs.length≤4) (hn:l.length≤900000000) (ho:s.out.length≤900000000):
  Calls Tryz.prog 160 #[ptrV x.p,.agg (mmA (batMm kind view inst seq (.slice a1 bs.length c1) bs))] W fun e w'=>(∃v:Int,∃b:Bool,e= .returned (.tuple #[.int .i64 v,.bool b]))∧NdIs B w0 w' x (sendS (s,l) (balM' kind view inst seq bs)).1 (sendS (s,l) (balM' kind view inst seq bs)).2 (batR (.slice a1 bs.length c1) bs::ss):=by
 refine (ziu (m:=batMm kind view inst seq (.slice a1 bs.length c1) bs) (h.onSide (ss':=mmR (batMm kind view inst seq (.slice a1 bs.length c1) bs) (batR (.slice a1 bs.length c1) bs::ss)) (fun r hr=>znj (rs:=ss++[r]) hr)) (zlk hb) hn ho).mono ?_;rintro e w' ⟨he,h2⟩;exact ⟨⟨_,_,he⟩,zhz h2⟩
theorem zo2 (HQ:PrQ (s,l) k∨CmtC B w0 x) (h:NdIs B w0 W x s l ss) (hk:k<s.c.f+1) (hn:l.length≤500000000) (ho:s.out.length≤500000000):
  Calls Tryz.prog 89 #[ptrV x.p,.int .i64 k] W fun e w'=>e= .returned (.tuple #[])∧NdIs B w0 w' x (zaw (s,l) k).1 (zaw (s,l) k).2 ss:=by
 obtain ⟨i,hi,ci⟩:=h.iAt hk;obtain ⟨fin,hfin⟩: ∃fin,fin=zaw (s,l) k:=⟨_,rfl⟩;rw [←hfin];have h16:=nd_len16 h hk;have hnx1:nextI (insAt s k)≤17:=by have:=zj5 (insAt s k).l;unfold nextI;omega
 have hnx0:1≤nextI (insAt s k):=by unfold nextI;omega
 have hdn1:doneI (insAt s k)≤16:=by have:=zxh (st:=insAt s k);omega
 have hki:k<s.ins.length:=by rw [h.ok.ins];exact hk
 have HSM:Hid (InSm (insAt s k)):=zq (by rw [zbc s k hki];exact (h.ok.insk k hki).2.2.2);have hrdl:(zai s.tab).length≤1000:=by have:=zeu s.tab;have:=zhf h.ok.tab h.ok.c.cl2;omega
 have HC:=zq h.ok.c;have hah1:=h.ok.c.ah1;have hah2:=h.ok.c.ah2;have hbt1:=h.ok.c.bt1;have hbt2:=h.ok.c.bt2;have hvw0:=h.ok.view0;have hvw1:=h.ok.view1;have hcap:=h.caps.1;have hcpr:=h.caps.2.2.2.1;have HNX:=zq (nd_next h hk hi);have HI:=zq hi;have HFIN:=zq hfin;have H0:=zq h;have HQ0:=zq HQ;have c18:=h.cell 18 rfl (by decide);have hk0:(0:Int)≤(k:Int):=by omega
 have hkI:(k:Int)<(s.c.f:Int)+1:=by omega
 have hcI:(s.c.f:Int)+1≤(x.ic:Int):=by omega
 have hcP:(s.c.f:Int)+1≤(x.prk:Int):=by omega
 obtain ⟨on,hon⟩: ∃b,b=(insAt s k).on:=⟨_,rfl⟩;obtain ⟨pr,hpr⟩: ∃b,b=decide (zak s.c.f s.view k=s.id):=⟨_,rfl⟩;obtain ⟨nx,hnx⟩: ∃b:Nat,b=nextI (insAt s k):=⟨_,rfl⟩;obtain ⟨dn,hdn⟩: ∃b:Nat,b=doneI (insAt s k):=⟨_,rfl⟩;rw [←hnx] at HNX hnx1 hnx0;rw [←hdn] at hdn1;have HON:=zq hon;have HPR:=zq hpr;have HNXE:=zq hnx;have HDNE:=zq hdn;clear h hfin hi hki h16 hon hpr hnx hdn hcap HQ;go_enter Tryz.func89,Tryz.ntmps89
 go_wp2_with fail
 with_reducible refine HNX.out.mono ?_
 rintro e w1 ⟨rfl,hu⟩;have H1:=zq (H0.out.upd0 hu);clear hu HNX H0 c18 ci
 go_upto_region 2 with fail
 have c3:w1.cell? ⟨x.p,3,none⟩=some (.int .i64 s.c.ah):=H1.out.cell 3 rfl (by decide);have HIN:=zq (fun n=>zc4 (H1.out.drewN n) k hk HI.out);have HPM:=zq (fun n=>zvf (k:Int) (H1.out.drewN n));have HDN:=zq (fun n=>nd_done (H1.out.drewN n) k hk HI.out);rw [←HON.out] at HIN;rw [←HPR.out] at HPM;rw [←HDNE.out] at HDN;have hsum:IntKind.i64.wrap ((dn:Int)+s.c.ah)=(dn:Int)+s.c.ah:=IntWalk.i64_in _ (by omega);have HG:Hid ((on=false)∨(on=true∧pr=false)∨(on=true∧pr=true∧decide ((16:Int)<nx)=true)∨(on=true∧pr=true∧decide ((16:Int)<nx)=false∧decide ((dn:Int)+s.c.ah<nx)=true)∨(on=true∧pr=true∧decide ((16:Int)<nx)=false∧decide ((dn:Int)+s.c.ah<nx)=false)):=zq (by
  cases on<;>cases pr<;>cases decide ((16:Int)<nx)<;>cases decide ((dn:Int)+s.c.ah<nx)<;>simp)
 have HNO:Hid (on=false∨pr=false∨decide ((16:Int)<nx)=true∨decide ((dn:Int)+s.c.ah<nx)=true→fin=(s,l)):=zq (fun h=>HFIN.out.trans (pr_no (by
  simp only;rw [←HON.out,←HPR.out,←HNXE.out,←HDNE.out];exact h)))
 rcases HG.out with ho1 | ⟨ho1,ho2⟩ | ⟨ho1,ho2,ho3⟩ | ⟨ho1,ho2,ho3,ho4⟩ | ⟨ho1,ho2,ho3,ho4⟩
 ·obtain rfl:fin=(s,l):=HNO.out (.inl ho1)
  subst ho1;clear HNO HG HFIN HON HPR
  go_quiet (first | (go_at_call 73;exact zas (HIN.out _)) | (go_at_call 155;exact zeb (HPM.out _)) | (go_at_call 156;exact zas (HDN.out _)))
  go_wp2_with fail
  refine bodyPost_ret (v:= .tuple #[]) (results_none rfl _ _ _) rfl ?_;exact ⟨rfl,H1.out.drewN _⟩
 ·obtain rfl:fin=(s,l):=HNO.out (.inr (.inl ho2))
  subst ho1 ho2;clear HNO HG HFIN HON HPR
  go_quiet (first | (go_at_call 73;exact zas (HIN.out _)) | (go_at_call 155;exact zeb (HPM.out _)) | (go_at_call 156;exact zas (HDN.out _)))
  go_wp2_with fail
  refine bodyPost_ret (v:= .tuple #[]) (results_none rfl _ _ _) rfl ?_;exact ⟨rfl,H1.out.drewN _⟩
 ·obtain rfl:fin=(s,l):=HNO.out (.inr (.inr (.inl ho3)))
  subst ho1 ho2;clear HNO HG HFIN HON HPR
  go_quiet (first | (go_at_call 73;exact zas (HIN.out _)) | (go_at_call 155;exact zeb (HPM.out _)) | (go_at_call 156;exact zas (HDN.out _)))
  go_wp2_with fail
  refine bodyPost_ret (v:= .tuple #[]) (results_none rfl _ _ _) rfl ?_;exact ⟨rfl,H1.out.drewN _⟩
 ·obtain rfl:fin=(s,l):=HNO.out (.inr (.inr (.inr ho4)))
  subst ho1 ho2;clear HNO HG HFIN HON HPR
  go_quiet (first | (go_at_call 73;exact zas (HIN.out _)) | (go_at_call 155;exact zeb (HPM.out _)) | (go_at_call 156;exact zas (HDN.out _)))
  go_wp2_with fail
  refine bodyPost_ret (v:= .tuple #[]) (results_none rfl _ _ _) rfl ?_;exact ⟨rfl,H1.out.drewN _⟩
 have HFIN2:Hid (fin=if (pickB (insAt s k) s.c.bt (zai s.tab)).isEmpty || !preB (insAt s k) nx then (s,l) else zcz k nx (sendS ({zbp s k (preI (insAt s k) nx (pickB (insAt s k) s.c.bt (zai s.tab))) with pre:=setRow s.pre k nx (s.view+1)},l) (balM' 3 s.view k nx (pickB (insAt s k) s.c.bt (zai s.tab))))):=zq (by
  have:=HFIN.out.trans (pr_is (p:=(s,l)) (k:=k) (by rw [←ho1];exact HON.out.symm) (by rw [←ho2];exact HPR.out.symm) (by rw [←ho3,HNXE.out]) (by rw [←ho4,HNXE.out,HDNE.out]));rw [this,HNXE.out];rfl)
 have HQ3:Hid (zai s.tab=[]∨zi7 k nx (sendS ({zbp s k (preI (insAt s k) nx (pickB (insAt s k) s.c.bt (zai s.tab))) with pre:=setRow s.pre k nx (s.view+1)},l) (balM' 3 s.view k nx (pickB (insAt s k) s.c.bt (zai s.tab))))∨CmtC B w0 x):=zq (by
  rcases HQ0.out with (h | h | h) | h
  ·exact .inl h
  ·have h2:=HPR.out
   rw [ho2] at h2;exact absurd (h2.trans h) (by simp)
  ·exact .inr (.inl (by rw [HNXE.out];exact h))
  ·exact .inr (.inr h))
 clear HQ0;subst ho1 ho2;clear HNO HG HFIN HON HPR HNXE HDNE
 go_quiet (first | (go_at_call 73;exact zas (HIN.out _)) | (go_at_call 155;exact zeb (HPM.out _)) | (go_at_call 156;exact zas (HDN.out _)))
 clear HIN HPM HDN;generalize hw2:World.drewN w1 _=w2;have H2:Hid (NdIs B w0 w2 x s l ss):=zq (by rw [←hw2];exact H1.out.drewN _);clear hw2 H1 c3;obtain ⟨i0,hi0,hz0,hz1,hz2⟩:=info_parts Tryz.infoRqT;have c19:=H2.out.cell 19 rfl (by decide);have HRD:=zq (zrl H2.out);obtain ⟨rd,hrd⟩: ∃rd,rd=zai s.tab:=⟨_,rfl⟩;rw [←hrd] at HRD HFIN2 hrdl HQ3;clear hrd H2
 go_wp2_with fail
 with_reducible refine HRD.out.mono ?_
 rintro e w3 ⟨ao,cap,rfl,h3⟩;have H3:Hid (NdIs B w0 w3 x s l (ownR 38 6 (.slice none 0 0) 0 []::batR (.slice ao rd.length cap) rd::ss)):=zq (h3.onSide (fun r hr=>hr.row0));obtain ⟨pk,hpk⟩: ∃pk:Nat→List Rq,pk=fun j=>pickB (insAt s k) s.c.bt (rd.take j):=⟨_,rfl⟩;have HPK:Hid (∀j,(hj:j<rd.length)→pk (j+1)=if ((pk j).length:Int)<s.c.bt∧ !usedI (insAt s k) rd[j] then pk j++[rd[j]] else pk j):=zq (fun j hj=>by rw [hpk];exact zr9 hj);have HPL:Hid (∀j,(pk j).length≤4):=zq (fun j=>by
  have:=znr (insAt s k) s.c.bt (by omega) (rd.take j);rw [hpk];show (pickB (insAt s k) s.c.bt (rd.take j)).length≤4;omega)
 have hpe:pk rd.length=pickB (insAt s k) s.c.bt rd:=by rw [hpk];show pickB _ _ (rd.take rd.length)=_;rw [List.take_length]
 have hp0:pk 0=[]:=by rw [hpk];rfl
 rw [←hpe] at HFIN2 HQ3;have HP0:=zq hp0;have HQ2:Hid (pk rd.length=[]∨zi7 k nx (sendS ({zbp s k (preI (insAt s k) nx (pk rd.length)) with pre:=setRow s.pre k nx (s.view+1)},l) (balM' 3 s.view k nx (pk rd.length)))∨CmtC B w0 x):=zq (HQ3.out.imp (fun hq=>by rw [hq];exact hp0) id);clear HQ3 h3 HRD c19 hpk hpe hp0
 go_wp2_with fail
 go_loopw [6,49] (fun out n wr=> ∃(j:Nat) (o6:Option Addr) (c6:Nat),j≤rd.length∧n= .int .i64 j∧out= .slice o6 (pk j).length c6∧Hid (NdIs B w0 wr x s l (ownR 38 6 (.slice o6 (pk j).length c6) (pk j).length ((pk j).flatMap zaf)::batR (.slice ao rd.length cap) rd::ss))) (fun _ n _=>rd.length-(intOf n).toNat)
 case atStart=>exact ⟨0,none,0,by omega,rfl,by rw [HP0.out];rfl,zq (by rw [HP0.out];exact H3.out)⟩
 case round=>
  clear H3 HP0;obtain ⟨j,o6,c6,hj,rfl,rfl,H3⟩:=hrel;have hj0:(0:Int)≤(j:Int):=by omega
  have hjB:(j:Int)≤1000:=by omega
  have hA4:=HPL.out j;by_cases hlt:j<rd.length
  ·have hjI:(j:Int)<(rd.length:Int):=by omega
   obtain ⟨r0,hs,hback⟩:=H3.out.side;obtain ⟨ao',cap',hv',hbc,-,-,-,h5⟩:=zcn (hs.get 1 rfl);simp only [Value.slice.injEq] at hv';obtain ⟨rfl,-,rfl⟩:=hv';obtain ⟨b,o,rfl,hbs,hcs⟩:=h5 (by omega);obtain ⟨q0,q1,q2,q3,q4,q5⟩:=zba hcs j rd[j] (by simp);have hbcI:(rd.length:Int)≤(cap:Int):=by omega
   have HS:=zq (HPK.out j hlt);have HLT:Hid (∀A:List Rq,(A++[rd[j]]).flatMap zaf=A.flatMap zaf++zaf rd[j]):=zq (fun A=>by simp);clear hcs h5 hbs hbc;generalize hrj:rd[j]=r at*;clear hrj;have H4:=zq (H3.out.box (rqO r));clear hs hback;generalize pk j=A at*
   go_upto_region 7 with fail
   clear q0 q1 q2 q3 q4 q5 H3;generalize wr.heap.size=e8 at*;generalize World.alloc wr _=w4 at*;have c2:=H4.out.cell 2 rfl (by decide);by_cases hbt:(A.length:Int)<s.c.bt
   ·obtain ⟨rr,hr,-⟩:=H4.out.side
    have b0:=zaa (hr.blkAt 0 rfl) 0 rfl;have b1:=zaa (hr.blkAt 0 rfl) 1 rfl;have b2:=zaa (hr.blkAt 0 rfl) 2 rfl;have b3:=zaa (hr.blkAt 0 rfl) 3 rfl;have b4:=zaa (hr.blkAt 0 rfl) 4 rfl;have b5:=zaa (hr.blkAt 0 rfl) 5 rfl;have HU:=zq (nd_used H4.out hk HI.out r);unfold rqAgg at HU;clear hr;cases hus:usedI (insAt s k) r with
    | true=>
     rw [hus] at HU HS;have HE:Hid (pk (j+1)=A):=zq (by rw [HS.out,if_neg (fun h=>by simp at h)]);clear hus HS HLT
     go_wp2_with fail
     with_reducible refine HU.out.mono ?_
     rintro e w5 ⟨rfl,hu⟩;have H5:=zq (H4.out.upd0 hu).drop;clear hu HU H4 b0 b1 b2 b3 b4 b5 c2
     go_wp2_with fail
     go_roundw
     case rel=>exact ⟨j+1,o6,c6,by omega,by go_num,by rw [HE.out],zq (by rw [HE.out];exact H5.out)⟩
     case measure=>simp [intOf];omega
    | false=>
     rw [hus] at HU HS;have HE:Hid (pk (j+1)=A++[r]):=zq (by rw [HS.out,if_pos ⟨hbt,by simp⟩]);clear hus HS
     go_wp2_with fail
     with_reducible refine HU.out.mono ?_
     rintro e w5 ⟨rfl,hu⟩;have H5:=zq (H4.out.upd0 hu);clear hu HU H4 b0 b1 b2 b3 b4 b5 c2;obtain ⟨r5,hs5,hk5⟩:=H5.out.side;have b0:=zaa (hs5.blkAt 0 rfl) 0 rfl;have b1:=zaa (hs5.blkAt 0 rfl) 1 rfl;have b2:=zaa (hs5.blkAt 0 rfl) 2 rfl;have b3:=zaa (hs5.blkAt 0 rfl) 3 rfl;have b4:=zaa (hs5.blkAt 0 rfl) 4 rfl;have b5:=zaa (hs5.blkAt 0 rfl) 5 rfl;have HX:=zq (hs5.box (.cells #[.int .i64 r.client,.int .i64 r.time,.int .i64 r.kind,.int .i64 r.key,.int .i64 r.val,.int .i64 r.sl] 38 (0,0)));have HN:=zq (heap_alloc_new w5 (.cells #[.int .i64 r.client,.int .i64 r.time,.int .i64 r.kind,.int .i64 r.key,.int .i64 r.val,.int .i64 r.sl] 38 (0,0)));have HK:=zq hk5;have HA9:Hid (A.length≤4):=zq hA4;clear hs5 hk5 H5
     go_wp2_with (at_builtin;refine za9 rfl (.tmp 67) (.tmp 69) 39 rfl 38 i0 (.agg #[.int .i64 0,.int .i64 0,.int .i64 0,.int .i64 0,.int .i64 0,.int .i64 0]) 6 48 Tryz.underlying39 hi0 hz0 hz1 hz2 rfl (by decide) HX.out 2 (.slice o6 A.length c6) A.length (A.flatMap zaf) rfl rfl w5.heap.size #[.int .i64 r.client,.int .i64 r.time,.int .i64 r.kind,.int .i64 r.key,.int .i64 r.val,.int .i64 r.sl] 38 (0,0) rfl HN.out rfl (by simp [Value.oneCell']) (by have:=HA9.out;unfold maxLen;omega) (by have:=HA9.out;omega) ?_)
     intro g2 cap2 w6 h6;have h7:=(h6.dropAt 0 (by simp)).dropAt 0 (by simp);have HF:Hid (NdIs B w0 w6 x s l (ownR 38 6 (.slice (some ⟨g2,0,none⟩) (A++[r]).length cap2) (A++[r]).length ((A++[r]).flatMap zaf)::batR (.slice (some ⟨b,o,none⟩) rd.length cap) rd::ss)):=zq (by
      refine HK.out w6 (_::_::ss) ?_;rw [HLT.out,List.length_append,List.length_singleton];exact h7)
     clear h6 h7 HX HN HK HLT b0 b1 b2 b3 b4 b5
     go_wp2_with fail
     go_roundw
     case rel=>exact ⟨j+1,some ⟨g2,0,none⟩,cap2,by omega,by go_num,by rw [HE.out];simp,zq (by rw [HE.out];exact HF.out)⟩
     case measure=>simp [intOf];omega
   ·have hbtB:decide ((A.length:Int)<s.c.bt)=false:=by simp;omega
    have HE:Hid (pk (j+1)=A):=zq (by rw [HS.out,if_neg (fun h=>hbt h.1)]);have H5:=zq H4.out.drop;clear HS HLT H4 hbt
    go_wp2_with fail
    go_roundw
    case rel=>exact ⟨j+1,o6,c6,by omega,by go_num,by rw [HE.out],zq (by rw [HE.out];exact H5.out)⟩
    case measure=>simp [intOf];omega
  ·obtain rfl:j=rd.length:=by omega
   have hjI:decide ((rd.length:Int)<(rd.length:Int))=false:=by simp
   generalize pk rd.length=A at*;have H6:Hid (NdIs B w0 wr x s l (batR (.slice o6 A.length c6) A::ss)):=zq (by
    refine H3.out.onSide (fun r hr=> ?_);exact (Own.toRed hr).dropAt 1 (by simp))
   clear H3 HPK HPL hlt;by_cases hem:A=[]
   ·subst hem
    obtain rfl:fin=(s,l):=by rw [HFIN2.out];rfl
    have HF:=zq H6.out.drop;clear HFIN2 H6
    go_wp2_with fail
    refine bodyPost_ret (v:= .tuple #[]) (results_none rfl _ _ _) rfl ?_;exact ⟨rfl,HF.out⟩
   ·have HCC:Hid (zi7 k nx (sendS ({zbp s k (preI (insAt s k) nx A) with pre:=setRow s.pre k nx (s.view+1)},l) (balM' 3 s.view k nx A))∨CmtC B w0 x):=zq (by rcases HQ2.out with h | h;exact absurd h hem;exact h)
    have hlen:0<A.length:=List.length_pos_iff.2 hem;have hlz:((A.length:Int)==0)=false:=by rw [beq_eq_false_iff_ne];omega
    have he:A.isEmpty=false:=by cases A with | nil=>exact absurd rfl hem | cons=>rfl
    have HPRE:=zq (nd_pre H6.out hk HI.out hA4 nx);cases hpb:preB (insAt s k) nx with
    | false=>
     rw [hpb] at HPRE;obtain rfl:fin=(s,l):=by rw [HFIN2.out,hpb,he];rfl
     have HSS:Hid (zbp s k (preI (insAt s k) nx A)=s):=zq (by rw [preI_no hpb];exact zfp (by rw [H6.out.ok.ins];exact hk));clear hpb HFIN2 H6 hem he
     go_wp2_with fail
     with_reducible refine HPRE.out.mono ?_
     rintro e w7 ⟨rfl,h7⟩;have HF:Hid (NdIs B w0 w7 x s l ss):=zq (by rw [HSS.out] at h7;exact h7.drop);clear h7 HPRE HSS
     go_wp2_with fail
     refine bodyPost_ret (v:= .tuple #[]) (results_none rfl _ _ _) rfl ?_;exact ⟨rfl,HF.out⟩
    | true=>
     rw [hpb] at HPRE;obtain ⟨s2,hs2⟩: ∃s2:Ns,s2= {zbp s k (preI (insAt s k) nx A) with pre:=setRow s.pre k nx (s.view+1)}:=⟨_,rfl⟩;obtain ⟨p2,hp2⟩: ∃p2,p2=sendS (s2,l) (balM' 3 s.view k nx A):=⟨_,rfl⟩;have HFIN3:Hid (fin=zcz k nx p2):=zq (by rw [HFIN2.out,hpb,he,hp2,hs2];rfl);have HQA:Hid (zi7 k nx p2∨CmtC B w0 x):=zq (by rw [hp2,hs2];exact HCC.out);have hnx16:nx≤16:=by simp at ho3;omega
     clear hpb HFIN2 H6 hem he HCC
     go_wp2_with fail
     with_reducible refine HPRE.out.mono ?_
     rintro e w7 ⟨rfl,h7⟩;obtain ⟨qr,y1,z1,y2,hput⟩:=h7.preRow (k:=k) hk;have hsn0:(0:Int)≤(nx:Int):=by omega
     have hsnI:(nx:Int)<17:=by omega
     have c26:w7.cell? ⟨x.p,26,none⟩=some (slI x.pr (s.c.f+1) x.prk):=h7.cell 26 rfl (by decide);have c29:w7.cell? ⟨x.p,29,none⟩=some (.int .i64 s.view):=h7.cell 29 rfl (by decide);have hvw:IntKind.i64.wrap (s.view+1)=s.view+1:=IntWalk.i64_in _ (by omega);have y3:w7.drew.cell? ⟨qr,nx,none⟩=some (.int .i64 (rowAt s.pre k nx)):=y2 nx (by omega);have z3:w7.drew.frozen? ⟨qr,nx,none⟩=false:=z1 nx;have H8:Hid (NdIs B w0 (w7.setCell ⟨qr,nx,none⟩ (.int .i64 (s.view+1))).drew x s2 l (batR (.slice o6 A.length c6) A::ss)):=zq (by rw [hs2];exact (hput nx (s.view+1)).drew);have HV2:Hid (s2.view=s.view∧s2.c=s.c∧s2.out=s.out):=zq (by rw [hs2];exact ⟨rfl,rfl,rfl⟩);have HP2:=zq hp2;have y1':w7.cell? ⟨x.pr,k,none⟩=some (nrV qr):=y1;clear hput z1 y2 y1 h7 hp2 hs2 HPRE
     go_wp2_with fail
     go_region
     all_goals
      generalize World.drew (World.setCell _ _ _)=w8 at*;obtain ⟨hv1,hv2,hv3⟩:=HV2.out;have hg:=zvp (s2,l) (balM' 3 s.view k nx A) (by rw [hv2];exact HC.out.f2);rw [←HP2.out] at hg;have HG:=zq hg;have HSB:=zq (zvh (kind:=3) (view:=s.view) (inst:=k) (seq:=nx) H8.out hA4 (by omega) (by rw [hv3];omega));rw [←HP2.out] at HSB;have c29:w8.cell? ⟨x.p,29,none⟩=some (.int .i64 s.view):=by have:=H8.out.cell 29 rfl (by decide);rw [hv1] at this;exact this
      have hk3:k<p2.1.c.f+1:=by rw [hg.c,hv2];exact hk
      have hn3:p2.2.length≤600000000:=by have:=hg.nt;simp only at this;omega
      have ho3:p2.1.out.length≤600000000:=by have:=hg.outl;simp only at this;rw [hv3] at this;omega
      clear hg hv1 hv2 hv3 H8 HP2 HV2 y3 z3 c26 y1';obtain ⟨s3,l3⟩:=p2;simp only at hk3 hn3 ho3 HSB
      go_wp2_with fail
      with_reducible refine HSB.out.mono ?_
      rintro e w9 ⟨⟨sv,sb,rfl⟩,h9⟩;have HAC:=zq (zl1 (seq:=nx) HQA.out h9.drop hk3 hn3 ho3);rw [←HFIN3.out] at HAC;clear h9 HSB c29
      go_wp2_with fail
      with_reducible refine HAC.out.mono ?_
      rintro e w10 ⟨rfl,h10⟩;have HF:=zq h10;clear h10 HAC
      go_wp2_with fail
      refine bodyPost_end (results_none rfl _ _ _) rfl ?_;exact ⟨rfl,HF.out⟩
end
section
variable {B:Nat} {w0 w W W':World} {ss rs:List Res} {x:Np} {s s':Ns} {l l':Nt} {k:Nat}
theorem Outs.same {n:Nat} {p q:NSt} (h:Outs n p q):q.1.view=p.1.view∧q.1.pre=p.1.pre∧q.1.com=p.1.com∧q.1.ins=p.1.ins∧q.1.id=p.1.id∧q.1.tab=p.1.tab∧q.1.now=p.1.now∧q.1.pts=p.1.pts∧q.1.bg=p.1.bg∧q.1.voted=p.1.voted:=by
 obtain ⟨o,e,-⟩:=h.e;rw [e];exact ⟨rfl,rfl,rfl,rfl,rfl,rfl,rfl,rfl,rfl,rfl⟩
end
section
variable {B:Nat} {w0 w W W':World} {ss rs:List Res} {x:Np} {s s':Ns} {l l':Nt} {k:Nat}
abbrev PA (p t:Nat) (ag:Int) (w:World):Prop:=w.cell? ⟨p,17,none⟩=some (ptrV t)∧w.cell? ⟨p,13,none⟩=some (.int .i64 ag)
theorem NdIs.pa (h:NdIs B w0 W x s l ss):PA x.p x.t s.c.ag W:=⟨h.cell 17 rfl (by decide),h.cell 13 rfl (by decide)⟩
def ag1 (p:NSt) (k:Nat):NSt:=(List.range k).foldl slotsS p
end
end Go.Proofs.YtannckelmojkoaaGreat
namespace Go.Heap
open Go.RowKit
theorem zlb {P:Program} {w:World} {ops:Array Oper} {rest:List Oper} {o:Oper} {a:Act} {Q:Exit→Act→World→Prop} (hgd:o.guard=none) (x:Operand) (t:TypeId)
  (ho:o.op= .call {callee:= .builtin .append,args:=#[.const (.slice none 0 0),x],argTypes:=#[t,t]})
  (e:TypeId) (i:TypeInfo) (z:Value) (size bytes:Nat) (ht:P.underlying t=some (.slice e)) (hi:P.info? e=some i) (hz:i.zero=some z)
  (hsize:i.size=size) (hby:i.bytes=bytes) (hzs:z.cells.size=size) (hsz:0<size)
  (b:Nat) (n cap:Nat) (xs:List Value) (hx:a.eval x= .slice (some ⟨b,0,none⟩) n cap) (hl3:xs.length=n*size) (hc: ∀j,j<n*size→w.cell? ⟨b,j,none⟩=xs[j]?) (h1: ∀u∈xs,u.oneCell'=true) (hbytes:n*bytes≤140737488355328) (hmx:n≤maxLen)
  (h: ∀v' w',w'.ownsRow w.heap.size e size v' n xs→Upd [] w w'→wpList P ops Q rest (a.put o.dst v') w'):wpList P ops Q (o::rest) a w:=by
 have hnews: ∀j u,xs[j]?=some u→w.cell? ((⟨b,0,none⟩:Addr).add j)=some u:=by
  intro j u hj;have hlt:=(List.getElem?_eq_some_iff.1 hj).1;have:(⟨b,0,none⟩:Addr).add j=⟨b,0+j,none⟩:=by unfold Addr.add;split<;>simp_all
  rw [this,Nat.zero_add,hc j (by omega)];exact hj
 refine wpList_append_own w hgd (.const (.slice none 0 0)) x t ho w.heap.size e i z size bytes ht hi hz hsize hby hzs hsz (.slice none 0 0) 0 [] rfl (World.ownsRow_nil _ _ _ _) ⟨b,0,none⟩ n cap xs hx hl3 hnews h1 (by rw [Nat.zero_add];omega) (by rw [Nat.zero_add];exact hbytes) (Nat.le_refl _) ?_;intro v' w' hown hgrow _;rw [Nat.zero_add,List.nil_append] at hown;exact h v' w' hown ((Upd.refl _ _).grown hgrow (by intro k hk;simp [Value.ownBlock] at hk))
end Go.Heap
namespace Go.Proofs.YtannckelmojkoaaGreat
open Go.RowKit Go.Heap
theorem zvq {W:World} {E sz b o n cap:Nat} {xs:List Value} {A:List Nat} (h:(ownR E sz (.slice (some ⟨b,o,none⟩) n cap) n xs).At W A):o=0:=by
 obtain ⟨hx,h2⟩:=zaj h;rcases h2 with ⟨h3,-⟩ | ⟨g',cap',cur,h3,-⟩
 ·cases h3
 ·cases h3
  rfl
theorem mtC_one (l:List (Int×Int)): ∀u∈mtC l,u.oneCell'=true:=by
 intro u hu;unfold mtC at hu;obtain ⟨q,-,rfl⟩:=List.mem_map.1 hu;rfl
section
variable {B:Nat} {w0 w W W':World} {ss rs:List Res} {x:Np} {s s':Ns} {l l':Nt} {k:Nat}
theorem zz6 {m g cap:Nat} {z:List (Int×Int)} (h:Own B w0 W (mtL m g z.length cap z++ss)) (hz:z.length≤100):
  Calls Tryz.prog 95 #[ptrV m] W fun e w'=> ∃v,e= .returned v∧Own B w0 w' (ownR 269 1 v z.length (mtC z)::(mtL m g z.length cap z++ss)):=by
 obtain ⟨i0,hi,hz0,hz1,hz2⟩:=info_parts Tryz.infocx;have c0:=zaa (h.blkAt 0 rfl) 0 rfl;obtain ⟨-,q2,-⟩:=zdu (h.get 1 rfl);have hcc: ∀j,j<z.length*1→W.cell? ⟨g,j,none⟩=(mtC z)[j]?:=fun j hj=>q2 j (by rw [zrg];omega);have HC:=zq hcc;have HL:Hid ((mtC z).length=z.length*1):=zq (by rw [zrg,Nat.mul_one]);have HO:=zq (mtC_one z);have H:=zq h;have HB:Hid (z.length*16≤140737488355328):=zq (by omega);have HMX:Hid (z.length≤maxLen):=zq (by unfold maxLen;omega);clear h q2 hcc;generalize mtC z=cs at*;go_enter Tryz.func95,Tryz.ntmps95
 go_wp2_with (at_builtin;refine zlb rfl (.tmp 6) 169 rfl 269 i0 (.complex .f64 0 0) 1 16 Tryz.underlying169 hi hz0 hz1 hz2 rfl (by decide) g z.length cap cs rfl HL.out HC.out HO.out HB.out HMX.out ?_)
 intro v w' ho hu;have H2:=zq (H.out.row1 hu ho);clear ho hu
 go_wp2_with fail
 go_ret
 exact ⟨v,rfl,H2.out⟩
theorem mt_sm (h:NdIs B w0 W x s l ss): ∀q∈s.mt,0≤q.1∧q.1≤64∧0≤q.2∧q.2≤67108864:=by
 intro q hq;obtain ⟨k,hk,rfl⟩:=List.getElem_of_mem hq;have hok:=h.ok;have hki:k<s.ins.length:=by rw [hok.ins];rw [←hok.mt];exact hk
 obtain ⟨m1,m2,m3,m4⟩:=hok.mtn k hk hki;have hcp:(s.ins[k].l.countP (·.done):Nat)≤s.ins[k].l.length:=List.countP_le_length;obtain ⟨jj,r5,-,ha,-⟩:=h.inst k hki;have hil:=ai_len ha;refine ⟨m1,by omega,m3,?_⟩;have:s.mt[k].1≤64:=by omega
 omega
theorem nd_mall (h:NdIs B w0 W x s l ss):Calls Tryz.prog 95 #[ptrV x.mt] W fun e w'=> ∃g cap,e= .returned (.slice (some ⟨g,0,none⟩) s.mt.length cap)∧s.mt.length≤cap∧(∀k,(hk:k<s.mt.length)→w'.cell? ⟨g,k,none⟩=some (mtV s.mt[k]))∧NdIs B w0 w' x s l ss:=by
 have hok:=h.ok;have hf:=hok.c.f2;have hl:=hok.mt;obtain ⟨v,rr,c,d,g⟩:=h.lens 6 (by omega) (by omega);refine (zz6 (Own.open d) (by omega)).mono ?_;rintro e w' ⟨u,rfl,ho⟩;have hr:=owns_reads (zaj ho.head);obtain ⟨ao,cap,rfl,hc1,-,-,-,hcell⟩:=hr;obtain ⟨b,o,rfl,-,hc⟩:=hcell (by omega);have h0:=zvq ho.head;subst h0;refine ⟨b,cap,rfl,hc1,fun k hk=> ?_,?_⟩
 ·have:=hc k (by omega)
  rw [Nat.zero_add] at this;rw [this];unfold mtC;simp [hk]
 ·exact g w' s v ss (joinR (mtL x.mt x.mg s.mt.length x.mtk s.mt)) hok c rfl (Own.shut (rs:=mtL x.mt x.mg s.mt.length x.mtk s.mt) ho.drop)
theorem zl3 (h:NdIs B w0 W x s l ss) {g cap:Nat} (hcap:s.mt.length≤cap) (hc: ∀k,(hk:k<s.mt.length)→W.cell? ⟨g,k,none⟩=some (mtV s.mt[k])):
  Calls Tryz.prog 94 #[.agg (cfA s.c),.slice (some ⟨g,0,none⟩) s.mt.length cap] W fun e w'=>e= .returned (.bool (zcu s.c s.mt))∧NdIs B w0 w' x s l ss:=by
 have hm:=mt_sm h;have hl:=h.ok.mt;have hf1:=h.ok.c.f1;have hf2:=h.ok.c.f2;have hcc:=h.ok.c;cases hmt:s.mt with
 | nil=>rw [hmt] at hl;simp at hl
 | cons z b=>
  rw [hmt] at hm hl hcap;simp only [hmt] at hc;have hbl:b.length=s.c.f:=by simpa using hl
  have hz:=hm z List.mem_cons_self;have hsm:MtSm (z::b):=fun q hq=>by have:=hm q hq;omega
  have s1:=zkw Prod.fst 64 (by omega) b (fun q hq=>by have:=hm q (List.mem_cons_of_mem _ hq);exact ⟨this.1,this.2.1⟩);have s2:=zkw Prod.snd 67108864 (by omega) b (fun q hq=>by have:=hm q (List.mem_cons_of_mem _ hq);exact ⟨this.2.2.1,this.2.2.2⟩);refine (zpo hcc (z:=z) (l:=b) (g:=g) (cap:=cap) (by simpa using hcap) (hc 0 (by simp)) (fun k hk=> ?_) hsm (by omega) (by omega) (by omega) (by omega) (by unfold sum1;omega) (by unfold sum2;omega)).mono ?_
  ·have:=hc (k+1) (by simp;omega)
   rw [Nat.add_comm 1 k];exact this
  ·rintro e w' ⟨he,hu⟩
   exact ⟨he,h.upd0 hu⟩
end
end Go.Proofs.YtannckelmojkoaaGreat
