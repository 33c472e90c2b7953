/- Parts of the proof, one behind the other. -/
import Derived.Test.YtannckelmojkoaaGreatOrdB27
set_option maxHeartbeats 32000000
set_option maxRecDepth 100000
set_option linter.unusedVariables false
set_option linter.unusedSimpArgs false
namespace Go.Proofs.YtannckelmojkoaaGreat
open Go.RowKit Go.Heap
theorem td_cells {t:Td} (h:(tdC t).length=21):(tdC t)[19]?=some (.bool t.ready)∧(tdC t)[20]?=some (.int .i64 t.since):=by
 have hb:t.by_.length=13:=by
  unfold tdC za8 at h
  simp at h
  omega
 unfold tdC za8
 refine ⟨?_,?_⟩
 ·rw [List.getElem?_append_right (by simp),List.getElem?_append_right (by simp;omega)]
  simp [hb]
 ·rw [List.getElem?_append_right (by simp),List.getElem?_append_right (by simp;omega)]
  simp [hb]
theorem tb_td {w:World} {tb f:Nat} {cl:Int} {v:Value} {l:List Td} (h:TbAt w tb f cl v l) {k:Nat} (hk:k<l.length): ∃b o cap,v= .slice (some ⟨b,o,none⟩) l.length cap∧w.cell? ⟨b,o+k*21+19,none⟩=some (.bool l[k].ready)∧w.cell? ⟨b,o+k*21+20,none⟩=some (.int .i64 l[k].since):=by
 obtain ⟨ao,cap,hv,-,-,-,-,hc⟩:=h.r
 obtain ⟨b,o,rfl,-,hcell⟩:=hc (by omega)
 refine ⟨b,o,cap,hv,?_⟩
 have g: ∀j,j<21→w.cell? ⟨b,o+k*21+j,none⟩=(tdC l[k])[j]?:=fun j hj=>by
  have:=hcell (k*21+j) (by omega)
  rw [zqw tdC 21 l h.b k j hk hj,←Nat.add_assoc] at this
  exact this
 obtain ⟨g1,g2⟩:=td_cells (h.b _ (List.getElem_mem hk))
 exact ⟨(g 19 (by omega)).trans g1,(g 20 (by omega)).trans g2⟩
theorem tabIs_lt {l:List Td} {r:Rq} (h:tabIs l r=true): ∃hk:tabK l r<l.length,l[tabK l r].r=r:=by
 unfold tabIs at h
 cases hg:l[tabK l r]? with
 | none=>rw [hg] at h;simp at h
 | some t=>
  rw [hg] at h
  obtain ⟨hk,e⟩:=List.getElem?_eq_some_iff.1 hg
  exact ⟨hk,by rw [e];simpa using h⟩
theorem since_no {l:List Td} {r:Rq} (hb:tabIs l r=false):zbj l r=none:=by
 unfold zbj
 unfold tabIs at hb
 cases hg:l[tabK l r]? with
 | none=>rfl
 | some t=>
  rw [hg] at hb
  simp only [decide_eq_false_iff_not] at hb
  simp [hb]
theorem zwa {l:List Td} {r:Rq} (hk:tabK l r<l.length) (hr:l[tabK l r].r=r):zbj l r=if l[tabK l r].ready then some l[tabK l r].since else none:=by
 unfold zbj
 rw [List.getElem?_eq_getElem hk]
 simp [hr]
section
variable {W:World} {tb f:Nat} {cl:Int} {v:Value} {l:List Td}
theorem zp0 (h:TbAt W tb f cl v l) (hn:l.length≤1000000) (r:Rq):
  Calls Tryz.prog 170 #[ptrV tb,rqAgg r] W fun e w'=>e= .returned (.tuple #[.int .i64 ((zbj l r).getD 0),.bool (zbj l r).isSome])∧Upd [] W w':=by
 have hua:Upd [] W (W.alloc (rqO r)):=(Upd.refl [] W).alloc _
 have hb:(W.alloc (rqO r)).heap[W.heap.size]?=some (rqO r):=heap_alloc_new W _
 have HT:=Lib.hid (h.upd hua)
 have HUA:=Lib.hid hua
 have x0:=zaa hb 0 rfl
 have x1:=zaa hb 1 rfl
 have x2:=zaa hb 2 rfl
 have x3:=zaa hb 3 rfl
 have x4:=zaa hb 4 rfl
 have x5:=zaa hb 5 rfl
 have HA:=Lib.hid (tbAt_any HT.out hn r)
 obtain ⟨ao,cap,rfl,hcap,-⟩:=h.r
 clear h hua hb
 unfold rqAgg at HA⊢
 generalize hts:zbj l r=ts
 have HTS:=Lib.hid hts
 clear hts
 go_enter Tryz.func170,Tryz.ntmps170
 go_wp2_with fail
 refine HA.out.mono ?_
 rintro e w3 ⟨rfl,hu3⟩
 have HU3:=Lib.hid (HUA.out.trans hu3)
 have hT:=HT.out.upd hu3
 have y2:w3.cell? ⟨tb,2,none⟩=some (.slice ao l.length cap):=zaa hT.o 2 rfl
 clear x0 x1 x2 x3 x4 x5 hu3 HA
 cases hb:tabIs l r with
 | false=>
  obtain rfl:ts=none:=HTS.out.symm.trans (since_no hb)
  clear hb hT
  go_wp2_with fail
  refine bodyPost_ret (v:= .tuple #[.int .i64 0,.bool false]) (by simp [results,Tryz.results170,go_sem]) rfl ⟨rfl,HU3.out⟩
 | true=>
  obtain ⟨hk,hr⟩:=tabIs_lt hb
  obtain ⟨b,o,cap',hv,q19,q20⟩:=tb_td hT hk
  simp only [Value.slice.injEq,true_and] at hv
  obtain ⟨rfl,rfl⟩:=hv
  have hs:ts=if l[tabK l r].ready then some l[tabK l r].since else none:=HTS.out.symm.trans (zwa hk hr)
  have HS:=Lib.hid hs
  clear HTS
  generalize l[tabK l r]=t at*
  generalize tabK l r=k at*
  have hkI:(k:Int)<(l.length:Int):=by omega
  have hk0:(0:Int)≤k:=by omega
  clear hb hs hT hr
  cases hd:t.ready with
  | false=>
   rw [hd] at q19
   have HD:=Lib.hid hd
   clear hd
   obtain rfl:ts=none:=by rw [HS.out,HD.out];rfl
   go_wp2_with fail
   refine bodyPost_ret (v:= .tuple #[.int .i64 0,.bool false]) (by simp [results,Tryz.results170,go_sem]) rfl ⟨rfl,HU3.out⟩
  | true=>
   rw [hd] at q19
   have HD:=Lib.hid hd
   clear hd
   obtain rfl:ts=some t.since:=by rw [HS.out,HD.out];rfl
   go_wp2_with fail
   refine bodyPost_ret (v:= .tuple #[.int .i64 t.since,.bool true]) (by simp [results,Tryz.results170,go_sem]) rfl ⟨rfl,HU3.out⟩
end
section
variable {W:World} {tb f:Nat} {cl:Int} {v:Value} {l:List Td}
end
section
variable {B:Nat} {w0 w W W':World} {ss rs:List Res} {x:Np} {s s':Ns} {l l':Nt}
end
theorem zk7 {P:Program} (w:World) (t e:TypeId) (n:Nat) (cs:Array Value) (k:IntKind) (i:Int) (sz:Nat) (d:TypeDesc) (h:P.underlying t=some (.array n e)) (hd:P.underlying e=some d) (hr:d.isRow=true) (hi:(P.info? e).map (·.size)=some sz) (h0:0≤i) (h1:i<n):
  (Instr.index t (.agg cs) (.int k i)).run P w= .ok (.agg (cs.extract (i.toNat*sz) (i.toNat*sz+sz))) w:=by
 cases hq:P.info? e with
 | none=>simp [hq] at hi
 | some inf=>
  have hs:inf.size=sz:=by simpa [hq] using hi
  have e1:(isAgg e).run P w= .ok true w:=by
   cases d<;>first | (cases hr;done) | simp [isAgg,Go.underlying,Go.program,Sem.run_bind,Sem.run,hd,Pure.pure]
  have e2:(Go.sizeOf e).run P w= .ok sz w:=by simp [Go.sizeOf,Go.typeInfo,Go.program,Sem.run_bind,Sem.run,hq,hs,Pure.pure]
  simp [Instr.index,run_underlying h,asIntOf,h0,h1,part,e1,e2,Sem.run_bind]
theorem zs6: ∀(l:List (Bool×Int)) (k:Nat) (x:Bool×Int),l[k]?=some x→(zd6 l).toArray.extract (k*2) (k*2+2)=#[.bool x.1,.int .i64 x.2]:=by
 intro l k x hx
 have hk:=(List.getElem?_eq_some_iff.1 hx).1
 apply Array.ext'
 rw [Array.toList_extract]
 simp only [List.extract_eq_take_drop]
 rw [show k*2+2-k*2=2 by omega]
 apply List.ext_getElem?
 intro j
 rw [List.getElem?_take]
 by_cases hj:j<2
 ·rw [if_pos hj,List.getElem?_drop]
  have:=flat_get (cells:=zhx) (sz:=2) (fun _=>rfl) l k j x hx hj
  rw [show k*2+j=k*2+j from rfl] at this
  rw [this]
  match j,hj with
  | 0,_=>rfl
  | 1,_=>rfl
 ·rw [if_neg hj]
  match j,hj with
  | j+2,_=>rfl
theorem Tryz.infoSc:(Tryz.prog.info? 189).map (·.size)=some 2:=by kernel_rfl
def Ens (w:World) (v:Value) (l:List En):Prop:=Reads w v 7 l.length (zbs l)
abbrev enBox (e:En):Obj:= .cells #[.int .i64 e.rq.client,.int .i64 e.rq.time,.int .i64 e.rq.kind,.int .i64 e.rq.key,.int .i64 e.rq.val,.int .i64 e.rq.sl,.int .i64 e.res] 106 (0,0)
theorem zue {w:World} {b o:Nat} {l:List En} (hc: ∀j,j<l.length*7→w.cell? ⟨b,o+j,none⟩=(zbs l)[j]?) (k:Nat) (p:En) (hp:l[k]?=some p):
  w.cell? ⟨b,o+k*7,none⟩=some (.int .i64 p.rq.client)∧w.cell? ⟨b,o+k*7+1,none⟩=some (.int .i64 p.rq.time)∧w.cell? ⟨b,o+k*7+2,none⟩=some (.int .i64 p.rq.kind)∧
  w.cell? ⟨b,o+k*7+3,none⟩=some (.int .i64 p.rq.key)∧w.cell? ⟨b,o+k*7+4,none⟩=some (.int .i64 p.rq.val)∧w.cell? ⟨b,o+k*7+5,none⟩=some (.int .i64 p.rq.sl)∧w.cell? ⟨b,o+k*7+6,none⟩=some (.int .i64 p.res):=by
 have hk:=(List.getElem?_eq_some_iff.1 hp).1
 have hg: ∀r,r<7→w.cell? ⟨b,o+k*7+r,none⟩=(zd5 p)[r]?:=by
  intro r hr
  have:=hc (k*7+r) (by omega)
  rw [flat_get (cells:=zd5) (sz:=7) (fun _=>rfl) l k r p hp hr] at this
  rw [←this,Nat.add_assoc]
 exact ⟨hg 0 (by omega),hg 1 (by omega),hg 2 (by omega),hg 3 (by omega),hg 4 (by omega),hg 5 (by omega),hg 6 (by omega)⟩
theorem zg2 {w:World} {b:Nat} {p:En} (h:w.heap[b]?=some (enBox p)):
  w.cell? ⟨b,0,none⟩=some (.int .i64 p.rq.client)∧w.cell? ⟨b,1,none⟩=some (.int .i64 p.rq.time)∧w.cell? ⟨b,2,none⟩=some (.int .i64 p.rq.kind)∧
  w.cell? ⟨b,3,none⟩=some (.int .i64 p.rq.key)∧w.cell? ⟨b,4,none⟩=some (.int .i64 p.rq.val)∧w.cell? ⟨b,5,none⟩=some (.int .i64 p.rq.sl)∧w.cell? ⟨b,6,none⟩=some (.int .i64 p.res):=
 ⟨by rw [zab h];rfl,by rw [zab h];rfl,by rw [zab h];rfl,by rw [zab h];rfl,by rw [zab h];rfl,by rw [zab h];rfl,by rw [zab h];rfl⟩
theorem zr5 {B:Nat} {w0 W:World} {rs:List Res} (h:Own B w0 W rs) (i j:Nat) {r s:Res} (e1:rs[i]?=some r) (e2:rs[j]?=some s) (hij:i<j) {a b:Nat} (ha:a∈r.M) (hb:b∈s.M):a≠b:=fun e=>by
 subst e
 obtain ⟨hi,rfl⟩:=List.getElem?_eq_some_iff.1 e1
 obtain ⟨hj,rfl⟩:=List.getElem?_eq_some_iff.1 e2
 exact (List.pairwise_iff_getElem.1 h.apart) i j hi hj hij a ha hb
theorem zxc (v:Value) (l:List En) (m:Nat) (xs:List Value) (h1:m=l.length) (h2:xs=zbs l):ownR 106 7 v m xs=enR v l:=by subst h1 h2;rfl
theorem zke (a b:List En):zbs (a++b)=zbs a++zbs b:=by simp [zbs]
theorem ens_1 (e:En):zbs [e]=zd5 e:=by simp [zbs]
theorem cell_allocd' {w:World} {o:Obj} {b i:Nat} {v:Value} (h:w.drew.cell? ⟨b,i,none⟩=some v):(w.alloc o).drew.cell? ⟨b,i,none⟩=some v:=zad (w:=w) h
theorem zdc {w:World} {b c i:Nat} {v y0 y1 y2 y3 y4 y5 y6:Value} (h:b≠c) (k:w.cell? ⟨b,i,none⟩=some v):(((((((w.setCell ⟨c,0,none⟩ y0).setCell ⟨c,1,none⟩ y1).setCell ⟨c,2,none⟩ y2).setCell ⟨c,3,none⟩ y3).setCell ⟨c,4,none⟩ y4).setCell ⟨c,5,none⟩ y5).setCell ⟨c,6,none⟩ y6).cell? ⟨b,i,none⟩=some v:=
 (World.cell?_of_block (by rw [zch h,zch h,zch h,zch h,zch h,zch h,zch h])).trans k
section
variable {B:Nat} {w0 w W W':World} {ss rs:List Res} {A:List Nat}
theorem zxv {v:Value} {E:TypeId} {l:List En} (h:Own B w0 W rs) (k:Nat) (e:rs[k]?=some (ownR E 7 v l.length (zbs l))):Ens W v l:=owns_reads (zak (h.get k e))
theorem zco (v:Int) (w:World):Calls Tryz.prog 306 #[.int .i64 v] w fun e w'=>e= .returned (.bool (decide (-2147483648<v∧v<2147483648)))∧w'=w:=by
 by_cases h1: -2147483648<v
 ·by_cases h2:v<2147483648
  ·rw [decide_eq_true (And.intro h1 h2)]
   go_enter Tryz.func306,Tryz.ntmps306
   go_wp2_with fail
   go_ret
   exact ⟨rfl,rfl⟩
  ·have h3:decide (v<2147483648)=false:=by simp;omega
   rw [decide_eq_false (fun h=>h2 h.2)]
   clear h2
   go_enter Tryz.func306,Tryz.ntmps306
   go_wp2_with fail
   go_ret
   exact ⟨rfl,rfl⟩
 ·have h3:decide (-2147483648<v)=false:=by simp;omega
  rw [decide_eq_false (fun h=>h1 h.1)]
  clear h1
  go_enter Tryz.func306,Tryz.ntmps306
  go_wp2_with fail
  go_ret
  exact ⟨rfl,rfl⟩
abbrev opO (kind key val:Int):Obj:= .cells #[.int .i64 kind,.int .i64 key,.int .i64 val] 23 (0,0)
theorem st_cell {s:Nat} {st:List (Bool×Int)} (h:(stR s st).At w A) (k:Nat) (hk:k<st.length):s<w.heap.size∧w.cell? ⟨s,k*2,none⟩=some (.bool st[k].1)∧w.cell? ⟨s,k*2+1,none⟩=some (.int .i64 st[k].2)∧ ∀o,w.frozen? ⟨s,o,none⟩=false:=by
 obtain ⟨q1,q2,q3⟩:=zcw h
 refine ⟨q1,?_,?_,q3⟩
 ·rw [show k*2=k*2+0 from rfl,q2 _ (by rw [zwe];omega),flat_get (cells:=zhx) (sz:=2) (fun _=>rfl) st k 0 st[k] (by simp) (by omega)];rfl
 ·rw [q2 _ (by rw [zwe];omega),flat_get (cells:=zhx) (sz:=2) (fun _=>rfl) st k 1 st[k] (by simp) (by omega)];rfl
theorem zvu {s:Nat} {st:List (Bool×Int)} (h:Own B w0 W (stR s st::rs)) (k:Nat) (hk:k<st.length) (b:Bool) (v:Int):Own B w0 ((W.setCell ⟨s,k*2,none⟩ (.bool b)).setCell ⟨s,k*2+1,none⟩ (.int .i64 v)) (stR s (st.set k (b,v))::rs):=by
 have h1:=(h.put (k*2+0) (.bool b)).put (k*2+1) (.int .i64 v)
 rw [zft (cells:=zhx) (sz:=2) (fun _=>rfl) st k 0 st[k] (b,st[k].2) _ (by simp) (by omega) rfl] at h1
 rw [zft (cells:=zhx) (sz:=2) (fun _=>rfl) (st.set k (b,st[k].2)) k 1 (b,st[k].2) (b,v) _ (by simp [hk]) (by omega) rfl,List.set_set] at h1
 exact h1
theorem zmd (st:List (Bool×Int)) (k:Nat) (hk:k<st.length):(st.map Prod.snd).getD k 0=st[k].2:=by simp [List.getD,hk]
theorem zwl (l:List Int) (k:Nat) (hk:k<l.length):sumV (l.take (k+1))=sumV (l.take k)+l[k]:=by
 have:l.take (k+1)=l.take k++[l[k]]:=by rw [List.take_add_one,List.getElem?_eq_getElem hk];rfl
 simp only [sumV,this,List.foldl_append,List.foldl_cons,List.foldl_nil]
theorem zx6 {vs:List Int} (h:VsOk vs) (k:Nat): -200000000000<sumV (vs.take k)∧sumV (vs.take k)<200000000000:=by
 have h1:=sum_in (vs.take k) 0 (fun v hv=>h.2 v (List.mem_of_mem_take hv))
 have h2:(vs.take k).length≤64:=by rw [List.length_take,h.1];omega
 unfold sumV
 omega
end
section
variable {client time kind key val sl:Int} {vs:List Int} {k:Nat}
theorem ap_bad (h:key<0∨64≤key∨val≤ -2147483648∨2147483648≤val):zce vs ⟨client,time,kind,key,val,sl⟩=(0,vs):=by unfold zce;rw [if_pos h]
theorem ap_1 (hk:k<64) (h1: -2147483648<val) (h2:val<2147483648):zce vs ⟨client,time,1,k,val,sl⟩=(vs.getD k 0,vs.set k val):=by unfold zce;rw [if_neg (by simp only;omega),if_pos rfl];simp
theorem ap_2 (hk:k<64) (h1: -2147483648<val) (h2:val<2147483648):zce vs ⟨client,time,2,k,val,sl⟩=(vs.getD k 0,vs):=by unfold zce;rw [if_neg (by simp only;omega),if_neg (by simp),if_pos rfl];simp
theorem ap_3a (hk:k<64) (h1: -2147483648<val) (h2:val<2147483648) (h3: ¬(-2147483648<vs.getD k 0+val∧vs.getD k 0+val<2147483648)):zce vs ⟨client,time,3,k,val,sl⟩=(vs.getD k 0,vs):=by
 unfold zce;rw [if_neg (by simp only;omega),if_neg (by simp),if_neg (by simp),if_pos rfl,if_pos (by simp only [Int.toNat_natCast];omega)];simp
theorem ap_3b (hk:k<64) (h1: -2147483648<val) (h2:val<2147483648) (h3: -2147483648<vs.getD k 0+val∧vs.getD k 0+val<2147483648):zce vs ⟨client,time,3,k,val,sl⟩=(vs.getD k 0+val,vs.set k (vs.getD k 0+val)):=by
 unfold zce;rw [if_neg (by simp only;omega),if_neg (by simp),if_neg (by simp),if_pos rfl,if_neg (by simp only [Int.toNat_natCast];omega)];simp
theorem ap_4 (hk:k<64) (h1: -2147483648<val) (h2:val<2147483648):zce vs ⟨client,time,4,k,val,sl⟩=(vs.getD k 0,vs.set k 0):=by
 unfold zce;rw [if_neg (by simp only;omega),if_neg (by simp),if_neg (by simp),if_neg (by simp),if_pos rfl];simp
theorem ap_5 (hk:k<64) (h1: -2147483648<val) (h2:val<2147483648):zce vs ⟨client,time,5,k,val,sl⟩=(sumV vs,vs):=by
 unfold zce;rw [if_neg (by simp only;omega),if_neg (by simp),if_neg (by simp),if_neg (by simp),if_neg (by simp),if_pos rfl]
theorem ap_6 (hk:k<64) (h1: -2147483648<val) (h2:val<2147483648) (n1:kind≠1) (n2:kind≠2) (n3:kind≠3) (n4:kind≠4) (n5:kind≠5):zce vs ⟨client,time,kind,k,val,sl⟩=(0,vs):=by
 unfold zce;rw [if_neg (by simp only;omega),if_neg n1,if_neg n2,if_neg n3,if_neg n4,if_neg n5]
end
section
variable {B:Nat} {w0 w W W':World} {ss rs:List Res} {p s c g cap n:Nat}
abbrev lgR (p s c g cap n:Nat) (lv:Value) (st:List (Bool×Int)) (rp:List (Int×Int)) (es:List En) (rs:List Res):List Res:=stR s st::blk c (chO g rp.length cap)::rpR g rp::blk p (lgO n lv s c)::enR lv es::rs
end
section
variable {B:Nat} {w0 w W W':World} {ss rs:List Res} {c g cap:Nat} {l:List (Int×Int)} {A:List Nat}
theorem zqh (hc:W.heap[c]?=some (chO g l.length cap)) (k:Nat) (hk:k<l.length):
  Calls Tryz.prog 196 #[.pointer (some ⟨c,0,none⟩),.int .i64 k] W fun e w'=>e= .returned (.bool true)∧w'=W:=by
 have x0:W.cell? ⟨c,0,none⟩=some (.slice (some ⟨g,0,none⟩) l.length cap):=by rw [zab hc];rfl
 have hkI:(k:Int)<(l.length:Int):=by omega
 have hk0:(0:Int)≤(k:Int):=by omega
 clear hc
 go_enter Tryz.func196,Tryz.ntmps196
 go_wp2_with fail
 go_ret
 exact ⟨rfl,rfl⟩
theorem zt8 (hc:W.heap[c]?=some (chO g l.length cap)) (hr:(rpR g l).At W A) (hcap:l.length≤cap) (k:Nat) (hk:k<l.length):
  Calls Tryz.prog 112 #[.pointer (some ⟨c,0,none⟩),.int .i64 k] W fun e w'=>e= .returned (.int .i64 l[k].1)∧w'=W:=by
 have x0:W.cell? ⟨c,0,none⟩=some (.slice (some ⟨g,0,none⟩) l.length cap):=by rw [zab hc];rfl
 obtain ⟨q1,q2,-⟩:=zcw hr
 have r0:W.cell? ⟨g,k*2,none⟩=some (.int .i64 l[k].1):=by
  rw [show k*2=k*2+0 from rfl,q2 _ (by rw [zsu];omega),flat_get (cells:=zcd) (sz:=2) (fun _=>rfl) l k 0 l[k] (by simp) (by omega)];rfl
 have hkI:(k:Int)<(l.length:Int):=by omega
 have hk0:(0:Int)≤(k:Int):=by omega
 have hcI:(l.length:Int)≤(cap:Int):=by omega
 have HH:=Lib.hid (zqh hc k hk)
 clear hc hr q2
 generalize l[k].1=t at*
 go_enter Tryz.func112,Tryz.ntmps112
 go_wp2_with fail
 refine HH.out.mono ?_
 rintro e w1 ⟨rfl,rfl⟩
 go_wp2_with fail
 go_ret
 exact ⟨rfl,rfl⟩
theorem zvt (h:Own B w0 W (rpR g l::rs)) (k:Nat) (hk:k<l.length) (t r:Int):Own B w0 ((W.setCell ⟨g,k*2,none⟩ (.int .i64 t)).setCell ⟨g,k*2+1,none⟩ (.int .i64 r)) (rpR g (l.set k (t,r))::rs):=by
 have h1:=(h.put (k*2+0) (.int .i64 t)).put (k*2+1) (.int .i64 r)
 rw [zft (cells:=zcd) (sz:=2) (fun _=>rfl) l k 0 l[k] (t,l[k].2) _ (by simp) (by omega) rfl] at h1
 rw [zft (cells:=zcd) (sz:=2) (fun _=>rfl) (l.set k (t,l[k].2)) k 1 (t,l[k].2) (t,r) _ (by simp [hk]) (by omega) rfl,List.set_set] at h1
 exact h1
theorem zyl (h:Own B w0 W (blk c (chO g l.length cap)::rpR g l::rs)) (hcap:l.length≤cap) (k:Nat) (hk:k<l.length) (t r:Int) (ht:l[k].1<t):
  Calls Tryz.prog 293 #[.pointer (some ⟨c,0,none⟩),.int .i64 k,.int .i64 t,.int .i64 r] W fun e w'=>e= .returned (.bool true)∧Own B w0 w' (blk c (chO g (l.set k (t,r)).length cap)::rpR g (l.set k (t,r))::rs):=by
 have hc:=h.blk_out
 have x0:W.cell? ⟨c,0,none⟩=some (.slice (some ⟨g,0,none⟩) l.length cap):=by rw [zab hc];rfl
 obtain ⟨q1,q2,q3⟩:=zcw h.drop.head
 have r0:W.cell? ⟨g,k*2,none⟩=some (.int .i64 l[k].1):=by
  rw [show k*2=k*2+0 from rfl,q2 _ (by rw [zsu];omega),flat_get (cells:=zcd) (sz:=2) (fun _=>rfl) l k 0 l[k] (by simp) (by omega)];rfl
 have r1:W.cell? ⟨g,k*2+1,none⟩=some (.int .i64 l[k].2):=by
  rw [q2 _ (by rw [zsu];omega),flat_get (cells:=zcd) (sz:=2) (fun _=>rfl) l k 1 l[k] (by simp) (by omega)];rfl
 have z0:=q3 (k*2)
 have z1:=q3 (k*2+1)
 have hkI:(k:Int)<(l.length:Int):=by omega
 have hk0:(0:Int)≤(k:Int):=by omega
 have hcI:(l.length:Int)≤(cap:Int):=by omega
 have htI:decide (t≤l[k].1)=false:=by simp;omega
 have HH:=Lib.hid (zqh hc k hk)
 have HO:=Lib.hid (zvt h.swap k hk t r).swap
 have HN:=Lib.hid (show (l.set k (t,r)).length=l.length by simp)
 clear hc h q2 q3 ht
 generalize l[k].1=t0 at*
 generalize l[k].2=r0' at*
 go_enter Tryz.func293,Tryz.ntmps293
 go_wp2_with fail
 refine HH.out.mono ?_
 rintro e w1 ⟨rfl,rfl⟩
 go_wp2_with fail
 go_ret
 rw [HN.out]
 exact ⟨rfl,HO.out⟩
end
theorem znm: ∀(l:List Int) (a:Int),l.foldl (· + ·) a=a+l.sum
 | [],a=>by simp
 | x::l,a=>by rw [List.foldl_cons,znm l,List.sum_cons];omega
theorem sumV_sum (l:List Int):sumV l=l.sum:=by
 unfold sumV
 rw [znm];omega
section
variable {client time kind key val sl:Int} {st:List (Bool×Int)} {k:Nat}
theorem ax_bad (h:key<0∨64≤key∨val≤ -2147483648∨2147483648≤val):za0 st ⟨client,time,kind,key,val,sl⟩=(0,st):=by unfold za0;rw [if_pos h]
theorem zld (hs:k<st.length):(st.getD k (false,0)).2=st[k].2:=by simp [List.getD,hs]
theorem ax_1 (hk:k<64) (hs:k<st.length) (h1: -2147483648<val) (h2:val<2147483648):za0 st ⟨client,time,1,k,val,sl⟩=(st[k].2,st.set k (true,val)):=by unfold za0;rw [if_neg (by simp only;omega)];simp only [Int.toNat_natCast,zld hs];rw [if_pos trivial]
theorem ax_2 (hk:k<64) (hs:k<st.length) (h1: -2147483648<val) (h2:val<2147483648):za0 st ⟨client,time,2,k,val,sl⟩=(st[k].2,st):=by unfold za0;rw [if_neg (by simp only;omega)];simp only [Int.toNat_natCast,zld hs];rw [if_neg (by decide),if_pos trivial]
theorem ax_3a (hk:k<64) (hs:k<st.length) (h1: -2147483648<val) (h2:val<2147483648) (h3: ¬(-2147483648<st[k].2+val∧st[k].2+val<2147483648)):za0 st ⟨client,time,3,k,val,sl⟩=(st[k].2,st):=by unfold za0;rw [if_neg (by simp only;omega)];simp only [Int.toNat_natCast,zld hs];rw [if_neg (by decide),if_neg (by decide),if_pos trivial,if_pos h3]
theorem ax_3b (hk:k<64) (hs:k<st.length) (h1: -2147483648<val) (h2:val<2147483648) (h3: -2147483648<st[k].2+val∧st[k].2+val<2147483648):za0 st ⟨client,time,3,k,val,sl⟩=(st[k].2+val,st.set k (true,st[k].2+val)):=by unfold za0;rw [if_neg (by simp only;omega)];simp only [Int.toNat_natCast,zld hs];rw [if_neg (by decide),if_neg (by decide),if_pos trivial,if_neg (fun h=>h h3)]
theorem ax_4 (hk:k<64) (hs:k<st.length) (h1: -2147483648<val) (h2:val<2147483648):za0 st ⟨client,time,4,k,val,sl⟩=(st[k].2,st.set k (false,0)):=by unfold za0;rw [if_neg (by simp only;omega)];simp only [Int.toNat_natCast,zld hs];rw [if_neg (by decide),if_neg (by decide),if_neg (by decide),if_pos trivial]
theorem ax_5 (hk:k<64) (h1: -2147483648<val) (h2:val<2147483648):za0 st ⟨client,time,5,k,val,sl⟩=(sumV (st.map Prod.snd),st):=by unfold za0;rw [if_neg (by simp only;omega)];simp only;rw [if_neg (by decide),if_neg (by decide),if_neg (by decide),if_neg (by decide),if_pos trivial,sumV_sum]
theorem ax_6 (hk:k<64) (h1: -2147483648<val) (h2:val<2147483648) (n1:kind≠1) (n2:kind≠2) (n3:kind≠3) (n4:kind≠4) (n5:kind≠5):za0 st ⟨client,time,kind,k,val,sl⟩=(0,st):=by unfold za0;rw [if_neg (by simp only;omega)];simp only;rw [if_neg n1,if_neg n2,if_neg n3,if_neg n4,if_neg n5]
end
theorem ziz {st:List (Bool×Int)} (hl:st.length=64) (r:Rq):(za0 st r).1=(zce (st.map Prod.snd) r).1∧(za0 st r).2.map Prod.snd=(zce (st.map Prod.snd) r).2∧(za0 st r).2.length=64:=by
 obtain ⟨client,time,kind,key,val,sl⟩:=r
 by_cases hb:key<0∨64≤key∨val≤ -2147483648∨2147483648≤val
 ·rw [ax_bad hb,ap_bad hb];exact ⟨rfl,rfl,hl⟩
 obtain ⟨k,rfl⟩: ∃k:Nat,key=k:=⟨key.toNat,by omega⟩
 have hk:k<64:=by omega
 have hs:k<st.length:=by omega
 have v1: -2147483648<val:=by omega
 have v2:val<2147483648:=by omega
 have hx:=zmd st k hs
 by_cases e1:kind=1
 ·subst e1;rw [ax_1 hk hs v1 v2,ap_1 hk v1 v2,hx];exact ⟨rfl,by rw [List.map_set],by simpa using hl⟩
 by_cases e2:kind=2
 ·subst e2;rw [ax_2 hk hs v1 v2,ap_2 hk v1 v2,hx];exact ⟨rfl,rfl,hl⟩
 by_cases e3:kind=3
 ·subst e3
  by_cases h3: -2147483648<st[k].2+val∧st[k].2+val<2147483648
  ·rw [ax_3b hk hs v1 v2 h3,ap_3b hk v1 v2 (by rw [hx];exact h3),hx];exact ⟨rfl,by rw [List.map_set],by simpa using hl⟩
  ·rw [ax_3a hk hs v1 v2 h3,ap_3a hk v1 v2 (by rw [hx];exact h3),hx];exact ⟨rfl,rfl,hl⟩
 by_cases e4:kind=4
 ·subst e4;rw [ax_4 hk hs v1 v2,ap_4 hk v1 v2,hx];exact ⟨rfl,by rw [List.map_set],by simpa using hl⟩
 by_cases e5:kind=5
 ·subst e5;rw [ax_5 hk v1 v2,ap_5 hk v1 v2];exact ⟨rfl,rfl,hl⟩
 rw [ax_6 hk v1 v2 e1 e2 e3 e4 e5,ap_6 hk v1 v2 e1 e2 e3 e4 e5];exact ⟨rfl,rfl,hl⟩
theorem znb {st:List (Bool×Int)} (hl:st.length=64) (hv:VsOk (st.map Prod.snd)) (r:Rq):VsOk ((za0 st r).2.map Prod.snd):=by
 rw [(ziz hl r).2.1]
 exact (zt0 hv r).1
section
variable {B:Nat} {w0 w W W':World} {ss rs:List Res} {A:List Nat}
def ApX (B:Nat) (w0:World) (rs:List Res) (s:Nat) (st:List (Bool×Int)) (r:Rq) (e:Ending) (w':World):Prop:=
 e= .returned (.int .i64 (za0 st r).1)∧Own B w0 w' (stR s (za0 st r).2::rs)
theorem zts {s:Nat} {st:List (Bool×Int)} (h:Own B w0 W (stR s st::rs)) (hl:st.length=64) {client time kind key val sl:Int} (hb:key<0∨64≤key∨val≤ -2147483648∨2147483648≤val):
  Calls Tryz.prog 292 #[.pointer (some ⟨s,0,none⟩),.agg #[.int .i64 kind,.int .i64 key,.int .i64 val]] W (ApX B w0 rs s st ⟨client,time,kind,key,val,sl⟩):=by
 have HE: ∀w',Own B w0 w' (stR s st::rs)→Hid (ApX B w0 rs s st ⟨client,time,kind,key,val,sl⟩ (.returned (.int .i64 0)) w'):=fun w' h'=>Lib.hid (by rw [ApX,ax_bad hb];exact ⟨rfl,h'⟩)
 have HE:=HE _ (h.alloc (opO kind key val))
 clear h hl
 by_cases k1:key<0
 ·clear hb
  go_enter Tryz.func292,Tryz.ntmps292
  go_wp2_with fail
  go_ret
  exact HE.out
 ·have k1':decide (key<0)=false:=by simp;omega
  by_cases k2:64≤key
  ·clear hb k1
   go_enter Tryz.func292,Tryz.ntmps292
   go_wp2_with fail
   go_ret
   exact HE.out
  ·have k2':decide (64≤key)=false:=by simp;omega
   have k3:Hid (decide (-2147483648<val∧val<2147483648)=false):=Lib.hid (by simp;omega)
   clear hb k1 k2
   go_enter Tryz.func292,Tryz.ntmps292
   go_wp2_with fail
   refine (zco _ _).mono ?_
   rintro e w1 ⟨rfl,rfl⟩
   rw [k3.out]
   go_wp2_with fail
   go_ret
   exact HE.out
theorem xapply {s:Nat} {st:List (Bool×Int)} (h:Own B w0 W (stR s st::rs)) (hl:st.length=64) (hv:VsOk (st.map Prod.snd)) (r:Rq):
  Calls Tryz.prog 292 #[.pointer (some ⟨s,0,none⟩),.agg #[.int .i64 r.kind,.int .i64 r.key,.int .i64 r.val]] W (ApX B w0 rs s st r):=by
 obtain ⟨client,time,kind,key,val,sl⟩:=r
 by_cases hb:key<0∨64≤key∨val≤ -2147483648∨2147483648≤val
 ·exact zts h hl hb
 obtain ⟨k,rfl⟩: ∃k:Nat,key=k:=⟨key.toNat,by omega⟩
 have hk:k<64:=by omega
 have v1: -2147483648<val:=by omega
 have v2:val<2147483648:=by omega
 have hks:k<st.length:=by omega
 have hx:=zmd st k hks
 have hw1:=hv.at k
 rw [hx] at hw1
 have k1:decide ((k:Int)<0)=false:=by simp
 have k2:decide (64≤(k:Int))=false:=by simp;omega
 have k0:(0:Int)≤(k:Int):=by omega
 have k64:(k:Int)<64:=by omega
 have k3:Hid (decide (-2147483648<val∧val<2147483648)=true):=Lib.hid (by simp;omega)
 have h1:=h.alloc (opO kind k val)
 obtain ⟨hs,x0,x1,fz⟩:=st_cell h1.head k hks
 have z0:=fz (k*2)
 have z1:=fz (k*2+1)
 have H1:=Lib.hid h1
 have HP:=Lib.hid (fun (N:Nat) b v=>zvu (h1.upd0 ((Upd.refl _ _).drewN N)) k hks b v)
 have HD:=Lib.hid (fun N:Nat=>h1.upd0 ((Upd.refl _ _).drewN N))
 have HL:=Lib.hid hl
 have HV:=Lib.hid hv
 clear fz hb h hv
 generalize hst:st[k].2=was at*
 generalize st[k].1=has at*
 have hadd:IntKind.i64.wrap (was+val)=was+val:=IntWalk.i64_in _ (by omega)
 have HX:=Lib.hid hx
 by_cases e1:kind=1
 ·subst e1
  have HE:=fun w' h'=>(by rw [ApX,ax_1 hk hks v1 v2,hst];exact ⟨rfl,h'⟩:ApX B w0 rs s st ⟨client,time,1,k,val,sl⟩ (.returned (.int .i64 was)) w')
  have HE:=Lib.hid (fun N=>HE _ (HP.out N true val))
  clear hx hst hl hks h1 hk
  go_enter Tryz.func292,Tryz.ntmps292
  go_wp2_with fail
  refine (zco _ _).mono ?_
  rintro e w1 ⟨rfl,rfl⟩
  rw [k3.out]
  go_wp2_with fail
  go_quiet (fail)
  go_wp2_with fail
  go_ret
  exact HE.out _
 by_cases e2:kind=2
 ·subst e2
  have HE:=fun w' h'=>(by rw [ApX,ax_2 hk hks v1 v2,hst];exact ⟨rfl,h'⟩:ApX B w0 rs s st ⟨client,time,2,k,val,sl⟩ (.returned (.int .i64 was)) w')
  have HE:=Lib.hid (fun N=>HE _ (HD.out N))
  clear e1
  clear hx hst hl hks h1 hk
  go_enter Tryz.func292,Tryz.ntmps292
  go_wp2_with fail
  refine (zco _ _).mono ?_
  rintro e w1 ⟨rfl,rfl⟩
  rw [k3.out]
  go_wp2_with fail
  go_quiet (fail)
  go_wp2_with fail
  go_ret
  exact HE.out _
 by_cases e3:kind=3
 ·subst e3
  by_cases hs3: -2147483648<was+val∧was+val<2147483648
  ·have HE:=fun w' h'=>(by rw [ApX,ax_3b hk hks v1 v2 (by rw [hst];exact hs3),hst];exact ⟨rfl,h'⟩:ApX B w0 rs s st ⟨client,time,3,k,val,sl⟩ (.returned (.int .i64 (was+val))) w')
   have HE:=Lib.hid (fun N=>HE _ (HP.out N true (was+val)))
   have K4:Hid (decide (-2147483648<was+val∧was+val<2147483648)=true):=Lib.hid (by simp;omega)
   clear e1 e2 hs3
   clear hx hst hl hks h1 hk
   go_enter Tryz.func292,Tryz.ntmps292
   go_wp2_with fail
   refine (zco _ _).mono ?_
   rintro e w1 ⟨rfl,rfl⟩
   rw [k3.out]
   go_wp2_with fail
   go_quiet (fail)
   go_wp2_with fail
   refine (zco _ _).mono ?_
   rintro e w1 ⟨rfl,rfl⟩
   rw [K4.out]
   go_wp2_with fail
   go_ret
   exact HE.out _
  ·have HE:=fun w' h'=>(by rw [ApX,ax_3a hk hks v1 v2 (by rw [hst];exact hs3),hst];exact ⟨rfl,h'⟩:ApX B w0 rs s st ⟨client,time,3,k,val,sl⟩ (.returned (.int .i64 was)) w')
   have HE:=Lib.hid (fun N=>HE _ (HD.out N))
   have K4:Hid (decide (-2147483648<was+val∧was+val<2147483648)=false):=Lib.hid (decide_eq_false hs3)
   clear e1 e2 hs3
   clear hx hst hl hks h1 hk
   go_enter Tryz.func292,Tryz.ntmps292
   go_wp2_with fail
   refine (zco _ _).mono ?_
   rintro e w1 ⟨rfl,rfl⟩
   rw [k3.out]
   go_wp2_with fail
   go_quiet (fail)
   go_wp2_with fail
   refine (zco _ _).mono ?_
   rintro e w1 ⟨rfl,rfl⟩
   rw [K4.out]
   go_wp2_with fail
   go_ret
   exact HE.out _
 by_cases e4:kind=4
 ·subst e4
  have HE:=fun w' h'=>(by rw [ApX,ax_4 hk hks v1 v2,hst];exact ⟨rfl,h'⟩:ApX B w0 rs s st ⟨client,time,4,k,val,sl⟩ (.returned (.int .i64 was)) w')
  have HE:=Lib.hid (fun N=>HE _ (HP.out N false 0))
  clear e1 e2 e3
  clear hx hst hl hks h1 hk
  go_enter Tryz.func292,Tryz.ntmps292
  go_wp2_with fail
  refine (zco _ _).mono ?_
  rintro e w1 ⟨rfl,rfl⟩
  rw [k3.out]
  go_wp2_with fail
  go_quiet (fail)
  go_wp2_with fail
  go_ret
  exact HE.out _
 by_cases e5:kind=5
 ·subst e5
  clear e1 e2 e3 e4
  have hn:(zd6 st).length=128:=by rw [zwe,hl]
  have HI:Hid ((Tryz.prog.info? 190).map (·.size)=some (zd6 st).length):=Lib.hid (by rw [hn];kernel_rfl)
  have HIX:Hid (∀(k:Nat) (x:Bool×Int),st[k]?=some x→ ∀w:World,(Instr.index 190 (.agg (zd6 st).toArray) (.int .i64 k)).run Tryz.prog w= .ok (.agg #[.bool x.1,.int .i64 x.2]) w):=Lib.hid (fun k x hk w=>by
   have hk64:k<64:=by have:=(List.getElem?_eq_some_iff.1 hk).1;omega
   rw [zk7 w 190 189 64 (zd6 st).toArray .i64 (k:Int) 2 _ Tryz.underlying190 Tryz.underlying189 rfl Tryz.infoSc (by omega) (by omega)]
   rw [show ((k:Int).toNat)=k by omega,zs6 st k x hk])
  have HX2:Hid (∀N:Nat,((W.alloc (opO 5 k val)).drewN N).rangeAt s 0 (zd6 st)):=Lib.hid (fun N=>zn9 (HD.out N).head)
  have HEND:=Lib.hid (fun w' (h':Own B w0 w' (stR s st::rs))=>(by rw [ApX,ax_5 hk v1 v2];exact ⟨rfl,h'⟩:ApX B w0 rs s st ⟨client,time,5,k,val,sl⟩ (.returned (.int .i64 (sumV (st.map Prod.snd)))) w'))
  clear hn HP HX hadd
  generalize hcs:zd6 st=cs at*
  clear hx hst hl hks h1 hk
  go_enter Tryz.func292,Tryz.ntmps292
  go_wp2_with fail
  refine (zco _ _).mono ?_
  rintro e w1 ⟨rfl,rfl⟩
  rw [k3.out]
  go_wp2_with fail
  go_quiet (fail)
  go_wp2_with (refine wpList_load_mid rfl 190 (.tmp 77) rfl s 0 rfl cs _ (HX2.out _) Tryz.underlying190 rfl HI.out ?_)
  clear x0 x1 z0 z1
  go_loopw [7,79] (fun a j wr=> ∃m:Nat,m≤64∧j= .int .i64 m∧a= .int .i64 (sumV ((st.map Prod.snd).take m))∧Hid (Own B w0 wr (stR s st::rs))) (fun _ j _=>64-(intOf j).toNat)
  case atStart=>exact ⟨0,by omega,rfl,rfl,Lib.hid (HD.out _)⟩
  case round=>
   obtain ⟨m,hm,rfl,rfl,H2⟩:=hrel
   by_cases hlt:m<64
   ·have hmI:(m:Int)<64:=by omega
    have hm0:(0:Int)≤(m:Int):=by omega
    have hml:m<st.length:=by rw [HL.out];exact hlt
    have hix:=HIX.out m st[m] (List.getElem?_eq_getElem hml)
    have hv:=zx6 HV.out m
    have hw:=HV.out.at m
    have hsum:sumV ((st.map Prod.snd).take (m+1))=sumV ((st.map Prod.snd).take m)+st[m].2:=by rw [zwl _ _ (by simpa using hml)];simp
    have hw2:=zmd st m hml
    rw [hw2] at hw
    have HS:=Lib.hid hsum
    have hadd:IntKind.i64.wrap (sumV ((st.map Prod.snd).take m)+st[m].2)=sumV ((st.map Prod.snd).take m)+st[m].2:=IntWalk.i64_in _ (by omega)
    clear hv hw hsum hw2
    generalize sumV ((st.map Prod.snd).take m)=sm at*
    generalize st[m].2=sv at*
    generalize st[m].1=sb at*
    have H3:=Lib.hid (H2.out.alloc (.cells #[.bool sb,.int .i64 sv] 189))
    clear hml H2
    go_wp2_with fail
    go_roundw
    case rel=>exact ⟨m+1,by omega,by go_num,by rw [HS.out],H3⟩
    case measure=>simp [intOf];omega
   ·have hm64:m=64:=by omega
    subst hm64
    have hall:(st.map Prod.snd).take 64=st.map Prod.snd:=by rw [List.take_of_length_le (by rw [List.length_map,HL.out];omega)]
    rw [hall]
    go_wp2_with fail
    go_ret
    exact HEND.out _ H2.out
 have b1:(kind==1)=false:=by simpa using e1
 have b2:(kind==2)=false:=by simpa using e2
 have b3:(kind==3)=false:=by simpa using e3
 have b4:(kind==4)=false:=by simpa using e4
 have b5:(kind==5)=false:=by simpa using e5
 have HE:=fun w' h'=>((by rw [ApX,ax_6 hk v1 v2 e1 e2 e3 e4 e5];exact ⟨rfl,h'⟩):ApX B w0 rs s st ⟨client,time,kind,k,val,sl⟩ (.returned (.int .i64 0)) w')
 have HE:=Lib.hid (fun N=>HE _ (HD.out N))
 clear e1 e2 e3 e4 e5
 clear hx hst hl hks h1 hk
 go_enter Tryz.func292,Tryz.ntmps292
 go_wp2_with fail
 refine (zco _ _).mono ?_
 rintro e w1 ⟨rfl,rfl⟩
 rw [k3.out]
 go_wp2_with fail
 go_quiet (fail)
 go_wp2_with fail
 go_ret
 exact HE.out _
end
structure LxS (n:Nat) (st:List (Bool×Int)) (rp:List (Int×Int)):Prop where
 rl:rp.length=n
 sl:st.length=64
 ok:VsOk (st.map Prod.snd)
theorem LxS.step {n:Nat} {st:List (Bool×Int)} {rp:List (Int×Int)} (h:LxS n st rp) (r:Rq) (q:Nat) (v:Int×Int):LxS n (za0 st r).2 (rp.set q v):=
 ⟨by simpa using h.rl,(ziz h.sl r).2.2,znb h.sl h.ok r⟩
theorem zwj (rs:List Rq) (b:Lp) (l:List En):rs.foldl (fun q r=>((stepL q.1 r).1,q.2++(stepL q.1 r).2)) (b,l)=((zbw b rs).1,l++(zbw b rs).2):=by
 induction rs generalizing b l with
 | nil=>simp [zbw]
 | cons r rs ih=>
  unfold zbw
  rw [List.foldl_cons,List.foldl_cons,ih,ih]
  simp
theorem zf3 (b:Lp) (r:Rq) (rs:List Rq):zbw b (r::rs)=((zbw (stepL b r).1 rs).1,(stepL b r).2++(zbw (stepL b r).1 rs).2):=by
 conv=>lhs;unfold zbw
 rw [List.foldl_cons,zwj];simp
theorem zpw (b:Lp) (rs:List Rq) (r:Rq):zbw b (rs++[r])=((stepL (zbw b rs).1 r).1,(zbw b rs).2++(stepL (zbw b rs).1 r).2):=by
 unfold zbw
 rw [List.foldl_append];rfl
theorem zpv {b:Lp} {rs:List Rq} {k:Nat} (hk:k<rs.length) {b':Lp} {new:List En} (h:zbw b (rs.take k)=(b',new)):zbw b (rs.take (k+1))=((stepL b' rs[k]).1,new++(stepL b' rs[k]).2):=by
 have e:rs.take (k+1)=rs.take k++[rs[k]]:=by rw [List.take_add_one,List.getElem?_eq_getElem hk];rfl
 rw [e,zpw,h]
theorem zs8 {n:Nat} {es:List En} {st:List (Bool×Int)} {rp:List (Int×Int)} {r:Rq} (hl:rp.length=n) (h:r.client<0∨(n:Int)≤r.client∨(∃q:Nat,∃hq:q<rp.length,r.client=q∧r.time≤rp[q].1)):stepL ⟨n,es,st,rp⟩ r=(⟨n,es,st,rp⟩,[]):=by
 unfold stepL
 rw [if_pos]
 rcases h with h | h | ⟨q,hq,h,h2⟩
 ·exact .inl h
 ·exact .inr (.inl h)
 ·refine .inr (.inr ?_)
  unfold lastL
  simp only
  rw [if_pos (by omega),h,Int.toNat_natCast]
  simpa [List.getD,hq] using h2
theorem zog {n:Nat} {es:List En} {st:List (Bool×Int)} {rp:List (Int×Int)} {r:Rq} {q:Nat} (hl:rp.length=n) (hq:q<rp.length) (h:r.client=q) (h2:rp[q].1<r.time):stepL ⟨n,es,st,rp⟩ r=(⟨n,es,(za0 st r).2,rp.set q (r.time,(za0 st r).1)⟩,[⟨r,(za0 st r).1⟩]):=by
 unfold stepL
 rw [if_neg]
 ·simp only [h,Int.toNat_natCast]
 ·simp only
  unfold lastL
  simp only
  rw [if_pos (by omega),h,Int.toNat_natCast]
  simp [List.getD,hq]
  omega
theorem zwh (b:Lp) (r:Rq):(stepL b r).2.length≤1:=by unfold stepL;split<;>simp
theorem zeo (b:Lp) (rs:List Rq):(zbw b rs).2.length≤rs.length:=by
 induction rs generalizing b with
 | nil=>simp [zbw]
 | cons r rs ih=>
  rw [zf3,List.length_append,List.length_cons]
  have:=zwh b r
  have:=ih (stepL b r).1
  omega
section
variable {B:Nat} {w0 w W W':World} {ss rs:List Res} {p s c g cap n:Nat}
def ztx (B:Nat) (w0:World) (ss:List Res) (p s c g cap n:Nat) (sv:Lp) (lv:Value) (es:List En) (v:Value) (rs:List Rq) (k:Nat) (vo:Value) (w:World):Prop:=
 ∃st rp new,zbw sv (rs.take k)=(⟨n,es,st,rp⟩,new)∧LxS n st rp∧Own B w0 w (enR vo new::lgR p s c g cap n lv st rp es (batR v rs::ss))
def XRunOk (B:Nat) (w0:World) (ss:List Res) (p s c g cap n:Nat) (sv:Lp) (es:List En) (v:Value) (rs:List Rq) (e:Ending) (w:World):Prop:=
 ∃vo lv st rp,e= .returned vo∧runL sv rs=(⟨n,es++(zbw sv rs).2,st,rp⟩,(zbw sv rs).2)∧LxS n st rp∧Own B w0 w (lgR p s c g cap n lv st rp (es++(zbw sv rs).2) (enR vo (zbw sv rs).2::batR v rs::ss))
theorem xrun_any {lv:Value} {st:List (Bool×Int)} {rp:List (Int×Int)} {es:List En} {v:Value} {bs:List Rq} (h:Own B w0 W (lgR p s c g cap n lv st rp es (batR v bs::ss))) (hc:LxS n st rp) (hcap:n≤cap) (hb:bs.length≤1000) (he:es.length≤90000):
  Calls Tryz.prog 271 #[.pointer (some ⟨p,0,none⟩),v] W (XRunOk B w0 ss p s c g cap n ⟨n,es,st,rp⟩ es v bs):=by
 generalize hsv:(⟨n,es,st,rp⟩:Lp)=sv
 have HSE:Hid (sv.es=es):=Lib.hid (by rw [←hsv])
 obtain ⟨i0,hi,hz0,hz1,hz2⟩:=info_parts Tryz.infoEn
 obtain ⟨ao,bcap,rfl⟩:=zcf (zfr (h.get 5 rfl))
 obtain ⟨al,cl,rfl⟩:=zd3 (zak (h.get 4 rfl))
 have H0:Hid (ztx B w0 ss p s c g cap n sv (.slice al es.length cl) es (.slice ao bs.length bcap) bs 0 (.slice none 0 0) W):=Lib.hid ⟨st,rp,[],by rw [←hsv];rfl,hc,h.row0⟩
 have HNF:Hid (∀k,(zbw sv (bs.take k)).2.length≤1000):=Lib.hid (fun k=>by
  have h1:=zeo sv (bs.take k)
  have h3:(bs.take k).length≤bs.length:=by simp;omega
  omega)
 have HBC:Hid (bs.length≤bcap):=Lib.hid (by
  obtain ⟨ao',cap',hv',h1,-⟩:=zfr (h.get 5 rfl)
  simp only [Value.slice.injEq] at hv'
  omega)
 have hbc:(bs.length:Int)≤(bcap:Int):=by have:=HBC.out;omega
 clear h hc hsv
 go_enter Tryz.func271,Tryz.ntmps271
 go_wp2_with fail
 go_loopw [5,11] (fun a j wr=> ∃(k:Nat) (vo:Value),k≤bs.length∧j= .int .i64 k∧vo=a∧Hid (ztx B w0 ss p s c g cap n sv (.slice al es.length cl) es (.slice ao bs.length bcap) bs k vo wr)) (fun _ j _=>bs.length-(intOf j).toNat)
 case atStart=>exact ⟨0,_,by omega,rfl,rfl,H0⟩
 case round=>
  clear H0
  obtain ⟨k,vo,hk,rfl,rfl,HM⟩:=hrel
  by_cases hlt:k<bs.length
  ·have hkI:(k:Int)<(bs.length:Int):=by omega
   have hk0:(0:Int)≤(k:Int):=by omega
   obtain ⟨st,rp,new,hrun,hc,ho⟩:=HM.out
   have hl1:=HNF.out k
   have HN:=Lib.hid (zpv hlt hrun)
   rw [hrun] at hl1
   simp only at hl1
   clear hrun HM HNF
   obtain ⟨ao',cap',hv',-,-,-,-,h5⟩:=zfr (ho.get 6 rfl)
   simp only [Value.slice.injEq] at hv'
   obtain ⟨rfl,-,rfl⟩:=hv'
   obtain ⟨b,o,rfl,hbs,hcs⟩:=h5 (by omega)
   obtain ⟨q0,q1,q2,q3,q4,q5⟩:=zc9 hcs k bs[k] (by simp)
   clear hcs h5 hbs
   generalize bs[k]=r at*
   obtain ⟨client,time,kind,key,val,sl⟩:=r
   simp only at q0 q1 q2 q3 q4 q5
   have h1:=ho.box (rqBox ⟨client,time,kind,key,val,sl⟩)
   have hpb:=h1.blkAt 5 rfl
   have x0:(wr.alloc (rqBox ⟨client,time,kind,key,val,sl⟩)).cell? ⟨p,0,none⟩=some (.int .i64 n):=by rw [zab hpb];rfl
   have x3:(wr.alloc (rqBox ⟨client,time,kind,key,val,sl⟩)).cell? ⟨p,3,none⟩=some (.pointer (some ⟨c,0,none⟩)):=by rw [zab hpb];rfl
   have HNO:=Lib.hid (fun hno:client<0∨(n:Int)≤client∨(∃q:Nat,∃hq:q<rp.length,client=q∧time≤rp[q].1)=>fun N:Nat=>(⟨st,rp,new,by rw [HN.out,zs8 hc.rl hno];simp,hc,h1.drop.upd0 ((Upd.refl _ _).drewN N)⟩:ztx B w0 ss p s c g cap n sv (.slice al es.length cl) es (.slice (some ⟨b,o,none⟩) bs.length bcap) bs (k+1) vo ((wr.alloc (rqBox ⟨client,time,kind,key,val,sl⟩)).drewN N)))
   have HB:=Lib.hid h1
   have HC:=Lib.hid hc
   clear hc ho h1 hpb
   by_cases c1:client<0
   ·have HE:=Lib.hid (HNO.out (.inl c1))
    clear HNO
    go_wp2_with fail
    go_quiet (fail)
    go_wp2_with fail
    go_roundw
    case rel=>exact ⟨k+1,vo,by omega,by go_num,rfl,Lib.hid (HE.out _)⟩
    case measure=>simp [intOf];omega
   by_cases c2:(n:Int)≤client
   ·have HE:=Lib.hid (HNO.out (.inr (.inl c2)))
    have c1':decide (client<0)=false:=by simp;omega
    clear HNO c1
    go_wp2_with fail
    go_quiet (fail)
    go_wp2_with fail
    go_roundw
    case rel=>exact ⟨k+1,vo,by omega,by go_num,rfl,Lib.hid (HE.out _)⟩
    case measure=>simp [intOf];omega
   obtain ⟨q,rfl⟩: ∃q:Nat,client=q:=⟨client.toNat,by omega⟩
   have c1':decide ((q:Int)<0)=false:=by simp
   have c2':decide (n≤q)=false:=by simp;omega
   have hqr:q<rp.length:=by rw [HC.out.rl];omega
   have hrc:rp.length≤cap:=by rw [HC.out.rl];exact hcap
   have HLQ:=Lib.hid (fun N:Nat=>Calls.mono (zt8 (W:=(wr.alloc (rqBox ⟨q,time,kind,key,val,sl⟩)).drewN N) ((HB.out.upd0 ((Upd.refl _ _).drewN N)).blkAt 3 rfl) ((HB.out.upd0 ((Upd.refl _ _).drewN N)).get 4 rfl) hrc q hqr) (fun _ _ h=>And.intro h.1 h.2.symm))
   obtain ⟨tq,htq⟩: ∃t,t=rp[q].1:=⟨_,rfl⟩
   rw [←htq] at HLQ
   have HTQ:=Lib.hid htq
   clear htq
   by_cases c3:time≤tq
   ·have HE:=Lib.hid (HNO.out (.inr (.inr ⟨q,hqr,rfl,by rw [←HTQ.out];exact c3⟩)))
    clear HNO c1 c2
    go_wp2_with fail
    go_quiet ((go_at_call 112;exact zbi (HLQ.out _)))
    go_wp2_with fail
    go_roundw
    case rel=>exact ⟨k+1,vo,by omega,by go_num,rfl,Lib.hid (HE.out _)⟩
    case measure=>simp [intOf];omega
   have c3':decide (time≤tq)=false:=by simp;omega
   have HY:=Lib.hid (zog (es:=es) (st:=st) (r:=⟨q,time,kind,key,val,sl⟩) HC.out.rl hqr rfl (by rw [←HTQ.out];simp only;omega))
   have HTM:Hid (rp[q].1<time):=Lib.hid (by rw [←HTQ.out];omega)
   clear HNO c1 c2 c3
   go_upto_region 5 with fail
   generalize wr.heap.size=e0 at*
   generalize wr.alloc _=w2 at*
   clear q0 q1 q2 q3 q4 q5
   obtain ⟨p0,p1,p2,p3,p4,p5⟩:=zf1 HB.out.blk_out
   go_quiet ((go_at_call 112;exact zbi (HLQ.out _)))
   go_upto_region 6 with fail
   have H3:=Lib.hid (HB.out.upd0 ((Upd.refl _ _).drewN nq))
   clear p0 p1 p2 p3 p4 p5 x0 x3 c3' HB HLQ
   generalize w2.drewN nq=w3 at*
   go_cut [8] (fun p8 wx=> ∃(e1:Nat) (st':List (Bool×Int)),p8= .pointer (some ⟨e1,0,none⟩)∧Hid (st'=(za0 st ⟨q,time,kind,key,val,sl⟩).2)∧Hid (Own B w0 wx (blk e1 (enBox ⟨⟨q,time,kind,key,val,sl⟩,(za0 st ⟨q,time,kind,key,val,sl⟩).1⟩)::blk e0 (rqBox ⟨q,time,kind,key,val,sl⟩)::enR vo new::lgR p s c g cap n (.slice al es.length cl) st' rp es (batR (.slice (some ⟨b,o,none⟩) bs.length bcap) bs::ss))))
   case first=>
    obtain ⟨b0,b1,b2,b3,b4,b5⟩:=zf1 H3.out.drew.blk_out
    have b6:w3.drew.cell? ⟨p,2,none⟩=some (.pointer (some ⟨s,0,none⟩)):=by rw [zab (H3.out.drew.blkAt 5 rfl)];rfl
    have ha4:=xapply H3.out.drew.rot HC.out.sl HC.out.ok ⟨q,time,kind,key,val,sl⟩
    dsimp only at ha4
    have HA4:=Lib.hid ha4
    have haw:=xapply ((H3.out.box (.cells #[.int .i64 0,.int .i64 0,.int .i64 0,.int .i64 0,.int .i64 0,.int .i64 0,.int .i64 0] 106 (0,0))).drew).perm3' HC.out.sl HC.out.ok ⟨q,time,kind,key,val,sl⟩
    dsimp only at haw
    have HAW:=Lib.hid haw
    clear ha4 haw
    go_region_held3 (fun w'=>w'.cell? ⟨e0,0,none⟩=some (.int .i64 q)∧w'.cell? ⟨e0,1,none⟩=some (.int .i64 time)∧w'.cell? ⟨e0,2,none⟩=some (.int .i64 kind)∧w'.cell? ⟨e0,3,none⟩=some (.int .i64 key)∧w'.cell? ⟨e0,4,none⟩=some (.int .i64 val)∧w'.cell? ⟨e0,5,none⟩=some (.int .i64 sl)∧w'.cell? ⟨p,2,none⟩=some (.pointer (some ⟨s,0,none⟩)))
     (first | (with_reducible exact ⟨d0,d1,d2,d3,d4,d5,d6⟩) | (with_reducible exact ⟨b0,b1,b2,b3,b4,b5,b6⟩) | (with_reducible exact ⟨zad d0,zad d1,zad d2,zad d3,zad d4,zad d5,zad d6⟩) | (with_reducible exact ⟨cell_allocd' b0,cell_allocd' b1,cell_allocd' b2,cell_allocd' b3,cell_allocd' b4,cell_allocd' b5,cell_allocd' b6⟩) | (with_reducible exact ⟨zdc hne4 d0,zdc hne4 d1,zdc hne4 d2,zdc hne4 d3,zdc hne4 d4,zdc hne4 d5,zdc hne5 d6⟩))
     ((go_at_call 292;first
      | ((with_reducible refine HA4.out.mono ?_);rintro e w4 ⟨rfl,h4⟩;have H4:=Lib.hid h4;have d6:w4.cell? ⟨p,2,none⟩=some (.pointer (some ⟨s,0,none⟩)):=(zab (h4.blkAt 5 rfl) 2).trans rfl;obtain ⟨d0,d1,d2,d3,d4,d5⟩:=zf1 (h4.blkAt 1 rfl);clear h4)
      | ((with_reducible refine HAW.out.mono ?_);rintro e w4 ⟨rfl,h4⟩;have H4:=Lib.hid h4;have d6:w4.cell? ⟨p,2,none⟩=some (.pointer (some ⟨s,0,none⟩)):=(zab (h4.blkAt 6 rfl) 2).trans rfl;have hne4:=(zr5 h4 1 2 rfl rfl (by decide) (List.mem_singleton.2 rfl) (List.mem_singleton.2 rfl)).symm;have hne5:=(zr5 h4 1 6 rfl rfl (by decide) (List.mem_singleton.2 rfl) (List.mem_singleton.2 rfl)).symm;have hx4:=zg2 (p:=⟨⟨0,0,0,0,0,0⟩,0⟩) (h4.blkAt 1 rfl);obtain ⟨x0,x1,x2,x3,x4,x5,x6⟩:=hx4;have hf4:=zac (h4.blkAt 1 rfl);obtain ⟨d0,d1,d2,d3,d4,d5⟩:=zf1 (h4.blkAt 2 rfl);clear h4)))
    all_goals go_wp2_with fail
    all_goals go_meet
    ·exact ⟨_,_,rfl,Lib.hid rfl,Lib.hid (H4.out.rot'.box _)⟩
    ·exact ⟨_,_,rfl,Lib.hid rfl,Lib.hid ((((((((H4.out.perm3).store 0 _).store 1 _).store 2 _).store 3 _).store 4 _).store 5 _).store 6 _)⟩
   case rest=>
    go_upto_region 7 with fail
    obtain ⟨e1,st4,rfl,HS4,H5⟩:=hcut
    clear H3
    have HN2:Hid (zbw sv (bs.take (k+1))=(⟨n,es,st4,rp.set q (time,(za0 st ⟨q,time,kind,key,val,sl⟩).1)⟩,new++[⟨⟨q,time,kind,key,val,sl⟩,(za0 st ⟨q,time,kind,key,val,sl⟩).1⟩])):=Lib.hid (by rw [HN.out,HY.out,HS4.out])
    have HC6:Hid (LxS n st4 (rp.set q (time,(za0 st ⟨q,time,kind,key,val,sl⟩).1))):=Lib.hid (by rw [HS4.out];exact HC.out.step _ q _)
    clear HN HY HC HS4
    generalize (za0 st ⟨q,time,kind,key,val,sl⟩).1=res at*
    have H6:=Lib.hid H5.out.drew
    obtain ⟨y0,y1,-,-,-,-⟩:=zf1 (H5.out.blkAt 1 rfl)
    obtain ⟨-,-,-,-,-,-,y6⟩:=zg2 (H5.out.blkAt 0 rfl)
    have x3:wc.cell? ⟨p,3,none⟩=some (.pointer (some ⟨c,0,none⟩)):=by rw [zab (H5.out.blkAt 6 rfl)];rfl
    have HPU:=Lib.hid (zyl (Own.perm (ss:=blk c (chO g rp.length cap)::rpR g rp::blk e1 (enBox ⟨⟨q,time,kind,key,val,sl⟩,res⟩)::blk e0 (rqBox ⟨q,time,kind,key,val,sl⟩)::enR vo new::stR s st4::blk p (lgO n (.slice al es.length cl) s c)::enR (.slice al es.length cl) es::batR (.slice (some ⟨b,o,none⟩) bs.length bcap) bs::ss) H6.out (List.perm_append_comm (l₁:=[_,_,_,_]) (l₂:=[_,_]) |>.append_right _)) hrc q hqr time res HTM.out)
    clear H6 H5
    refine Mix.wp_text2 (by kernel_rfl) (by kernel_rfl) ?_
    go_wp2_with fail
    refine HPU.out.mono ?_
    rintro e w6 ⟨rfl,h6⟩
    have HV:=Lib.hid h6
    clear h6 HPU y0 y1 y6 x3
    go_wp2_with fail
    refine ⟨by rfl,?_⟩
    go_upto_region 8 with fail
    obtain ⟨r0,r1,r2,r3,r4,r5,r6⟩:=zg2 (HV.out.blkAt 2 rfl)
    have hd:=HV.out.alloc (enBox ⟨⟨q,time,kind,key,val,sl⟩,res⟩)
    have HD:=Lib.hid hd
    have HW:=Lib.hid (zak (hd.get 4 rfl))
    have HNW:Hid (∀j u,(zd5 ⟨⟨q,time,kind,key,val,sl⟩,res⟩)[j]?=some u→(w6.alloc (enBox ⟨⟨q,time,kind,key,val,sl⟩,res⟩)).cell? ((⟨w6.heap.size,0,none⟩:Addr).add j)=some u):=Lib.hid (World.news_of_block (heap_alloc_new w6 (enBox ⟨⟨q,time,kind,key,val,sl⟩,res⟩)))
    have HON:Hid (∀u∈zd5 ⟨⟨q,time,kind,key,val,sl⟩,res⟩,u.oneCell'=true):=Lib.hid (fun u hu=>zqu [⟨⟨q,time,kind,key,val,sl⟩,res⟩] u (by simpa [zbs] using hu))
    have HMX:=Lib.hid (zjx (k:=new.length) (by omega))
    have HM4:Hid ((new.length+1)*56≤140737488355328):=Lib.hid (by omega)
    clear hd hl1
    go_wp2_with (at_builtin;refine wpList_append_lies _ rfl (.tmp 59) (.tmp 61) 103 rfl 0 106 i0 (.agg #[.int .i64 0,.int .i64 0,.int .i64 0,.int .i64 0,.int .i64 0,.int .i64 0,.int .i64 0]) 7 56 Tryz.underlying103 hi hz0 hz1 hz2 rfl (by decide) _ new.length _ rfl HW.out ⟨w6.heap.size,0,none⟩ 1 1 (zd5 ⟨⟨q,time,kind,key,val,sl⟩,res⟩) rfl rfl HNW.out HON.out (by decide) HMX.out HM4.out (Nat.zero_le _) _ rfl ?_)
    intro g9 cap9 w9 hown hgrow hat hlt5
    have h6:=((HD.out.growAt 4 rfl hgrow (by simpa using hat) hown).dropAt 2 (by simp)).dropAt 2 (by simp)
    have HZ:Hid (ztx B w0 ss p s c g cap n sv (.slice al es.length cl) es (.slice (some ⟨b,o,none⟩) bs.length bcap) bs (k+1) (.slice (some ⟨g9,0,none⟩) (new.length+1) cap9) w9):=Lib.hid ⟨_,_,_,HN2.out,HC6.out,by
     rw [←zxc (.slice (some ⟨g9,0,none⟩) (new.length+1) cap9) (new++[(⟨⟨q,time,kind,key,val,sl⟩,res⟩:En)]) (new.length+1) (zbs new++zd5 ⟨⟨q,time,kind,key,val,sl⟩,res⟩) (by simp) (by rw [zke,ens_1])]
     exact h6.perm (List.perm_append_comm (l₁:=[_,_]) (l₂:=[_,_]) |>.append_right _)⟩
    clear hown hgrow hat hlt5 h6 HD HW HNW HON HMX HM4 HV r0 r1 r2 r3 r4 r5 r6
    go_wp2_with fail
    go_roundw
    case rel=>exact ⟨k+1,_,by omega,by go_num,rfl,HZ⟩
    case measure=>simp [intOf];omega
  ·have hkl:k=bs.length:=by omega
   subst hkl
   have hkI:decide ((bs.length:Int)<(bs.length:Int))=false:=by simp
   obtain ⟨st,rp,new,hrun,hc,ho⟩:=HM.out
   have hl1:=HNF.out bs.length
   rw [List.take_length] at hrun hl1
   have HRUN:=Lib.hid hrun
   rw [hrun] at hl1
   simp only at hl1
   clear hrun HNF HM
   have HC:=Lib.hid hc
   have hpb:=ho.blkAt 4 rfl
   have x1:wr.cell? ⟨p,1,none⟩=some (.slice al es.length cl):=by rw [zab hpb];rfl
   have RV:=Lib.hid (zxv (v:=vo) (E:=106) (l:=new) ho 0 rfl)
   have HO:=Lib.hid (ho.perm (ss:=enR (.slice al es.length cl) es::enR vo new::stR s st::blk c (chO g rp.length cap)::rpR g rp::blk p (lgO n (.slice al es.length cl) s c)::batR (.slice ao bs.length bcap) bs::ss) (List.perm_append_comm (l₁:=[_,_,_,_,_]) (l₂:=[_]) |>.append_right _))
   have HM1:Hid (es.length+new.length≤maxLen):=Lib.hid (by unfold maxLen;omega)
   have HM2:Hid ((es.length+new.length)*56≤140737488355328):=Lib.hid (by omega)
   clear ho hc hpb
   go_wp2_with (at_builtin;refine zd7 rfl (.tmp 68) (.tmp 69) 103 rfl 106 i0 (.agg #[.int .i64 0,.int .i64 0,.int .i64 0,.int .i64 0,.int .i64 0,.int .i64 0,.int .i64 0]) 7 56 Tryz.underlying103 hi hz0 hz1 hz2 rfl (by decide) _ es.length _ rfl HO.out _ new.length _ rfl RV.out (zqu new) HM1.out HM2.out ?_)
   intro v4 w4 h4
   obtain ⟨a4,c4,rfl⟩:=zd3 (zak h4.head)
   have H4:=Lib.hid h4
   have hpb:=h4.blkAt 5 rfl
   have y1:w4.cell? ⟨p,1,none⟩=some (.slice al es.length cl):=by rw [zab hpb];rfl
   have z1:=zac hpb 1
   clear h4 hpb RV HO x1
   go_wp2_with fail
   go_ret
   have e1:ownR 106 7 (.slice a4 (es.length+new.length) c4) (es.length+new.length) (zbs es++zbs new)=enR (.slice a4 (es.length+new.length) c4) (es++new):=zxc _ _ _ _ (by simp) (zke _ _).symm
   have h5:=H4.out.storeAt 5 rfl 1 (.slice a4 (es.length+new.length) c4)
   rw [e1] at h5
   refine ⟨vo,.slice a4 (es.length+new.length) c4,st,rp,rfl,?_,HC.out,?_⟩
   ·unfold runL;simp only;rw [HRUN.out,HSE.out]
   ·rw [HRUN.out];exact h5.perm (List.perm_append_comm (l₁:=[_,_]) (l₂:=[_,_,_,_]) |>.append_right _)
end
end Go.Proofs.YtannckelmojkoaaGreat
