/- Parts of the proof, one behind the other. -/
import Derived.Test.YtannckelmojkoaaGreatVwsB3
import Derived.Test.YtannckelmojkoaaGreatRows
import Derived.WalkKit
import Derived.ProofKit
import Derived.OpenShut
import Derived.Carry
import Derived.Deep.Slices
import Derived.Deep.RegionHeld3
import Derived.Deep.DeepCutAuto
import Derived.Deep.CutBlock
import Derived.Outline
set_option maxHeartbeats 32000000
set_option maxRecDepth 100000
set_option linter.unusedVariables false
set_option linter.unusedSimpArgs false
namespace Go.Proofs.YtannckelmojkoaaGreat
open Go.RowKit Go.Heap
theorem zte {w:World} {s bp bc cp cq f:Nat} {st:Sl} {D:List Nat} (h:SlotAt w s bp bc cp cq f st D) (kind node sl:Int) (v:Value) (ao:Option Addr) (n cb:Nat)
  (hk:(if kind=4 then .slice (some ⟨bp,0,none⟩) (3*f+1) cp else if kind=5 then .slice (some ⟨bc,0,none⟩) (3*f+1) cq else .slice none 0 0:Value)= .slice ao n cb)
  (ho:node<0∨(n:Int)≤node):
  Calls Tryz.prog 264 #[.pointer (some ⟨s,0,none⟩),.int .i64 kind,.int .i64 node,.int .i64 sl,v] w fun e w'=>e= .returned (.bool false)∧w=w':=by
 have H:=zq h;have HK:=zq hk;clear hk h;rcases ho with ho | ho
 ·go_enter Tryz.func264,Tryz.ntmps264
  go_wp2_with fail
  refine (zgs H.out kind).mono ?_;rw [HK.out];rintro e w' ⟨rfl,rfl⟩
  go_wp2_with fail
  go_ret
  exact ⟨rfl,rfl⟩
 ·have h0: ¬node<0:=by omega
  go_enter Tryz.func264,Tryz.ntmps264
  go_wp2_with fail
  refine (zgs H.out kind).mono ?_;rw [HK.out];rintro e w' ⟨rfl,rfl⟩
  go_wp2_with fail
  go_ret
  exact ⟨rfl,rfl⟩
theorem vote_has {w:World} {s bp bc cp cq f:Nat} {st:Sl} {D:List Nat} (h:SlotAt w s bp bc cp cq f st D) (kind:Int) (node:Nat) (sl:Int) (v:Value) (b cb:Nat) (l:List Vt) (hl:l.length=3*f+1)
  (hk:(if kind=4 then .slice (some ⟨bp,0,none⟩) (3*f+1) cp else if kind=5 then .slice (some ⟨bc,0,none⟩) (3*f+1) cq else .slice none 0 0:Value)= .slice (some ⟨b,0,none⟩) (3*f+1) cb)
  (hv:zb1 w b l D) (t:Vt) (ht:l[node]?=some t) (hhas:t.has=true):
  Calls Tryz.prog 264 #[.pointer (some ⟨s,0,none⟩),.int .i64 kind,.int .i64 node,.int .i64 sl,v] w fun e w'=>e= .returned (.bool false)∧w=w':=by
 obtain ⟨bv,c0,c1,c2,_,hbw,_,fz⟩:=hv.cells node t ht;rw [hhas] at c0;have H:=zq h;have hf2:=h.f2;have hnl:node<3*f+1:=by rw [←hl];exact (List.getElem?_eq_some_iff.1 ht).1
 have HK:=zq hk;clear hk ht hhas fz hl hv h;have i1: ¬(node:Int)<0:=by omega
 have i2:(node:Int)<3*(f:Int)+1:=by omega
 have i3: ¬((3*f+1:Nat):Int)≤(node:Int):=by omega
 go_enter Tryz.func264,Tryz.ntmps264
 go_wp2_with fail
 refine (zgs H.out kind).mono ?_;rw [HK.out];rintro e w' ⟨rfl,rfl⟩
 go_wp2_with fail
 go_ret
 exact ⟨rfl,rfl⟩
def ziw (w:World) (s bp bc cp cq f:Nat) (st:Sl) (D:List Nat) (kind node sl:Int) (rs:List Rq) (e:Ending) (w':World):Prop:=
 e= .returned (.bool (zdl st kind node))∧Upd [bp,bc] w w'∧ ∃D',(∀k∈D',k∈D∨w.heap.size≤k)∧SlotAt w' s bp bc cp cq f (voteS st kind node sl rs) D'
theorem zpz {w:World} {s bp bc cp cq f:Nat} {st:Sl} {D:List Nat} (h:SlotAt w s bp bc cp cq f st D) {kind node sl:Int} {rs:List Rq} (hc:zdl st kind node=false):ziw w s bp bc cp cq f st D kind node sl rs (.returned (.bool false)) w:=
 ⟨by rw [hc],Upd.refl _ _,D,fun k hk=> .inl hk,by unfold voteS;rw [hc];exact h⟩
theorem zli {w:World} {b:Nat} {vs:List Vt} {D E:List Nat} (h:zb1 w b vs D):zb1 w b vs (E++D):=by
 obtain ⟨arr,a1,a2,a3⟩:=h;refine ⟨arr,a1,a2,fun i t hi=> ?_⟩;obtain ⟨v,c1,c2,c3,c4,c5⟩:=a3 i t hi;exact ⟨v,c1,c2,c3,c4,fun k hk=>List.mem_append_right _ (c5 k hk)⟩
theorem zm3 {w w':World} {s bp bc cp cq f:Nat} {st:Sl} {D:List Nat} (h:SlotAt w s bp bc cp cq f st D) {kind sl:Int} {node:Nat} {rs:List Rq} {b:Nat} (hc:zdl st kind node=true) (hn:rs.length≤100000)
  (hb:kind=4∧b=bp∨kind=5∧b=bc) (hnode:node<3*f+1) (hs:Stored w w' b node sl rs):ziw w s bp bc cp cq f st D kind node sl rs (.returned (.bool true)) w':=by
 obtain ⟨w1,ao,cap,hu,hbat,hnew,hw'⟩:=hs;obtain ⟨_,_,l1,l2,l3,_⟩:=h.cells;have h1:=h.upd hu (by simp) (by simp) (by simp) (by simp);have HU:Upd [b] w1 w':=by rw [hw'];exact (((Upd.refl _ _).setCell (.inl (by simp)) _).setCell (.inl (by simp)) _).setCell (.inl (by simp)) _
 have hsz:=HU.size;have hbl: ∀x,x<w.heap.size→x∉blkOf (.slice ao rs.length cap):=fun x hx hin=>by have:=hnew x hin;omega
 have hbD:b∉D:=by
  rcases hb with ⟨_,e⟩ | ⟨_,e⟩
  ·rw [e];exact h.Dp
  ·rw [e];exact h.Dc
 have hbw:b<w.heap.size:=by
  rcases hb with ⟨_,e⟩ | ⟨_,e⟩
  ·rw [e];exact l2
  ·rw [e];exact l3
 have hDb: ∀k∈D,k∉[b]:=fun k hk e=>by simp at e;subst e;exact hbD hk
 have hbb: ∀k∈blkOf (.slice ao rs.length cap),k∉[b]:=fun k hk e=>by simp at e;subst e;exact hbl _ hbw hk
 obtain ⟨v0,o1,o2,o3⟩:=h1.own;have hsb:s≠b:=by
  rcases hb with ⟨_,e⟩ | ⟨_,e⟩
  ·rw [e];exact h.sp
  ·rw [e];exact h.sc
 have own': ∃v,w'.heap[s]?=some (.cells #[.int .i64 f,.bool st.has,v,.slice (some ⟨bp,0,none⟩) (3*f+1) cp,.slice (some ⟨bc,0,none⟩) (3*f+1) cq] 307 (0,0))∧Bat w' v st.batch∧ ∀k∈blkOf v,k∈blkOf (.slice ao rs.length cap)++D:=
  ⟨v0,by rw [HU.block s (block_lt o1) (by simpa using hsb)];exact o1,o2.upd HU (fun k hk=>hDb k (o3 k hk)),fun k hk=>List.mem_append_right _ (o3 k hk)⟩
 have hD': ∀x,x<w.heap.size→x∉D→x∉blkOf (.slice ao rs.length cap)++D:=by
  intro x hx hxD hin;rcases List.mem_append.1 hin with h1 | h1
  ·exact hbl x hx h1
  ·exact hxD h1
 have hDw: ∀k∈blkOf (.slice ao rs.length cap)++D,k<w'.heap.size:=by
  intro k hk;rcases List.mem_append.1 hk with h2 | h2
  ·have:=hnew k h2;omega
  ·have:=h1.Dw k h2;omega
 refine ⟨by rw [hc],(hu.mono (by simp)).trans (HU.mono (by intro k _ hk;simp at hk;subst hk;rcases hb with ⟨_,e⟩ | ⟨_,e⟩<;>simp [e])),blkOf (.slice ao rs.length cap)++D,?_,?_⟩
 ·intro k hk
  rcases List.mem_append.1 hk with hk | hk
  ·exact .inr (hnew k hk).1
  ·exact .inl hk
 ·unfold voteS
  rw [hc,if_pos rfl,Int.toNat_natCast];rcases hb with ⟨rfl,rfl⟩ | ⟨rfl,rfl⟩
  ·rw [if_pos rfl]
   exact {
    f1:=h.f1,f2:=h.f2,own:=own',sp:=h.sp,sc:=h.sc,pc:=h.pc
    ps:=zol h1.ps hw' (by rw [h.pl];exact hnode) hbat (hbl _ l2) h.Dp
    cs:=zli (h1.cs.upd HU (by simpa using Ne.symm h.pc) hDb)
    pl:=by simpa using h.pl
    cl:=h.cl
    Ds:=hD' s l1 h.Ds,Dp:=hD' _ l2 h.Dp,Dc:=hD' _ l3 h.Dc,Dw:=hDw
    small:=⟨h.small.1,fun t ht=>by
     rcases List.mem_or_eq_of_mem_set ht with h2 | h2
     ·exact h.small.2.1 t h2
     ·rw [h2];exact hn,h.small.2.2⟩}
  ·rw [if_neg (by omega)]
   exact {
    f1:=h.f1,f2:=h.f2,own:=own',sp:=h.sp,sc:=h.sc,pc:=h.pc
    ps:=zli (h1.ps.upd HU (by simpa using h.pc) hDb)
    cs:=zol h1.cs hw' (by rw [h.cl];exact hnode) hbat (hbl _ l3) h.Dc
    pl:=h.pl
    cl:=by simpa using h.cl
    Ds:=hD' s l1 h.Ds,Dp:=hD' _ l2 h.Dp,Dc:=hD' _ l3 h.Dc,Dw:=hDw
    small:=⟨h.small.1,h.small.2.1,fun t ht=>by
     rcases List.mem_or_eq_of_mem_set ht with h2 | h2
     ·exact h.small.2.2 t h2
     ·rw [h2];exact hn⟩}
theorem zv8 {w:World} {s bp bc cp cq f:Nat} {st:Sl} {D:List Nat} (h:SlotAt w s bp bc cp cq f st D) (kind node sl:Int) (v:Value) (rs:List Rq) (hb:Bat w v rs) (hn:rs.length≤100000):
  Calls Tryz.prog 264 #[.pointer (some ⟨s,0,none⟩),.int .i64 kind,.int .i64 node,.int .i64 sl,v] w (ziw w s bp bc cp cq f st D kind node sl rs):=by
 have nope: ∀ {e:Ending} {w':World},zdl st kind node=false→e= .returned (.bool false)∧w=w'→ziw w s bp bc cp cq f st D kind node sl rs e w':=by
  rintro e w' hc ⟨rfl,rfl⟩;exact zpz h hc
 by_cases hk:kind=4∨kind=5
 ·obtain ⟨b, cb, l, hl, hkv, hvv, hlist, hbb⟩ : ∃ (b cb : Nat) (l : List Vt), l.length = 3 * f + 1 ∧ (if kind = 4 then .slice (some ⟨bp, 0, none⟩) (3 * f + 1) cp else if kind = 5 then .slice (some ⟨bc, 0, none⟩) (3 * f + 1) cq else .slice none 0 0 : Value) = .slice (some ⟨b, 0, none⟩) (3 * f + 1) cb ∧
      zb1 w b l D∧zrd st kind=l∧(kind=4∧b=bp∨kind=5∧b=bc):=by
   rcases hk with rfl | rfl
   ·exact ⟨bp,cp,st.ps,h.pl,by rw [if_pos rfl],h.ps,by simp [zrd],.inl ⟨rfl,rfl⟩⟩
   ·exact ⟨bc,cq,st.cs,h.cl,by rw [if_neg (by omega),if_pos rfl],h.cs,by simp [zrd],.inr ⟨rfl,rfl⟩⟩
  by_cases hin:0≤node∧node<3*(f:Int)+1
  ·obtain ⟨i,rfl⟩:=Int.eq_ofNat_of_zero_le hin.1
   have hil:i<l.length:=by omega
   have hget:l[i]?=some l[i]:=List.getElem?_eq_getElem hil;by_cases hhas:l[i].has=true
   ·refine (vote_has h kind i sl v b cb l hl hkv hvv _ hget hhas).mono fun e w'=>nope ?_
    simp [zdl,openB,hlist,hget,hhas]
   ·have hhas':l[i].has=false:=by simpa using hhas
    refine (vote_yes h kind i sl v rs b cb l hl hkv hvv _ hget hhas' hb hn).mono fun e w' ⟨he,hst⟩=> ?_;subst he;exact zm3 h (by simp [zdl,openB,hlist,hget,hhas']) hn hbb (by omega) hst
  ·refine (zte h kind node sl v _ _ _ hkv (by omega)).mono fun e w'=>nope ?_
   unfold zdl openB;rw [hlist];by_cases h0:0≤node
   ·rw [List.getElem?_eq_none (by omega)];simp
   ·simp [h0]
 ·have h4: ¬kind=4:=fun e=>hk (.inl e)
  have h5: ¬kind=5:=fun e=>hk (.inr e);refine (zte h kind node sl v none 0 0 (by rw [if_neg h4,if_neg h5]) (by omega)).mono fun e w'=>nope ?_;simp [zdl,openB,zrd,h4,h5]
def zfb (st:Sl):List Rq:=if st.has then st.batch else []
theorem zpu {w:World} {s bp bc cp cq f:Nat} {st:Sl} {D:List Nat} (h:SlotAt w s bp bc cp cq f st D):
  Calls Tryz.prog 215 #[.pointer (some ⟨s,0,none⟩)] w fun e w'=> ∃u,e= .returned (.tuple #[u,.bool st.has])∧Upd [] w w'∧Bat w' u (zfb st)∧ ∀k∈blkOf u,w.heap.size≤k∧k<w'.heap.size:=by
 have H:=zq h;obtain ⟨ao,cap,l1,l2,l3,c0,c1,c2,c3,c4,fz,b1,b2,own⟩:=h.cells;have B1:=zq b1;clear b1 own fz b2 h;unfold zfb;cases hhas:st.has with
 | false=>
  rw [hhas] at c1;clear hhas;go_enter Tryz.func215,Tryz.ntmps215
  go_wp2_with fail
  go_ret2
  exact ⟨_,rfl,Upd.refl _ _,Reads.nil _ _,by simp [blkOf]⟩
 | true=>
  rw [hhas] at c1;clear hhas;go_enter Tryz.func215,Tryz.ntmps215
  go_wp2_with fail
  refine (zgl _ st.batch _ H.out.small.1 B1.out).mono ?_;rintro e w1 ⟨v',rfl,hu,hbat,hnew⟩;have HBAT:=zq hbat;have HNEW:=zq hnew;clear hbat hnew
  go_wp2_with fail
  go_ret2
  exact ⟨_,rfl,hu,HBAT.out,HNEW.out⟩
def zbo (f:Nat) (st:Sl):Option Vs:=if st.has then zb2 st.ps st.batch (2*f+1) else none
theorem zk6 {w:World} {s bp bc cp cq f:Nat} {st:Sl} {D:List Nat} (h:SlotAt w s bp bc cp cq f st D):
  Calls Tryz.prog 280 #[.pointer (some ⟨s,0,none⟩)] w fun e w'=> ∃u,e= .returned (.tuple #[u,.bool (zbo f st).isSome])∧Below w.heap.size w w'∧Vts w' u ((zbo f st).getD [])∧ ∀k∈blkOf u,w.heap.size≤k:=by
 have H:=zq h;obtain ⟨ao,cap,l1,l2,l3,c0,c1,c2,c3,c4,fz,b1,b2,own⟩:=h.cells;have B1:=zq b1;have hpl:=h.pl;have HPL:=zq hpl;clear b1 own fz b2 h hpl;unfold zbo;cases hhas:st.has with
 | false=>
  rw [hhas] at c1;clear hhas;go_enter Tryz.func280,Tryz.ntmps280
  go_wp2_with fail
  go_ret2
  exact ⟨_,rfl,Below.refl _ _,Reads.nil _ _,by simp [blkOf]⟩
 | true=>
  rw [hhas] at c1;clear hhas;go_enter Tryz.func280,Tryz.ntmps280
  go_wp2_with fail
  refine Mix.wp_text (by kernel_rfl) (by kernel_rfl) ?_
  go_wp2_with fail
  have hen:=zke s bp cp (.slice ao st.batch.length cap) f st.ps D st.batch w.drew H.out.f1 H.out.f2 (by rw [HPL.out];have:=H.out.f2;omega) l1 (by rw [HPL.out];omega) c0 H.out.ps B1.out H.out.small.1 H.out.small.2.1;rw [HPL.out] at hen;refine hen.mono ?_;clear hen;rintro e w1 ⟨u,rfl,hb1,hv,hn⟩;have HV:=zq hv;have HN:=zq hn;clear hv hn
  go_wp2_with fail
  refine ⟨by rfl,?_⟩
  go_wp2_with fail
  go_ret2
  exact ⟨_,rfl,(Below.refl _ _).drew.trans hb1,HV.out,HN.out⟩
def zax (all:List Vt) (q:Nat):List Vt→Option (List Rq×Vs)
 | []=>none
 | t::r=>if t.has then (match zb2 all t.batch q with | some vs=>some (t.batch,vs) | none=>zax all q r) else zax all q r
def zaq (f:Nat) (st:Sl):Option (List Rq×Vs):=zax st.cs (2*f+1) st.cs
def zd8 (r:Option (List Rq×Vs)):List Rq:=match r with | some p=>p.1 | none=>[]
def zeo (r:Option (List Rq×Vs)):Vs:=match r with | some p=>p.2 | none=>[]
def zj8 (w:World) (r:Option (List Rq×Vs)) (e:Ending) (w':World):Prop:=
 ∃v u,e= .returned (.tuple #[v,u,.bool r.isSome])∧Below w.heap.size w w'∧Bat w' v (zd8 r)∧Vts w' u (zeo r)∧(∀k∈blkOf v,w.heap.size≤k)∧ ∀k∈blkOf u,w.heap.size≤k
theorem zjx {w:World} {s bp bc cp cq f:Nat} {st:Sl} {D:List Nat} (h:SlotAt w s bp bc cp cq f st D):
  Calls Tryz.prog 282 #[.pointer (some ⟨s,0,none⟩)] w (zj8 w (zaq f st)):=by
 have H:=zq h;obtain ⟨ao,cap,l1,l2,l3,c0,c1,c2,c3,c4,fz,b1,b2,own⟩:=h.cells;have hcl:=h.cl;have hf1:=h.f1;have hf2:=h.f2;have hlen:st.cs.length≤13:=by omega
 have HCL:=zq hcl;clear b1 own fz b2 h hcl c1 c2 c3;go_enter Tryz.func282,Tryz.ntmps282
 go_wp2_with fail
 go_loopw [14] (fun i wr=> ∃k:Nat,k≤3*f+1∧i= .int .i64 k∧Below w.heap.size w wr∧Hid (zaq f st=zax st.cs (2*f+1) (st.cs.drop k))) (fun i _=>3*f+1-(intOf i).toNat)
 case atStart=>exact ⟨0,by omega,rfl,Below.refl _ _,by rfl⟩
 case round=>
  obtain ⟨k,hk,rfl,hbel,hcom⟩:=hrel;have hz:=hbel.size;have k0:=(hbel.cell (p:=⟨s,0,none⟩) l1).trans c0;have k4:=(hbel.cell (p:=⟨s,4,none⟩) l1).trans c4;by_cases hlt:k<3*f+1
  ·have hkl:k<st.cs.length:=by rw [HCL.out];exact hlt
   have hvr:=H.out.cs.upd (M:=[]) (Upd.of_below hbel) (by simp) (by simp);obtain ⟨bv,d0,d1,d2,hbat,hbw,_,_⟩:=hvr.cells k st.cs[k] (by simp);obtain ⟨bo,bcap,rfl⟩:=zca hbat;have HBAT:=zq hbat;have HVR:=zq hvr;have hlk:=H.out.small.2.2 st.cs[k] (by simp);have hkI:(k:Int)<3*(f:Int)+1:=by omega
   have hkN:(k:Int)<((3*f+1:Nat):Int):=by omega
   clear hvr hbat;have hdrop:=zq (List.drop_eq_getElem_cons hkl);by_cases hhas:st.cs[k].has=true
   ·rw [hhas] at d0
    have HHAS:=zq hhas;clear hhas;have hsr:s<wr.heap.size:=Nat.lt_of_lt_of_le l1 hz;have hsn:s≠wr.heap.size:=by omega
    go_wp2_with fail
    refine Mix.wp_text (by kernel_rfl) (by kernel_rfl) ?_
    go_wp2_with fail
    have HU0:Upd [] wr (wr.alloc (.cells #[.bool true,.int .i64 st.cs[k].sl,.slice bo st.cs[k].batch.length bcap] 371)).drew:=((Upd.refl _ _).alloc _).drew;have hen:=zke s bc cq (.slice bo st.cs[k].batch.length bcap) f st.cs D st.cs[k].batch (wr.alloc (.cells #[.bool true,.int .i64 st.cs[k].sl,.slice bo st.cs[k].batch.length bcap] 371)).drew hf1 hf2 hlen (by simp;omega) (by omega)
     ((HU0.cell hsr (by simp)).trans k0) (HVR.out.upd HU0 (by simp) (by simp)) (HBAT.out.upd HU0 (by simp)) hlk H.out.small.2.2
    rw [HCL.out] at hen;simp only [zxc,zav] at hen;have hx2:(wr.alloc (.cells #[.bool true,.int .i64 st.cs[k].sl,.slice bo st.cs[k].batch.length bcap] 371)).cell? ⟨wr.heap.size,2,none⟩=some (.slice bo st.cs[k].batch.length bcap):=by
     rw [zac (heap_alloc_new wr _)];rfl
    have HX2:=zq hx2;clear hx2;have hbelq:Below w.heap.size w (wr.alloc (.cells #[.bool true,.int .i64 st.cs[k].sl,.slice bo st.cs[k].batch.length bcap] 371)).drew:=(hbel.alloc hz _).drew;cases hr:zb2 st.cs st.cs[k].batch (2*f+1) with
    | none=>
     rw [hr] at hen;have HR:=zq hr;clear hr;refine hen.mono ?_;clear hen;rintro e w2 ⟨u,rfl,hb1,-,-⟩
     go_wp2_with fail
     refine ⟨by rfl,?_⟩
     go_wp2_with fail
     go_roundw
     case rel=>
      refine ⟨k+1,by omega,by go_num,hbelq.trans (hb1.mono (by omega)),?_⟩;have h1:=hcom.out;rw [hdrop.out] at h1;show zaq f st=_;rw [h1,zax,if_pos HHAS.out,HR.out]
     case measure=>simp [intOf];omega
    | some vs=>
     rw [hr] at hen;have HR:=zq hr;clear hr;refine hen.mono ?_;clear hen;rintro e w2 ⟨u,rfl,hb1,hv,hn⟩;have HV:=zq hv;have HN:=zq hn;clear hv hn;have x2:w2.cell? ⟨wr.heap.size,2,none⟩=some (.slice bo st.cs[k].batch.length bcap):=(hb1.cell (p:=⟨wr.heap.size,2,none⟩) (Nat.lt_succ_self _)).trans HX2.out
     go_wp2_with fail
     refine ⟨by rfl,?_⟩
     go_wp2_with fail
     refine (zgl _ st.cs[k].batch _ hlk ((HBAT.out.upd HU0 (by simp)).upd (M:=[]) (Upd.of_below (by simpa using hb1)) (by simp))).mono ?_;rintro e w3 ⟨v',rfl,hu3,hbat3,hnew3⟩;have HB3:=zq hbat3;have HN3:=zq hnew3;clear hbat3 hnew3;have hz2:=hb1.size;simp only [zxc,zav] at hz2
     go_wp2_with fail
     go_ret3
     have hcs:zaq f st=some (st.cs[k].batch,vs):=by rw [hcom.out,hdrop.out,zax,if_pos HHAS.out,HR.out]
     refine ⟨v',u,by rw [hcs];rfl,(hbelq.trans (hb1.mono (by omega))).trans (hu3.below.mono (by omega)),by rw [hcs];exact HB3.out,?_,?_,?_⟩
     ·rw [hcs];exact HV.out.upd hu3 (by simp)
     ·intro j hj;have:=(HN3.out j hj).1;omega
     ·intro j hj;have:=HN.out j hj;omega
   ·have hhas':st.cs[k].has=false:=by simpa using hhas
    rw [hhas'] at d0;have HHAS:=zq hhas';clear hhas hhas'
    go_wp2_with fail
    go_roundw
    case rel=>
     refine ⟨k+1,by omega,by go_num,hbel.alloc hz _,?_⟩;have h1:=hcom.out;rw [hdrop.out] at h1;show zaq f st=_;rw [h1,zax,if_neg (by rw [HHAS.out];simp)]
    case measure=>simp [intOf];omega
  ·have hkn: ¬(k:Int)<((3*f+1:Nat):Int):=by omega
   go_wp2_with fail
   go_ret3
   have hcs:zaq f st=none:=by rw [hcom.out,List.drop_of_length_le (by rw [HCL.out];omega)];rfl
   exact ⟨.slice none 0 0,.slice none 0 0,by rw [hcs];rfl,hbel,by rw [hcs];exact Reads.nil _ _,by rw [hcs];exact Reads.nil _ _,by simp [blkOf],by simp [blkOf]⟩
structure Loc where
 s:Nat
 bp:Nat
 bc:Nat
 cp:Nat
 cq:Nat
 f:Nat
def Loc.M (L:Loc):List Nat:=[L.s,L.bp,L.bc]
abbrev Loc.ptr (L:Loc):Value:= .pointer (some ⟨L.s,0,none⟩)
def On (w:World) (L:Loc) (st:Sl) (A:List Nat):Prop:=
 ∃D,SlotAt w L.s L.bp L.bc L.cp L.cq L.f st D∧(∀k∈D,k∉A)∧ ∀k∈A,k<w.heap.size
theorem On.upd {w w':World} {L:Loc} {st:Sl} {A N:List Nat} (h:On w L st A) (hu:Upd N w w') (hN: ∀k∈N,k∉L.M∧k∈A):On w' L st A:=by
 obtain ⟨D,h1,h2,h3⟩:=h;have hm: ∀k,k∈L.M→k∉N:=fun k hk hn=>(hN k hn).1 hk;refine ⟨D,h1.upd hu (hm _ (by simp [Loc.M])) (hm _ (by simp [Loc.M])) (hm _ (by simp [Loc.M])) (fun k hk hn=>h2 k hk (hN k hn).2),h2,fun k hk=>Nat.lt_of_lt_of_le (h3 k hk) hu.size⟩
theorem On.upd0 {w w':World} {L:Loc} {st:Sl} {A:List Nat} (h:On w L st A) (hu:Upd [] w w'):On w' L st A:=h.upd hu (by simp)
theorem On.below {w w':World} {L:Loc} {st:Sl} {A:List Nat} (h:On w L st A) (hb:Below w.heap.size w w'):On w' L st A:=h.upd0 (Upd.of_below hb)
theorem On.alloc {w:World} {L:Loc} {st:Sl} {A:List Nat} (h:On w L st A) (o:Obj):On (w.alloc o) L st A:=h.upd0 ((Upd.refl _ _).alloc o)
theorem On.lt {w:World} {L:Loc} {st:Sl} {A:List Nat} (h:On w L st A): ∀k∈L.M,k<w.heap.size:=by
 obtain ⟨D,h1,_,_⟩:=h;obtain ⟨_,_,l1,l2,l3,_⟩:=h1.cells;intro k hk;simp [Loc.M] at hk;rcases hk with rfl | rfl | rfl<;>assumption
theorem On.avoid {w:World} {L:Loc} {st:Sl} {A A':List Nat} (h:On w L st A) (hs: ∀k∈A',k∈A):On w L st A':=by
 obtain ⟨D,h1,h2,h3⟩:=h;exact ⟨D,h1,fun k hk hn=>h2 k hk (hs k hn),fun k hk=>h3 k (hs k hk)⟩
theorem zq6 {D D' A:List Nat} {w:World} (h2: ∀k∈D,k∉A) (h3: ∀k∈A,k<w.heap.size) (hD: ∀k∈D',k∈D∨w.heap.size≤k): ∀k∈D',k∉A:=by
 intro k hk hn;rcases hD k hk with h | h
 ·exact h2 k h hn
 ·have:=h3 k hn;omega
theorem on_new (f:Nat) (h1:1≤f) (h2:f≤4) (w:World):
  Calls Tryz.prog 151 #[.int .i64 f] w fun e w'=> ∃L:Loc,e= .returned (.tuple #[L.ptr,.int .i64 0])∧L.f=f∧Upd [] w w'∧(∀k∈L.M,w.heap.size≤k)∧ ∀A,(∀k∈A,k<w'.heap.size)→On w' L (zbc f) A:=by
 refine (slot_new f h1 h2 w).mono ?_;rintro e w' ⟨s,bp,bc,he,hu,g1,g2,g3,h⟩;refine ⟨⟨s,bp,bc,3*f+1,3*f+1,f⟩,he,rfl,hu,by simp [Loc.M];omega,fun A hA=>⟨[],h,by simp,hA⟩⟩
theorem on_pre {w:World} {L:Loc} {st:Sl} {A:List Nat} (h:On w L st A) (v:Value) (rs:List Rq) (hb:Bat w v rs) (hn:rs.length≤100000):
  Calls Tryz.prog 217 #[L.ptr,v] w fun e w'=>e= .returned (.bool (!st.has))∧Upd L.M w w'∧On w' L (if st.has then st else {st with has:=true,batch:=rs}) A:=by
 obtain ⟨D,h1,h2,h3⟩:=h;refine (slot_pre h1 v rs hb hn).mono ?_;rintro e w' ⟨he,hu,D',hD,h⟩;exact ⟨he,hu.mono (by intro k _ hk;simp at hk;simp [Loc.M,hk]),D',h,zq6 h2 h3 hD,fun k hk=>Nat.lt_of_lt_of_le (h3 k hk) hu.size⟩
theorem on_vote {w:World} {L:Loc} {st:Sl} {A:List Nat} (h:On w L st A) (kind node sl:Int) (v:Value) (rs:List Rq) (hb:Bat w v rs) (hn:rs.length≤100000):
  Calls Tryz.prog 264 #[L.ptr,.int .i64 kind,.int .i64 node,.int .i64 sl,v] w fun e w'=>e= .returned (.bool (zdl st kind node))∧Upd L.M w w'∧On w' L (voteS st kind node sl rs) A:=by
 obtain ⟨D,h1,h2,h3⟩:=h;refine (zv8 h1 kind node sl v rs hb hn).mono ?_;rintro e w' ⟨he,hu,D',hD,h⟩;exact ⟨he,hu.mono (by intro k _ hk;simp [Loc.M] at hk⊢;exact .inr hk),D',h,zq6 h2 h3 hD,fun k hk=>Nat.lt_of_lt_of_le (h3 k hk) hu.size⟩
theorem zvf {w:World} {L:Loc} {st:Sl} {A:List Nat} (h:On w L st A):
  Calls Tryz.prog 215 #[L.ptr] w fun e w'=> ∃u,e= .returned (.tuple #[u,.bool st.has])∧Upd [] w w'∧On w' L st A∧Bat w' u (zfb st)∧ ∀k∈blkOf u,w.heap.size≤k:=by
 have h0:=h;obtain ⟨D,h1,h2,h3⟩:=h;refine (zpu h1).mono ?_;rintro e w' ⟨u,he,hu,hb,hn⟩;exact ⟨u,he,hu,h0.upd0 hu,hb,fun k hk=>(hn k hk).1⟩
theorem zpj {w:World} {L:Loc} {st:Sl} {A:List Nat} (h:On w L st A):
  Calls Tryz.prog 280 #[L.ptr] w fun e w'=> ∃u,e= .returned (.tuple #[u,.bool (zbo L.f st).isSome])∧Upd [] w w'∧On w' L st A∧Vts w' u ((zbo L.f st).getD [])∧ ∀k∈blkOf u,w.heap.size≤k:=by
 have h0:=h;obtain ⟨D,h1,h2,h3⟩:=h;refine (zk6 h1).mono ?_;rintro e w' ⟨u,he,hb,hv,hn⟩;exact ⟨u,he,Upd.of_below hb,h0.below hb,hv,hn⟩
theorem zmf {w:World} {L:Loc} {st:Sl} {A:List Nat} (h:On w L st A):
  Calls Tryz.prog 282 #[L.ptr] w fun e w'=> ∃v u,e= .returned (.tuple #[v,u,.bool (zaq L.f st).isSome])∧Upd [] w w'∧On w' L st A∧Bat w' v (zd8 (zaq L.f st))∧Vts w' u (zeo (zaq L.f st))∧(∀k∈blkOf v,w.heap.size≤k)∧ ∀k∈blkOf u,w.heap.size≤k:=by
 have h0:=h;obtain ⟨D,h1,h2,h3⟩:=h;refine (zjx h1).mono ?_;rintro e w' ⟨v,u,he,hb,q1,q2,q3,q4⟩;exact ⟨v,u,he,Upd.of_below hb,h0.below hb,q1,q2,q3,q4⟩
theorem zx7 (v n:Int) (h:1≤n): -n<v.tmod n∧v.tmod n<n:=by
 have h1:=Int.tmod_lt_of_pos v (show 0<n by omega);have h2:=Int.lt_tmod_of_pos v (show 0<n by omega);exact ⟨h2,h1⟩
theorem zwl (v n:Int) (h:1≤n):v%n=if v.tmod n<0 then v.tmod n+n else v.tmod n:=by
 have h1:=Int.mul_tdiv_add_tmod v n;have h2:=zx7 v n h;have h3:v%n=v.tmod n%n:=by
  conv=>lhs;rw [←h1]
  rw [Int.mul_add_emod_self_left]
 rw [h3];split
 ·rw [←Int.add_emod_right,Int.emod_eq_of_lt (by omega) (by omega)]
 ·rw [Int.emod_eq_of_lt (by omega) (by omega)]
theorem zb9 (v n:Int) (w:World) (h0:1≤n) (h1:n≤1000000):
  Calls Tryz.prog 16 #[.int .i64 v,.int .i64 n] w fun e w'=>e= .returned (.int .i64 (v%n))∧w=w':=by
 obtain ⟨b1,b2⟩:=zx7 v n h0;have H:=zq (zwl v n h0);go_enter Tryz.func16,Tryz.ntmps16
 go_wp2
 all_goals
  go_ret
  refine ⟨zgb ?_,rfl⟩;have h:=H.out;split at h<;>omega
theorem zf7 (v n:Int) (h:1≤n):0≤v%n∧v%n<n:=⟨Int.emod_nonneg _ (by omega),Int.emod_lt_of_pos _ (by omega)⟩
theorem zel (f:Int) (w:World) (h1:1≤f) (h2:f≤4):Calls Tryz.prog 17 #[.int .i64 f] w fun e w'=>e= .returned (.int .i64 (3*f+1))∧w=w':=by
 go_enter Tryz.func17,Tryz.ntmps17
 go_wp2
 go_ret
 exact ⟨rfl,rfl⟩
theorem zf1 (f:Int) (w:World) (h1:1≤f) (h2:f≤4):Calls Tryz.prog 21 #[.int .i64 f] w fun e w'=>e= .returned (.int .i64 (2*f+1))∧w=w':=by
 go_enter Tryz.func21,Tryz.ntmps21
 go_wp2
 go_ret
 exact ⟨rfl,rfl⟩
theorem zfm {w:World} {b o:Nat} {rs:Vs} (hc: ∀j,j<rs.length*2→w.cell? ⟨b,o+j,none⟩=(zaf rs)[j]?) (k:Nat) (p:Int×Int) (hp:rs[k]?=some p):
  w.cell? ⟨b,o+k*2,none⟩=some (.int .i64 p.1)∧w.cell? ⟨b,o+k*2+1,none⟩=some (.int .i64 p.2):=by
 have hk:=(List.getElem?_eq_some_iff.1 hp).1;obtain ⟨e0,e1⟩:=zp1 rs k p hp;exact ⟨(hc _ (by omega)).trans e0,(hc (k*2+1) (by omega)).trans e1⟩
theorem zb1.dep {w w':World} {b:Nat} {vs:List Vt} {D:List Nat} (h:zb1 w b vs D) (hk: ∀k,k=b∨k∈D→w'.heap[k]?=w.heap[k]?) (hs:w.heap.size≤w'.heap.size):zb1 w' b vs D:=by
 obtain ⟨arr,h1,h2,h3⟩:=h;refine ⟨arr,by rw [hk b (.inl rfl)];exact h1,h2,fun i t hi=> ?_⟩;obtain ⟨v,a1,a2,a3,a4,a5⟩:=h3 i t hi;exact ⟨v,a1,a2,a3,Reads.keep a4 (fun k hkb _=>hk k (.inr (a5 k hkb))) hs,a5⟩
theorem SlotAt.dep {w w':World} {s bp bc cp cq f:Nat} {st:Sl} {D:List Nat} (h:SlotAt w s bp bc cp cq f st D) (hk: ∀k,k∈[s,bp,bc]∨k∈D→w'.heap[k]?=w.heap[k]?) (hs:w.heap.size≤w'.heap.size):SlotAt w' s bp bc cp cq f st D:=by
 obtain ⟨v,a1,a2,a3⟩:=h.own;exact {h with
  own:=⟨v,by rw [hk s (by simp)];exact a1,Reads.keep a2 (fun k hkb _=>hk k (.inr (a3 k hkb))) hs,a3⟩
  ps:=h.ps.dep (fun k hkb=>hk k (hkb.imp (fun e=>by simp [e]) id)) hs
  cs:=h.cs.dep (fun k hkb=>hk k (hkb.imp (fun e=>by simp [e]) id)) hs
  Dw:=fun k hkD=>Nat.lt_of_lt_of_le (h.Dw k hkD) hs}
def slotR (L:Loc) (st:Sl):Res where
 M:=L.M
 Q:=fun w D=>SlotAt w L.s L.bp L.bc L.cp L.cq L.f st D
 dep:=fun h hk hs=>h.dep hk hs
 lt:=fun {w D} h k hk=>hk.elim (fun hk=>On.lt (A:=[]) ⟨D,h,by simp,by simp⟩ k hk) (fun hk=>h.Dw k hk)
 sep:=fun h k hk hn=>by
  simp [Loc.M] at hk;rcases hk with rfl | rfl | rfl
  ·exact h.Ds hn
  ·exact h.Dp hn
  ·exact h.Dc hn
def BatIn (w:World) (v:Value) (rs:List Rq) (D:List Nat):Prop:=zat w v 6 rs.length (zak rs) D
theorem Bat.lies {w:World} {v:Value} {rs:List Rq} (h:Bat w v rs):BatIn w v rs (blkIf rs.length v):=Reads.lies h
theorem BatIn.bat {w:World} {v:Value} {rs:List Rq} {D:List Nat} (h:BatIn w v rs D):Bat w v rs:=h.1
def batR (v:Value) (rs:List Rq):Res:=imm (fun w D=>BatIn w v rs D) (fun h hk hs=>zat.dep h hk hs)
theorem zgw {v:Value} {rs:List Rq} {w:World} {A:List Nat} (h:(batR v rs).At w A):Bat w v rs:=let ⟨_,h,_⟩:=h;h.1.1
section
variable {B:Nat} {w0 W W':World} {rs:List Res} {L:Loc} {st:Sl}
theorem zmh (h:Own B w0 W (slotR L st::rs)):On W L st (Ms (slotR L st::rs)):=h.head
theorem zn3 (h:Own B w0 W (slotR L st::rs)):st.batch.length≤100000∧(∀t∈st.ps,t.batch.length≤100000)∧(∀t∈st.cs,t.batch.length≤100000)∧st.ps.length=3*L.f+1∧st.cs.length=3*L.f+1:=by
 obtain ⟨D,h1,_,_⟩:=zmh h;exact ⟨h1.small.1,h1.small.2.1,h1.small.2.2,h1.pl,h1.cl⟩
theorem zxq (h:Own B w0 W rs) {v:Value} {l:List Rq} (hb:Bat W v l) (hk: ∀k∈blkIf l.length v,k<B∨w0.heap.size≤k∧k∉Ms rs):Own B w0 W (batR v l::rs):=
 h.new (Upd.refl [] _) ⟨blkIf l.length v,⟨hb.lies,Reads.lies_lt hb⟩,fun k hkD=>(hk k hkD).elim (fun hl=>h.elder hl) (·.2),fun k hkA=>h.lt k hkA⟩ (by simp [batR,imm])
theorem own_new (f:Nat) (h1:1≤f) (h2:f≤4) (h:Own B w0 W rs):
  Calls Tryz.prog 151 #[.int .i64 f] W fun e w'=> ∃L:Loc,e= .returned (.tuple #[L.ptr,.int .i64 0])∧L.f=f∧Upd [] W w'∧Own B w0 w' (slotR L (zbc f)::rs):=by
 refine (on_new f h1 h2 W).mono ?_;rintro e w' ⟨L,he,hf,hu,hM,hon⟩;exact ⟨L,he,hf,hu,h.new (r:=slotR L (zbc f)) hu (hon (Ms rs) (fun k hk=>Nat.lt_of_lt_of_le (h.lt k hk) hu.size)) hM⟩
theorem own_pre (h:Own B w0 W (slotR L st::rs)) (v:Value) (l:List Rq) (hb:Bat W v l) (hn:l.length≤100000):
  Calls Tryz.prog 217 #[L.ptr,v] W fun e w'=>e= .returned (.bool (!st.has))∧Upd L.M W w'∧Own B w0 w' (slotR L (if st.has then st else {st with has:=true,batch:=l})::rs):=by
 refine (on_pre (zmh h) v l hb hn).mono ?_;rintro e w' ⟨he,hu,hon⟩;exact ⟨he,hu,h.step (r':=slotR L _) hu hon (fun k hk=> .inl hk)⟩
theorem zz5 (h:Own B w0 W (slotR L st::rs)) (kind node sl:Int) (v:Value) (l:List Rq) (hb:Bat W v l) (hn:l.length≤100000):
  Calls Tryz.prog 264 #[L.ptr,.int .i64 kind,.int .i64 node,.int .i64 sl,v] W fun e w'=>e= .returned (.bool (zdl st kind node))∧Upd L.M W w'∧Own B w0 w' (slotR L (voteS st kind node sl l)::rs):=by
 refine (on_vote (zmh h) kind node sl v l hb hn).mono ?_;rintro e w' ⟨he,hu,hon⟩;exact ⟨he,hu,h.step (r':=slotR L _) hu hon (fun k hk=> .inl hk)⟩
theorem zvo (h:Own B w0 W (slotR L st::rs)):
  Calls Tryz.prog 214 #[L.ptr] W fun e w'=> ∃L':Loc,e= .returned (.tuple #[])∧L'.f=L.f∧L'.s=L.s∧Upd L.M W w'∧Own B w0 w' (slotR L' (zbc L.f)::rs):=by
 obtain ⟨D,h1,h2,h3⟩:=zmh h;refine (zs3 h1).mono ?_;rintro e w' ⟨bp,bc,he,hu,g1,g2,h4⟩;have hu':Upd L.M W w':=hu.mono (by intro k _ hk;simp at hk;simp [Loc.M,hk]);refine ⟨⟨L.s,bp,bc,3*L.f+1,3*L.f+1,L.f⟩,he,rfl,rfl,hu',h.step (r':=slotR ⟨L.s,bp,bc,3*L.f+1,3*L.f+1,L.f⟩ (zbc L.f)) hu' ⟨[],h4,by simp,fun k hk=>Nat.lt_of_lt_of_le (h3 k hk) hu.size⟩ (fun k hk=> ?_)⟩;simp [slotR,Loc.M] at hk⊢;omega
theorem zhd (h:Own B w0 W (slotR L st::rs)):
  Calls Tryz.prog 215 #[L.ptr] W fun e w'=> ∃u,e= .returned (.tuple #[u,.bool st.has])∧Upd [] W w'∧Bat w' u (zfb st)∧ ∀k∈blkOf u,W.heap.size≤k:=by
 refine (zvf (zmh h)).mono ?_;rintro e w' ⟨u,he,hu,_,hb,hn⟩;exact ⟨u,he,hu,hb,hn⟩
theorem zmi (h:Own B w0 W (slotR L st::rs)):
  Calls Tryz.prog 280 #[L.ptr] W fun e w'=> ∃u,e= .returned (.tuple #[u,.bool (zbo L.f st).isSome])∧Upd [] W w'∧Vts w' u ((zbo L.f st).getD [])∧ ∀k∈blkOf u,W.heap.size≤k:=by
 refine (zpj (zmh h)).mono ?_;rintro e w' ⟨u,he,hu,_,hb,hn⟩;exact ⟨u,he,hu,hb,hn⟩
theorem zko (h:Own B w0 W (slotR L st::rs)):
  Calls Tryz.prog 282 #[L.ptr] W fun e w'=> ∃v u,e= .returned (.tuple #[v,u,.bool (zaq L.f st).isSome])∧Upd [] W w'∧Bat w' v (zd8 (zaq L.f st))∧Vts w' u (zeo (zaq L.f st))∧(∀k∈blkOf v,W.heap.size≤k)∧ ∀k∈blkOf u,W.heap.size≤k:=by
 refine (zmf (zmh h)).mono ?_;rintro e w' ⟨v,u,he,hu,_,q1,q2,q3,q4⟩;exact ⟨v,u,he,hu,q1,q2,q3,q4⟩
end
end Go.Proofs.YtannckelmojkoaaGreat
namespace Go.Proofs.YtannckelmojkoaaGreat
open Go.ChangeShapes Go.WideShapes Go.ChangeAt Go.RowKit
theorem Tryz.own:ownKnob Tryz.prog.godebug=none:=by kernel_rfl
theorem Tryz.laidOut:laidOutB Tryz.prog=true:=by kernel_rfl
theorem zgf {H:Type} {enc:TypeId×Value→H} {P:Program} (hl:laidOutB P=true) {W W':World} (hb:Below W.heap.size W W'):
  ∀(ts:List TypeId) (vs:List Value) (ds:List (DataW H)) (ps:List MemPlace),(∀t∈ts,P.readableRec t=true∧t<P.types.size)→(∀x∈ps,x.block<W.heap.size)→
   DataW.TrodAll enc P W 0 (fun _=>true) true ts vs ds ps→DataW.TrodAll enc P W' 0 (fun b=>decide (b<W.heap.size)) true ts vs ds ps
 | [],[],[],_,_,_,h=>h
 | t::ts,v::vs,d::ds,ps,hr,hp,⟨p,q,h1,h2,he⟩=>by
  subst he;exact ⟨p,q,Below.trod hl (hr t (by simp)).1 (hr t (by simp)).2 h1 hb (fun x hx=>hp x (by simp [hx])),zgf hl hb ts vs ds q (fun t ht=>hr t (by simp [ht])) (fun x hx=>hp x (by simp [hx])) h2,rfl⟩
 | [],[],_::_,_,_,_,h=>h.elim
 | [],_::_,_,_,_,_,h=>by cases ‹List (DataW H)› <;>exact h.elim
 | _::_,[],_,_,_,_,h=>by cases ‹List (DataW H)› <;>exact h.elim
 | _::_,_::_,[],_,_,_,h=>h.elim
theorem law_post {H:Type} {enc:TypeId×Value→H} {P:Program} {f:Func} {s:ChangeSpec} (hl:laidOutB P=true) (hv:s.vars=[]) (tb:TypeId) (hres:f.resultTypes=#[tb]) (hu:P.underlying tb=some .bool)
  (hr: ∀t∈f.params.toList,P.readableRec t=true∧t<P.types.size) {W W':World} {args:Array Value} {ds gs:List (DataW H)} {before:List MemPlace} (hW:DataW.Whole enc P f.params.toList s.vars false W args.toList ds gs before)
  (hb:Below W.heap.size W W') (hfn:s.fn H (ds++gs)= {results:=[.lit (.bool true)],args:=ds}):s.post enc P f false true false false W args (.bool true) W':=by
 have hW0:=hW;obtain ⟨p,q,hA,hV,he,hz,hn⟩:=hW;rw [hv] at hV;obtain ⟨hgs,hq⟩:=trodVars_none hV;subst hgs;subst hq;subst he;rw [List.append_nil] at hz hW0;refine ⟨ds,[],p,[],p,[],hW0,?_,?_,?_,hb.frame _,fun h=>by cases h⟩
 ·rw [hfn,hres]
  exact trodAll_cons_mk (shut_bool hu _) trodAll_mk0
 ·rw [hfn]
  exact zgf hl hb _ _ _ _ hr (fun x hx=>hW0.lt x hx) hA
 ·rw [hv,hfn]
  rfl
end Go.Proofs.YtannckelmojkoaaGreat
namespace Go.Heap
open Go Go.ChangeShapes Go.WideShapes Go.ChangeAt Go.RowKit Go.Deep
theorem zc9 {α:Type} {cells:α→List Value} {sz:Nat} (hl: ∀x,(cells x).length=sz): ∀xs:List α,(xs.flatMap cells).length=xs.length*sz
 | []=>by simp
 | x::xs=>by rw [List.flatMap_cons,List.length_append,hl,zc9 hl xs,List.length_cons,Nat.succ_mul];omega
theorem flat_get {α:Type} {cells:α→List Value} {sz:Nat} (hl: ∀x,(cells x).length=sz): ∀(xs:List α) (i r:Nat) (x:α),xs[i]?=some x→r<sz→(xs.flatMap cells)[i*sz+r]?=(cells x)[r]?
 | [],i,r,x,h,_=>by simp at h
 | y::ys,0,r,x,h,hr=>by
  simp only [List.getElem?_cons_zero,Option.some.injEq] at h;subst h;rw [List.flatMap_cons,List.getElem?_append_left (by rw [hl];omega),Nat.zero_mul,Nat.zero_add]
 | y::ys,i+1,r,x,h,hr=>by
  rw [List.flatMap_cons,List.getElem?_append_right (by rw [hl,Nat.succ_mul];omega),hl];rw [show (i+1)*sz+r-sz=i*sz+r by rw [Nat.succ_mul];omega];exact flat_get hl ys i r x (by simpa using h) hr
section
variable {H:Type} {enc:TypeId×Value→H} {W:World} {P:Program} {base:Nat} {spare:Nat→Bool} {held:Bool}
end
end Go.Heap
namespace Go.Proofs.YtannckelmojkoaaGreat
open Go.RowKit Go.Heap
structure Cp where
 view:Int
 inst:Int
 seq:Int
 rs:List Rq
 vs:Vs
deriving DecidableEq
structure Pl where
 sl:Sl
 told:Bool
 has:Bool
 ct:Cp
 done:Bool
 dw:Cp
structure In where
 f:Nat
 num:Int
 ahead:Int
 view:Int
 on:Bool
 l:List Pl
def noCp:Cp:=⟨0,0,0,[],[]⟩
def zbg (f:Nat):Pl:=⟨zbc f,false,false,noCp,false,noCp⟩
def newI (f:Nat) (num ahead:Int):In:=⟨f,num,ahead,0,true,List.replicate 16 (zbg f)⟩
def In.upd (st:In) (k:Nat) (g:Pl→Pl):In:= {st with l:=st.l.modify k g}
def idx (seq:Int):Option Nat:=if 1≤seq∧seq≤16 then some (seq.toNat-1) else none
def plAt (st:In) (seq:Int):Option Pl:=(idx seq).bind fun k=>st.l[k]?
def doneI (st:In):Nat:=(st.l.takeWhile (·.done)).length
def slPre (rs:List Rq) (s:Sl):Sl:=if s.has then s else {s with has:=true,batch:=rs}
def voteB (st:In) (kind seq node:Int):Bool:=match plAt st seq with | none=>false | some p=>st.on&&zdl p.sl kind node
def voteI (st:In) (kind seq node sl:Int) (rs:List Rq):In:=
 match idx seq with
 | none=>st
 | some k=>if st.on then st.upd k fun p=> {p with sl:=voteS p.sl kind node sl rs} else st
def prepI (st:In) (seq:Int):Option Cp:=
 match plAt st seq with
 | none=>none
 | some p=>if st.on&& !p.told then (zbo st.f p.sl).map fun vs=>⟨st.view,st.num,seq,p.sl.batch,vs⟩ else none
def zbi (st:In) (seq:Int):In:=
 match idx seq,prepI st seq with
 | some k,some c=>st.upd k fun p=> {p with told:=true,has:=true,ct:=c}
 | _,_=>st
def commI (st:In) (seq:Int):Option Cp:=
 match plAt st seq with
 | none=>none
 | some p=>if p.done then none else (zaq st.f p.sl).map fun r=>⟨st.view,st.num,seq,r.1,r.2⟩
def zbk (st:In) (seq:Int):In:=
 match idx seq,commI st seq with
 | some k,some c=>st.upd k fun p=> {p with done:=true,dw:=c}
 | _,_=>st
def zbl (st:In) (seq:Int):Option Cp:=match plAt st seq with | none=>none | some p=>if p.done then some p.dw else none
def zh3 (st:In) (v:Int):Bool:=decide (st.view<v)&&decide (v≤12)
def zev (st:In) (v:Int):In:=if zh3 st v then {st with view:=v,on:=false,l:=st.l.map fun p=> {p with sl:=zbc st.f,told:=false}} else st
def instB (st:In) (n:Nat):Bool:= !st.on&&decide (n≤16)
def zb6:List (List Rq)→List Pl→List Pl
 | b::bs,p::ps=> {p with sl:=slPre b p.sl}::zb6 bs ps
 | _,ps=>ps
def zcc (st:In) (bs:List (List Rq)):In:=if instB st bs.length then {st with on:=true,l:=zb6 bs st.l} else st
def ziy (st:In):List Cp:=(st.l.filter (·.has)).map (·.ct)
def zbj (st:In) (seq:Int):List Rq×Bool:=match plAt st seq with | none=>([],false) | some p=>(zfb p.sl,p.sl.has)
def zfd:List Pl→Nat
 | []=>0
 | p::l=>if 0<zfd l then zfd l+1 else if p.sl.has then 1 else 0
def nextI (st:In):Nat:=zfd st.l+1
theorem zg5: ∀(l:List Pl) (k:Nat),k≤l.length→(∀j (hj:j<l.length),k≤j→l[j].sl.has=false)→(∀j (hj:j<l.length),k=j+1→l[j].sl.has=true)→zfd l=k
 | [],k,h,_,_=>by simp at h;subst h;rfl
 | p::l,k,h,h1,h2=>by
  match k with
  | 0=>
   have e:=zg5 l 0 (by simp) (fun j hj _=>h1 (j+1) (by simpa using hj) (by omega)) (fun j _ e=>by omega);have:=h1 0 (by simp) (by omega);simp at this;simp [zfd,e,this]
  | k+1=>
   have e:=zg5 l k (by simpa using h) (fun j hj hk=>h1 (j+1) (by simpa using hj) (by omega)) (fun j hj e=>h2 (j+1) (by simpa using hj) (by omega));by_cases hk:k=0
   ·subst hk
    have:=h2 0 (by simp) rfl;simp at this;simp [zfd,e,this]
   ·simp [zfd,e];omega
theorem zo8 {seq:Int} {k:Nat} (h:idx seq=some k):k<16∧seq=(k:Int)+1:=by
 unfold idx at h;split at h
 ·simp only [Option.some.injEq] at h;omega
 ·cases h
theorem idx_of {seq:Int} (h1:1≤seq) (h2:seq≤16):idx seq=some (seq.toNat-1):=by unfold idx;rw [if_pos ⟨h1,h2⟩]
theorem zi7 {seq:Int} (h:idx seq=none):seq<1∨16<seq:=by
 unfold idx at h;split at h
 ·cases h
 ·omega
structure Ct where
 view:Int
 inst:Int
 seq:Int
 vb:Value
 vv:Value
 rs:List Rq
 vs:Vs
def Ct.cp (c:Ct):Cp:=⟨c.view,c.inst,c.seq,c.rs,c.vs⟩
def zag (c:Ct):List Value:=[.int .i64 c.view,.int .i64 c.inst,.int .i64 c.seq,c.vb,c.vv]
abbrev ctAgg (c:Ct):Value:= .agg #[.int .i64 c.view,.int .i64 c.inst,.int .i64 c.seq,c.vb,c.vv]
structure Pm where
 lc:Loc
 sl:Sl
 told:Bool
 has:Bool
 ct:Ct
 done:Bool
 dw:Ct
def Pm.pl (p:Pm):Pl:=⟨p.sl,p.told,p.has,p.ct.cp,p.done,p.dw.cp⟩
def zal (p:Pm):List Value:=[p.lc.ptr,.bool p.told,.bool p.has,.int .i64 p.ct.view,.int .i64 p.ct.inst,.int .i64 p.ct.seq,p.ct.vb,p.ct.vv,.bool p.done,.int .i64 p.dw.view,.int .i64 p.dw.inst,.int .i64 p.dw.seq,p.dw.vb,p.dw.vv]
structure Ins where
 i:Nat
 b:Nat
 cap:Nat
 f:Nat
 num:Int
 ahead:Int
 view:Int
 on:Bool
 l:List Pm
def Ins.st (x:Ins):In:=⟨x.f,x.num,x.ahead,x.view,x.on,x.l.map Pm.pl⟩
abbrev Ins.ptr (x:Ins):Value:= .pointer (some ⟨x.i,0,none⟩)
abbrev insO (f:Nat) (num ahead view:Int) (on:Bool) (v:Value):Obj:= .cells #[.int .i64 f,.int .i64 num,.int .i64 ahead,.int .i64 view,.bool on,v] 214 (0,0)
abbrev Ins.o (x:Ins):Obj:=insO x.f x.num x.ahead x.view x.on (.slice (some ⟨x.b,0,none⟩) 16 x.cap)
def VtsIn (w:World) (v:Value) (l:Vs) (D:List Nat):Prop:=zat w v 2 l.length (zaf l) D
structure CtIn (w:World) (c:Ct) (D:List Nat):Prop where
 b:BatIn w c.vb c.rs D
 bn:c.rs.length≤100000
 v:VtsIn w c.vv c.vs D
 vn:c.vs.length≤100000
theorem CtIn.dep {w w':World} {c:Ct} {D:List Nat} (h:CtIn w c D) (hk: ∀k∈D,w'.heap[k]?=w.heap[k]?) (hs:w.heap.size≤w'.heap.size):CtIn w' c D:=⟨zat.dep h.b hk hs,h.bn,zat.dep h.v hk hs,h.vn⟩
theorem CtIn.mono {w:World} {c:Ct} {D D':List Nat} (h:CtIn w c D) (hs: ∀k∈D,k∈D'):CtIn w c D':=⟨zat.mono h.b hs,h.bn,zat.mono h.v hs,h.vn⟩
structure InsOk (x:Ins):Prop where
 n:x.l.length=16
 f1:1≤x.f
 f2:x.f≤4
 lf: ∀p∈x.l,p.lc.f=x.f
 c1:16≤x.cap
 a1:1≤x.ahead
 a2:x.ahead≤16
 vw:0≤x.view∧x.view≤12
def zdj (x:Ins):Res:=imm (fun w D=>InsOk x∧ ∀p∈x.l,CtIn w p.ct D∧CtIn w p.dw D) (fun h hk hs=>⟨h.1,fun p hp=>⟨(h.2 p hp).1.dep hk hs,(h.2 p hp).2.dep hk hs⟩⟩)
def pmR (p:Pm):Res:=slotR p.lc p.sl
def insHd (x:Ins):List Res:=[blk x.i x.o,segR x.b 241 (x.l.flatMap zal),zdj x]
def instR (x:Ins):Res:=joinR (insHd x++x.l.map pmR)
section
variable {B:Nat} {w0 W W':World} {ss:List Res} {x:Ins}
abbrev OwnI (B:Nat) (w0 W:World) (x:Ins) (ss:List Res):Prop:=Own B w0 W (insHd x++(x.l.map pmR++ss))
theorem zcg (h:Own B w0 W (instR x::ss)):OwnI B w0 W x ss:=by
 have:=Own.open h
 rwa [List.append_assoc] at this
theorem zcp (h:OwnI B w0 W x ss):Own B w0 W (instR x::ss):=by
 have h2:Own B w0 W ((insHd x++x.l.map pmR)++ss):=by rwa [List.append_assoc]
 exact h2.shut
theorem oi_ok (h:OwnI B w0 W x ss):InsOk x:=by
 obtain ⟨D,⟨⟨h1,_⟩,_⟩,_,_⟩:=(h.all (zdj x) (by simp [insHd])).1;exact h1
theorem own_ok (h:Own B w0 W (instR x::ss)):InsOk x:=oi_ok (zcg h)
theorem zvd (h:OwnI B w0 W x ss):W.heap[x.i]?=some x.o:=blk_out (h.all (blk x.i x.o) (by simp [insHd])).1
theorem zcd (h:OwnI B w0 W x ss):W.cell? ⟨x.i,0,none⟩=some (.int .i64 x.f)∧W.cell? ⟨x.i,1,none⟩=some (.int .i64 x.num)∧W.cell? ⟨x.i,2,none⟩=some (.int .i64 x.ahead)∧W.cell? ⟨x.i,3,none⟩=some (.int .i64 x.view)∧
  W.cell? ⟨x.i,4,none⟩=some (.bool x.on)∧W.cell? ⟨x.i,5,none⟩=some (.slice (some ⟨x.b,0,none⟩) 16 x.cap)∧x.i<W.heap.size∧x.b<W.heap.size:=by
 have hb:=zvd h;exact ⟨by rw [zac hb];rfl,by rw [zac hb];rfl,by rw [zac hb];rfl,by rw [zac hb];rfl,by rw [zac hb];rfl,by rw [zac hb];rfl,block_lt hb,
  (zez (h.all (segR x.b 241 (x.l.flatMap zal)) (by simp [insHd])).1).1⟩
theorem zyu (l:List Pm) (k r:Nat) (hk:k<l.length) (hr:r<14):(l.flatMap zal)[k*14+r]?=(zal l[k])[r]?∧k*14+r<(l.flatMap zal).length:=by
 have hl:(l.flatMap zal).length=l.length*14:=zc9 (cells:=zal) (sz:=14) (fun _=>rfl) l;exact ⟨flat_get (cells:=zal) (sz:=14) (fun _=>rfl) l k r l[k] (by simp) hr,by rw [hl];omega⟩
theorem oi_at (h:OwnI B w0 W x ss) (k:Nat) (hk:k<x.l.length) (r:Nat) (hr:r<14):W.cell? ⟨x.b,k*14+r,none⟩=(zal x.l[k])[r]?:=by
 obtain ⟨-,h2,-⟩:=zez (h.all (segR x.b 241 (x.l.flatMap zal)) (by simp [insHd])).1;obtain ⟨e1,e2⟩:=zyu x.l k r hk hr;rw [h2 _ e2,e1]
theorem oi_fz (h:OwnI B w0 W x ss):(∀o,W.frozen? ⟨x.b,o,none⟩=false)∧ ∀o,W.frozen? ⟨x.i,o,none⟩=false:=
 ⟨(zez (h.all (segR x.b 241 (x.l.flatMap zal)) (by simp [insHd])).1).2.2,fun o=>zab (zvd h) o⟩
theorem zex (h:OwnI B w0 W x ss) (k:Nat) (hk:k<x.l.length):Own B w0 W (pmR x.l[k]::(insHd x++((x.l.eraseIdx k).map pmR++ss))):=Own.pick h k hk
theorem zjd (k:Nat) (hk:k<x.l.length) (p:Pm) (h:Own B w0 W (pmR p::(insHd x++((x.l.eraseIdx k).map pmR++ss)))) (hc:zal p=zal x.l[k]) (hct:p.ct=x.l[k].ct∧p.dw=x.l[k].dw) (hf:p.lc.f=x.l[k].lc.f):
  OwnI B w0 W {x with l:=x.l.set k p} ss:=by
 have h1:=Own.unpick (f:=pmR) (x:=p) k hk h;have hcells:(x.l.set k p).flatMap zal=x.l.flatMap zal:=by
  apply List.ext_getElem?;intro j;have hl:(x.l.flatMap zal).length=x.l.length*14:=zc9 (cells:=zal) (sz:=14) (fun _=>rfl) x.l;have hl':((x.l.set k p).flatMap zal).length=x.l.length*14:=by rw [zc9 (cells:=zal) (sz:=14) (fun _=>rfl)];simp
  by_cases hj:j<x.l.length*14
  ·have h0:j/14<x.l.length:=by omega
   have e1:=(zyu x.l (j/14) (j%14) h0 (by omega)).1;have e2:=(zyu (x.l.set k p) (j/14) (j%14) (by simpa using h0) (by omega)).1;rw [show j/14*14+j%14=j by omega] at e1 e2;rw [e1,e2];by_cases hjk:k=j/14
   ·subst hjk
    rw [List.getElem_set_self,hc]
   ·rw [List.getElem_set_ne hjk]
  ·rw [List.getElem?_eq_none (by omega),List.getElem?_eq_none (by omega)]
 have hcr:Own B w0 W (insHd {x with l:=x.l.set k p}++((x.l.set k p).map pmR++ss)):=by
  have h2:Own B w0 W (zdj x::blk x.i x.o::segR x.b 241 (x.l.flatMap zal)::((x.l.set k p).map pmR++ss)):=h1.perm (List.perm_middle (l₁:=[_,_]));have h3:=h2.alter (r':=zdj {x with l:=x.l.set k p}) (by
   obtain ⟨D,⟨⟨q1,q2⟩,q3⟩,q4,q5⟩:=h2.head;refine ⟨D,⟨⟨⟨by simpa using q1.n,q1.f1,q1.f2,fun p' hp'=> ?_,q1.c1,q1.a1,q1.a2,q1.vw⟩,fun p' hp'=> ?_⟩,q3⟩,q4,q5⟩
   ·rcases List.mem_or_eq_of_mem_set hp' with hp' | rfl
    ·exact q1.lf p' hp'
    ·rw [hf];exact q1.lf _ (by simp)
   ·rcases List.mem_or_eq_of_mem_set hp' with hp' | rfl
    ·exact q2 p' hp'
    ·rw [hct.1,hct.2];exact q2 _ (by simp)) (by simp [zdj,imm])
  have h4:Own B w0 W ([blk x.i x.o,segR x.b 241 (x.l.flatMap zal),zdj {x with l:=x.l.set k p}]++((x.l.set k p).map pmR++ss)):=h3.perm (List.perm_middle (l₁:=[_,_])).symm;unfold insHd;rw [hcells];exact h4
 exact hcr
end
theorem at_no (i b cap:Nat) (seq:Int) (w:World) (h:seq<1∨16<seq) (h5:w.cell? ⟨i,5,none⟩=some (.slice (some ⟨b,0,none⟩) 16 cap)):
  Calls Tryz.prog 195 #[.pointer (some ⟨i,0,none⟩),.int .i64 seq] w fun e w'=>e= .returned (.pointer none)∧w=w':=by
 by_cases h1:seq<1
 ·have hb:decide (seq<1)=true:=by simp;omega
  go_enter Tryz.func195,Tryz.ntmps195
  go_wp2_with fail
  go_ret
  exact ⟨rfl,rfl⟩
 ·have hb:decide (seq<1)=false:=by simp;omega
  have h2:16<seq:=by omega
  go_enter Tryz.func195,Tryz.ntmps195
  go_wp2_with fail
  go_ret
  exact ⟨rfl,rfl⟩
theorem ztv (i b cap:Nat) (seq:Int) (w:World) (h1:1≤seq) (h2:seq≤16) (h5:w.cell? ⟨i,5,none⟩=some (.slice (some ⟨b,0,none⟩) 16 cap)):
  Calls Tryz.prog 195 #[.pointer (some ⟨i,0,none⟩),.int .i64 seq] w fun e w'=>e= .returned (.pointer (some ⟨b,(seq.toNat-1)*14,none⟩))∧w=w':=by
 have hb:decide (seq<1)=false:=by simp;omega
 have hb2:decide (16<seq)=false:=by simp;omega
 go_enter Tryz.func195,Tryz.ntmps195
 go_wp2_with fail
 go_ret
 exact ⟨rfl,rfl⟩
theorem zs8 (l:List Pl) (n:Nat) (h: ∀j (hj:j<l.length),j<n→l[j].done=true) (hn:n≤l.length) (he: ∀(hj:n<l.length),l[n].done=false):(l.takeWhile (·.done)).length=n:=by
 induction l generalizing n with
 | nil=>simp at hn;simp [hn]
 | cons p l ih=>
  match n with
  | 0=>
   have:=he (by simp);simp at this;simp [List.takeWhile,this]
  | n+1=>
   have hp:=h 0 (by simp) (by omega);simp at hp;rw [List.takeWhile_cons,if_pos hp,List.length_cons,ih n (fun j hj hjn=>by have:=h (j+1) (by simp;omega) (by omega);simpa using this) (by simpa using hn) (fun hj=>by have:=he (by simp;omega);simpa using this)]
section
variable {B:Nat} {w0 W W':World} {ss:List Res} {x:Ins}
theorem zxl (h:OwnI B w0 W x ss) (k:Nat) (hk:k<x.l.length):W.cell? ⟨x.b,k*14+8,none⟩=some (.bool x.l[k].done):=oi_at h k hk 8 (by omega)
theorem zxm (h:OwnI B w0 W x ss) (k:Nat) (hk:k<x.l.length):W.cell? ⟨x.b,k*14+1,none⟩=some (.bool x.l[k].told):=oi_at h k hk 1 (by omega)
theorem zkm (h:OwnI B w0 W x ss) (k:Nat) (hk:k<x.l.length):W.cell? ⟨x.b,k*14,none⟩=some x.l[k].lc.ptr:=oi_at h k hk 0 (by omega)
def DoneP (w:World) (n:Nat) (e:Ending) (w':World):Prop:=e= .returned (.int .i64 n)∧w=w'
theorem zud (h:OwnI B w0 W x ss):Calls Tryz.prog 156 #[x.ptr] W (DoneP W (doneI x.st)):=by
 obtain ⟨c0,c1,c2,c3,c4,c5,l1,l2⟩:=zcd h;have hn:=(oi_ok h).n;have HN:=zq hn;have HD:=zq (fun n h1 h2 h3=>zs8 (x.l.map Pm.pl) n h1 h2 h3);have H:=zq h;clear h c0 c1 c2 c3 c4 hn;go_enter Tryz.func156,Tryz.ntmps156
 go_wp2_with fail
 go_loop [3] (fun n=> ∃k:Nat,k≤16∧n= .int .i64 k∧Hid (∀j (hj:j<x.l.length),j<k→x.l[j].done=true)) (fun n=>16-(intOf n).toNat)
 case atStart=>exact ⟨0,by omega,rfl,zq (by intro j _ hj;omega)⟩
 case round=>
  obtain ⟨k,hk,rfl,HA⟩:=hrel;by_cases hlt:k<16
  ·have hkI:(k:Int)<16:=by omega
   have hkl:k<x.l.length:=by rw [HN.out];exact hlt
   have cd:=zxl H.out k hkl;cases hd:x.l[k].done
   ·rw [hd] at cd
    have HDK:=zq hd;clear hd
    go_wp2_with fail
    go_ret
    refine ⟨zgb ?_,rfl⟩;rw [show doneI x.st=k from HD.out k (fun j hj hjk=>by simpa [Pm.pl] using HA.out j (by simpa using hj) hjk) (by simp;omega) (fun hj=>by simpa [Pm.pl] using HDK.out)]
   ·rw [hd] at cd
    have HDK:=zq hd;clear hd
    go_wp2_with fail
    go_round
    case rel=>
     refine ⟨k+1,by omega,by go_num,zq (fun j hj hjk=> ?_)⟩;by_cases e:j=k
     ·subst e;exact HDK.out
     ·exact HA.out j hj (by omega)
    case measure=>simp [intOf];omega
  ·have hk16:k=16:=by omega
   subst hk16
   go_wp2_with fail
   go_ret
   refine ⟨zgb ?_,rfl⟩;rw [show doneI x.st=16 from HD.out 16 (fun j hj hjk=>by simpa [Pm.pl] using HA.out j (by simpa using hj) hjk) (by simp [HN.out]) (fun hj=>by simp [HN.out] at hj)];rfl
theorem zy4 (h:Own B w0 W (instR x::ss)) {i:Nat} (hi:x.i=i):Calls Tryz.prog 156 #[.pointer (some ⟨i,0,none⟩)] W (DoneP W (doneI x.st)):=by
 subst hi;exact zud (zcg h)
theorem zkh (h:Own B w0 W (instR x::ss)) {i:Nat} (hi:x.i=i):Calls Tryz.prog 73 #[.pointer (some ⟨i,0,none⟩)] W fun e w'=>e= .returned (.bool x.on)∧W=w':=by
 subst hi;obtain ⟨c0,c1,c2,c3,c4,c5,l1,l2⟩:=zcd (zcg h);clear h c0 c1 c2 c3 c5;go_enter Tryz.func73,Tryz.ntmps73
 go_wp2_with fail
 go_ret
 exact ⟨rfl,rfl⟩
end
end Go.Proofs.YtannckelmojkoaaGreat
