/- Parts of the proof, one behind the other. -/
import Derived.Test.YtannckelmojkoaaGreatVwsB2
import Derived.Test.YtannckelmojkoaaGreatRows
import Derived.Deep.QuietTactic
import Derived.BigQuiet
import Derived.Deep.RegionWith
set_option maxHeartbeats 32000000
set_option maxRecDepth 100000
set_option linter.unusedVariables false
set_option linter.unusedSimpArgs false
namespace Go.Proofs.YtannckelmojkoaaGreat
open Go.RowKit Go.Heap
section
variable {B:Nat} {w0 W W':World} {ss:List Res}
theorem zdn {b:Nat} {T:TypeId} {cs:Array Value} {vals:List Value} (h:Own B w0 W (blk b (.cells cs T (0,0))::ss)) (e:cs.toList=vals):Own B w0 W (segR b T vals::ss):=by
 subst e;exact h.alter ⟨[],⟨⟨cs,h.blk_out,by simp,fun j hj=>by simp⟩,rfl⟩,by simp,fun k hk=>h.lt k hk⟩ (fun k hk=>hk)
def zgc (r:Int×Int):List Value:=[.int .i64 r.1,.int .i64 r.2]
theorem zzl:(madeCells #[.int .i64 0,.int .i64 0] (0*2)).toList=(List.replicate 0 ((0:Int),(0:Int))).flatMap zgc:=by kernel_rfl
theorem zzm:(madeCells #[.int .i64 0,.int .i64 0] (1*2)).toList=(List.replicate 1 ((0:Int),(0:Int))).flatMap zgc:=by kernel_rfl
theorem zzn:(madeCells #[.int .i64 0,.int .i64 0] (2*2)).toList=(List.replicate 2 ((0:Int),(0:Int))).flatMap zgc:=by kernel_rfl
theorem zzo:(madeCells #[.int .i64 0,.int .i64 0] (3*2)).toList=(List.replicate 3 ((0:Int),(0:Int))).flatMap zgc:=by kernel_rfl
theorem zzp:(madeCells #[.int .i64 0,.int .i64 0] (4*2)).toList=(List.replicate 4 ((0:Int),(0:Int))).flatMap zgc:=by kernel_rfl
theorem made_rp (n:Nat) (h:n≤4):(madeCells #[.int .i64 0,.int .i64 0] (n*2)).toList=(List.replicate n ((0:Int),(0:Int))).flatMap zgc:=by
 have:n=0∨n=1∨n=2∨n=3∨n=4:=by omega
 rcases this with rfl | rfl | rfl | rfl | rfl
 ·exact zzl
 ·exact zzm
 ·exact zzn
 ·exact zzo
 ·exact zzp
theorem Tryz.infoRp:(Tryz.prog.info? 286).map (fun i=>(i.zero,i.size,i.bytes))=some (some (.agg #[.int .i64 0,.int .i64 0]),2,16):=by kernel_rfl
theorem zps (n:Nat) (h2:n≤4) (wx:World):(Instr.makeSlice 287 (.int .i64 n) (.int .i64 n)).run Tryz.prog wx= .ok (.slice (some ⟨wx.heap.size,0,none⟩) n n) (wx.alloc (.cells (madeCells #[.int .i64 0,.int .i64 0] (n*2)) 286)):=by
 obtain ⟨i0,hi,hz0,hz1,hz2⟩:=info_parts Tryz.infoRp;have:=run_make (P:=Tryz.prog) wx 287 286 i0 _ Tryz.underlying287 hi hz0 .i64 .i64 (n:Int) (n:Int) (by omega) (by omega) (by rw [hz2];omega) (by omega);rw [show (n:Int).toNat=n by omega,hz1] at this;exact this
def chR (p g:Nat) (cap:Nat) (l:List (Int×Int)):List Res:=[blk p (.cells #[.slice (some ⟨g,0,none⟩) l.length cap] 289 (0,0)),segR g 286 (l.flatMap zgc)]
theorem zty (n:Nat) (h1:1≤n) (h4:n≤4) (h:Own B w0 W ss):Calls Tryz.prog 152 #[.int .i64 n] W fun e w'=> ∃p g,e= .returned (.tuple #[.pointer (some ⟨p,0,none⟩),.int .i64 0])∧Own B w0 w' (chR p g n (List.replicate n (0,0))++ss):=by
 have H:=zq h;clear h;have hmk:=fun wx=>zps n h4 wx;go_enter Tryz.func152,Tryz.ntmps152
 go_wp2
 go_ret2
 refine ⟨W.heap.size+1,W.heap.size,rfl,?_⟩;have h1:=(zdn (H.out.box (.cells (madeCells #[.int .i64 0,.int .i64 0] (n*2)) 286)) (made_rp n h4)).box (.cells #[.slice (some ⟨W.heap.size,0,none⟩) n n] 289 (0,0))
 simpa [chR] using h1
theorem Tryz.infocv:(Tryz.prog.info? 320).map (fun i=>(i.zero,i.size,i.bytes))=some (some (.agg #[.bool false,.int .i64 0,.int .i64 0]),3,24):=by kernel_rfl
theorem Tryz.infocx:(Tryz.prog.info? 269).map (fun i=>(i.zero,i.size,i.bytes))=some (some (.complex .f64 0 0),1,16):=by kernel_rfl
theorem Tryz.infoi17:(Tryz.prog.info? 3).map (fun i=>(i.zero,i.size,i.bytes))=some (some (.int .i64 0),1,8):=by kernel_rfl
theorem zmv (wx:World):(Instr.makeSlice 69 (.int .i64 17) (.int .i64 17)).run Tryz.prog wx= .ok (.slice (some ⟨wx.heap.size,0,none⟩) 17 17) (wx.alloc (.cells (madeCells #[.int .i64 0] (17*1)) 3)):=by
 obtain ⟨i0,hi,hz0,hz1,hz2⟩:=info_parts Tryz.infoi17;have:=run_make (P:=Tryz.prog) wx 69 3 i0 _ Tryz.underlying69 hi hz0 .i64 .i64 (17:Int) (17:Int) (by omega) (by omega) (by rw [hz2];omega) (by omega);rw [show (17:Int).toNat=17 by omega,hz1] at this;exact this
theorem Tryz.infopt:(Tryz.prog.info? 260).map (fun i=>(i.zero,i.size,i.bytes))=some (some (.agg #[.int .i64 0,.int .i64 0,.slice none 0 0,.slice none 0 0,.int .i64 0]),5,72):=by kernel_rfl
theorem Tryz.infobg:(Tryz.prog.info? 262).map (fun i=>(i.zero,i.size,i.bytes))=some (some (.agg #[.int .i64 0,.int .i64 0,.int .i64 0,.int .i64 0,.int .i64 0,.int .i64 0,.int .i64 0,.slice none 0 0,.slice none 0 0,.slice none 0 0,.slice none 0 0]),11,152):=by kernel_rfl
theorem zkl (h:Own B w0 W ss):Calls Tryz.prog 31 #[] W fun e w'=> ∃(p m:Nat),e= .returned (.pointer (some ⟨p,0,none⟩))∧Own B w0 w' (blk p (.cells #[.map (some m)] 152 (0,0))::blk m (.map #[] 0)::ss):=by
 have H:=zq h;clear h;have hmm:=@run_makeMap Tryz.prog;go_enter Tryz.func31,Tryz.ntmps31
 go_wp2
 go_ret
 exact ⟨W.heap.size+1,W.heap.size,rfl,(H.out.box _).boxAt _ (by simp)⟩
end
theorem zgb {k:IntKind} {a b:Int} (h:a=b):Ending.returned (.int k a)= .returned (.int k b):=by rw [h]
theorem zae {a b:Bool} (h:a=b):Ending.returned (.bool a)= .returned (.bool b):=by rw [h]
structure Rq where
 client:Int
 time:Int
 kind:Int
 key:Int
 val:Int
 sl:Int
deriving DecidableEq
def zbh (r:Rq):List Value:=[.int .i64 r.client,.int .i64 r.time,.int .i64 r.kind,.int .i64 r.key,.int .i64 r.val,.int .i64 r.sl]
def zak (rs:List Rq):List Value:=rs.flatMap zbh
theorem zey (rs:List Rq):(zak rs).length=rs.length*6:=by
 induction rs with
 | nil=>rfl
 | cons p ps ih=>simp only [zak,List.flatMap_cons,List.length_append] at*;rw [ih];simp [zbh];omega
theorem zmp (rs:List Rq): ∀k p,rs[k]?=some p→(zak rs)[k*6]?=some (.int .i64 p.client)∧(zak rs)[k*6+1]?=some (.int .i64 p.time)∧(zak rs)[k*6+2]?=some (.int .i64 p.kind)∧
  (zak rs)[k*6+3]?=some (.int .i64 p.key)∧(zak rs)[k*6+4]?=some (.int .i64 p.val)∧(zak rs)[k*6+5]?=some (.int .i64 p.sl):=by
 induction rs with
 | nil=>intro k p h;simp at h
 | cons q rs ih=>
  intro k p h
  match k with
  | 0=>simp at h;subst h;exact ⟨rfl,rfl,rfl,rfl,rfl,rfl⟩
  | k+1=>
   have:=ih k p (by simpa using h);rw [show (k+1)*6=k*6+6 by omega];exact this
theorem zdh (rs:List Rq): ∀u∈zak rs,u.oneCell'=true:=by
 intro u hu;simp only [zak,List.mem_flatMap] at hu;obtain ⟨r,_,h⟩:=hu;simp only [zbh,List.mem_cons,List.not_mem_nil,or_false] at h;rcases h with rfl | rfl | rfl | rfl | rfl | rfl<;>rfl
def Bat (w:World) (v:Value) (rs:List Rq):Prop:=Reads w v 6 rs.length (zak rs)
theorem Tryz.infoReq:(Tryz.prog.info? 38).map (fun i=>(i.zero,i.size,i.bytes))=some (some (.agg #[.int .i64 0,.int .i64 0,.int .i64 0,.int .i64 0,.int .i64 0,.int .i64 0]),6,48):=by kernel_rfl
theorem zgl (v:Value) (rs:List Rq) (w:World) (hn:rs.length≤100000) (h:Bat w v rs):
  Calls Tryz.prog 252 #[v] w fun e w'=> ∃v',e= .returned v'∧Upd [] w w'∧Bat w' v' rs∧ ∀k∈blkOf v',w.heap.size≤k∧k<w'.heap.size:=by
 obtain ⟨i0,hi,hz0,hz1,hz2⟩:=info_parts Tryz.infoReq;have h':=h;obtain ⟨ao,cap,rfl,h1,h2,h3,h4,h5⟩:=h';clear h1 h2 h3;cases ao with
 | none=>
  obtain ⟨hr,rfl⟩:=h4 rfl;have:rs=[]:=List.eq_nil_of_length_eq_zero hr;subst this;clear hr h4 h5;go_enter Tryz.func252,Tryz.ntmps252
  go_wp2
  go_ret
  exact ⟨_,rfl,Upd.refl _ _,Reads.nil _ _,by simp [blkOf]⟩
 | some a=>
  clear h4;by_cases h0:rs.length=0
  ·have:rs=[]:=List.eq_nil_of_length_eq_zero h0
   subst this;clear h5 h0;go_enter Tryz.func252,Tryz.ntmps252
   go_wp2
   go_ret
   exact ⟨_,rfl,Upd.refl _ _,Reads.nil _ _,by simp [blkOf]⟩
  ·obtain ⟨b,o,hab,hb,hc⟩:=h5 (by omega)
   simp only [Option.some.injEq] at hab;subst hab;clear h5;have hpos:0<rs.length:=by omega
   clear h0;have hnews: ∀j u,(zak rs)[j]?=some u→w.cell? ((⟨b,o,none⟩:Addr).add j)=some u:=by
    intro j u hj;have hl:=(List.getElem?_eq_some_iff.1 hj).1;rw [zey] at hl;have:(⟨b,o,none⟩:Addr).add j=⟨b,o+j,none⟩:=by unfold Addr.add;split<;>simp_all
    rw [this,hc j hl];exact hj
   have HN:=zq hnews;clear hc hnews;go_enter Tryz.func252,Tryz.ntmps252
   go_wp2_with (at_builtin;refine wpList_append_lies _ rfl (.const (.slice none 0 0)) (.tmp 3) 39 rfl w.heap.size 38 i0 (.agg #[.int .i64 0,.int .i64 0,.int .i64 0,.int .i64 0,.int .i64 0,.int .i64 0]) 6 48 Tryz.underlying39 hi hz0 hz1 hz2 rfl (by decide) _ 0 [] rfl (World.ownsRow_nil _ _ _ _) ⟨b,o,none⟩ rs.length cap (zak rs) rfl (zey rs) HN.out (zdh rs) hpos ?c3 ?c4 (Nat.le_refl _) w.heap.size rfl ?c6)
   case c3=>unfold maxLen;omega
   case c4=>omega
   case c6=>
    intro g cap2 w2 hown hgrow hat hlt;have hg:g=w.heap.size:=by
     rcases hat with h | h
     ·cases h
     ·exact h
    subst hg;try simp only [Nat.zero_add,List.nil_append] at hown
    have HO:=zq hown;clear hown hat
    go_wp2
    go_ret
    refine ⟨_,rfl,(Upd.refl _ _).grown hgrow (by intro k hk;cases hk),Reads.of_own HO.out,by simp [blkOf];exact hlt⟩
def rqAgg (r:Rq):Value:= .agg #[.int .i64 r.client,.int .i64 r.time,.int .i64 r.kind,.int .i64 r.key,.int .i64 r.val,.int .i64 r.sl]
theorem Tryz.guardReq:Tryz.prog.eqGuardType Tryz.prog.depth 38=false:=by kernel_rfl
theorem zdo (r s:Rq) (w:World):(Op.equalIn 10000 38 (rqAgg r) (rqAgg s)).run Tryz.prog w= .ok (decide (r=s)) w:=by
 obtain ⟨a,b,c,d,e,f⟩:=r;obtain ⟨a',b',c',d',e',f'⟩:=s;simp [rqAgg,go_sem];by_cases h1:a=a'
 ·by_cases h2:b=b'
  ·by_cases h3:c=c'
   ·by_cases h4:d=d'
    ·by_cases h5:e=e'
     ·by_cases h6:f=f'<;>simp [*]
     ·simp [*]
    ·simp [*]
   ·simp [*]
  ·simp [*]
 ·simp [*]
theorem addr_add (b o j:Nat):(⟨b,o,none⟩:Addr).add j=⟨b,o+j,none⟩:=by unfold Addr.add;split<;>simp_all
theorem zb4 {w:World} {b o:Nat} {rs:List Rq} (hc: ∀j,j<rs.length*6→w.cell? ⟨b,o+j,none⟩=(zak rs)[j]?) (k:Nat) (p:Rq) (hp:rs[k]?=some p):
  w.cell? ⟨b,o+k*6,none⟩=some (.int .i64 p.client)∧w.cell? ⟨b,o+k*6+1,none⟩=some (.int .i64 p.time)∧w.cell? ⟨b,o+k*6+2,none⟩=some (.int .i64 p.kind)∧
  w.cell? ⟨b,o+k*6+3,none⟩=some (.int .i64 p.key)∧w.cell? ⟨b,o+k*6+4,none⟩=some (.int .i64 p.val)∧w.cell? ⟨b,o+k*6+5,none⟩=some (.int .i64 p.sl):=by
 have hk:=(List.getElem?_eq_some_iff.1 hp).1;obtain ⟨e0,e1,e2,e3,e4,e5⟩:=zmp rs k p hp;refine ⟨?_,?_,?_,?_,?_,?_⟩
 ·exact (hc _ (by omega)).trans e0
 ·exact (hc (k*6+1) (by omega)).trans e1
 ·exact (hc (k*6+2) (by omega)).trans e2
 ·exact (hc (k*6+3) (by omega)).trans e3
 ·exact (hc (k*6+4) (by omega)).trans e4
 ·exact (hc (k*6+5) (by omega)).trans e5
theorem zcm {w wr:World} {b o n:Nat} {xs:List Value} {B:Nat} (hb:Below B w wr) (hlt:b<B) (hc: ∀j,j<n→w.cell? ⟨b,o+j,none⟩=xs[j]?): ∀j,j<n→wr.cell? ⟨b,o+j,none⟩=xs[j]?:=
 fun j hj=>(hb.cell (p:=⟨b,o+j,none⟩) hlt).trans (hc j hj)
theorem take_same {α:Type} {rs ss:List α} {k:Nat} (h:rs.take k=ss.take k) (hk:k<rs.length) (hk':k<ss.length) (he:rs[k]=ss[k]):rs.take (k+1)=ss.take (k+1):=by
 rw [List.take_succ_eq_append_getElem hk,List.take_succ_eq_append_getElem hk',h,he]
theorem same_any (v u:Value) (rs ss:List Rq) (w:World) (hn:rs.length≤100000) (hm:ss.length≤100000) (h:Bat w v rs) (h':Bat w u ss):
  Calls Tryz.prog 309 #[v,u] w fun e w'=>e= .returned (.bool (decide (rs=ss)))∧Upd [] w w':=by
 obtain ⟨ao,cap,rfl,h1,h2,h3,h4,h5⟩:=h;obtain ⟨bo,cap',rfl,k1,k2,k3,k4,k5⟩:=h';clear h1 h2 h3 h4 k1 k2 k3 k4;have H5:=zq h5;have K5:=zq k5;clear h5 k5;by_cases hlen:rs.length=ss.length
 ·have HL:=zq hlen
  have hlb:((rs.length:Int) !=(ss.length:Int))=false:=by simp [hlen]
  have hle1:rs.length≤ss.length:=by omega
  have hle2:ss.length≤rs.length:=by omega
  clear hlen;go_enter Tryz.func309,Tryz.ntmps309
  go_wp2_with fail
  go_loopw [14] (fun i wr=> ∃k:Nat,k≤rs.length∧i= .int .i64 k∧rs.take k=ss.take k∧Below w.heap.size w wr) (fun i _=>rs.length-(intOf i).toNat)
  case atStart=>exact ⟨0,by omega,rfl,by simp,Below.refl _ _⟩
  case round=>
   obtain ⟨k,hk,rfl,he,hb⟩:=hrel;have HE:=zq he;clear he;by_cases hlt:k<rs.length
   ·obtain ⟨b,o,rfl,hbs,hc⟩:=H5.out (by omega)
    obtain ⟨b',o',rfl,hbs',hc'⟩:=K5.out (by omega);have hlt':k<ss.length:=by omega
    obtain ⟨q0,q1,q2,q3,q4,q5⟩:=zb4 (zcm hb hbs hc) k rs[k] (by simp);obtain ⟨p0,p1,p2,p3,p4,p5⟩:=zb4 (zcm hb hbs' hc') k ss[k] (by simp);clear hc hc';have hkI:(k:Int)<(ss.length:Int):=by omega
    have hbw:b'<wr.heap.size:=Nat.lt_of_lt_of_le hbs' hb.size;have hbn:b'≠wr.heap.size:=by omega
    by_cases he:rs[k]=ss[k]
    ·have heq: ∀wx,(Op.equalIn 10000 38 (rqAgg rs[k]) (rqAgg ss[k])).run Tryz.prog wx= .ok true wx:=fun wx=>by rw [zdo];simp [he]
     have HEK:=zq he;clear he;unfold rqAgg at heq;have hgd:=Tryz.guardReq
     go_wp2_with fail
     go_quiet (fail)
     go_wp2_with fail
     go_roundw
     case rel=>exact ⟨k+1,by omega,by go_num,take_same HE.out hlt hlt' HEK.out,below_drewN (hb.alloc hb.size _) _⟩
     case measure=>simp [intOf];omega
    ·have heq: ∀wx,(Op.equalIn 10000 38 (rqAgg rs[k]) (rqAgg ss[k])).run Tryz.prog wx= .ok false wx:=fun wx=>by rw [zdo];simp [he]
     have HEK:=zq he;clear he;unfold rqAgg at heq;have hgd:=Tryz.guardReq
     go_wp2_with fail
     go_quiet (fail)
     go_wp2_with fail
     go_ret
     refine ⟨zae ?_,Upd.of_below (below_drewN (hb.alloc hb.size _) _)⟩;symm;rw [decide_eq_false_iff_not];intro e;subst e;exact HEK.out rfl
   ·go_wp2_with fail
    go_ret
    refine ⟨zae ?_,Upd.of_below hb⟩;symm;rw [decide_eq_true_iff];have h1:=HE.out;rw [List.take_of_length_le (by omega),List.take_of_length_le (by omega)] at h1;exact h1
 ·have hlb:((rs.length:Int) !=(ss.length:Int))=true:=by simp;omega
  have HL:=zq hlen;clear hlen;go_enter Tryz.func309,Tryz.ntmps309
  go_wp2_with fail
  go_ret
  refine ⟨zae ?_,Upd.refl _ _⟩;symm;rw [decide_eq_false_iff_not];intro e;exact HL.out (by rw [e])
structure Vt where
 has:Bool
 sl:Int
 batch:List Rq
abbrev Vs:=List (Int×Int)
def zaf (l:Vs):List Value:=l.flatMap fun p=>[.int .i64 p.1,.int .i64 p.2]
theorem zp1 (l:Vs): ∀k p,l[k]?=some p→(zaf l)[k*2]?=some (.int .i64 p.1)∧(zaf l)[k*2+1]?=some (.int .i64 p.2):=by
 induction l with
 | nil=>intro k p h;simp at h
 | cons q l ih=>
  intro k p h
  match k with
  | 0=>simp at h;subst h;exact ⟨rfl,rfl⟩
  | k+1=>
   have:=ih k p (by simpa using h);rw [show (k+1)*2=k*2+2 by omega];exact this
theorem zp0 (l:Vs) (p:Int×Int):zaf (l++[p])=zaf l++[.int .i64 p.1,.int .i64 p.2]:=by simp [zaf]
def Vts (w:World) (v:Value) (l:Vs):Prop:=Reads w v 2 l.length (zaf l)
def zb1 (w:World) (b:Nat) (vs:List Vt) (D:List Nat):Prop:=
 ∃arr,w.heap[b]?=some (.cells arr 371 (0,0))∧vs.length*3≤arr.size∧
  ∀i t,vs[i]?=some t→ ∃v,arr[i*3]?=some (.bool t.has)∧arr[i*3+1]?=some (.int .i64 t.sl)∧arr[i*3+2]?=some v∧Bat w v t.batch∧ ∀k∈blkOf v,k∈D
theorem zb1.upd {w w':World} {M:List Nat} {b:Nat} {vs:List Vt} {D:List Nat} (h:zb1 w b vs D) (hu:Upd M w w') (hb:b∉M) (hD: ∀k∈D,k∉M):zb1 w' b vs D:=by
 obtain ⟨arr,h1,h2,h3⟩:=h;refine ⟨arr,by rw [hu.block b (block_lt h1) hb];exact h1,h2,fun i t hi=> ?_⟩;obtain ⟨v,a1,a2,a3,a4,a5⟩:=h3 i t hi;exact ⟨v,a1,a2,a3,a4.upd hu (fun k hk=>hD k (a5 k hk)),a5⟩
theorem zb1.cells {w:World} {b:Nat} {vs:List Vt} {D:List Nat} (h:zb1 w b vs D) (i:Nat) (t:Vt) (hi:vs[i]?=some t):
  ∃v,w.cell? ⟨b,i*3,none⟩=some (.bool t.has)∧w.cell? ⟨b,i*3+1,none⟩=some (.int .i64 t.sl)∧w.cell? ⟨b,i*3+2,none⟩=some v∧Bat w v t.batch∧b<w.heap.size∧(∀k∈blkOf v,k∈D)∧ ∀o,w.frozen? ⟨b,o,none⟩=false:=by
 obtain ⟨arr,h1,h2,h3⟩:=h;obtain ⟨v,a1,a2,a3,a4,a5⟩:=h3 i t hi;exact ⟨v,by rw [zac h1];exact a1,by rw [zac h1];exact a2,by rw [zac h1];exact a3,a4,block_lt h1,a5,zab h1⟩
def goodB (batch:List Rq) (t:Vt):Bool:=t.has&&decide (t.batch=batch)
def picks (batch:List Rq):List Vt→Nat→Vs
 | [],_=>[]
 | t::l,k=>if goodB batch t then ((k:Int),t.sl)::picks batch l (k+1) else picks batch l (k+1)
theorem zvv (batch:List Rq) (t:Vt): ∀(l:List Vt) (k:Nat),picks batch (l++[t]) k=picks batch l k++if goodB batch t then [(((k+l.length:Nat):Int),t.sl)] else []:=by
 intro l
 induction l with
 | nil=>intro k;simp [picks]
 | cons s l ih=>
  intro k;simp only [List.cons_append,picks,ih,List.length_cons];rw [show k+1+l.length=k+(l.length+1) by omega];split<;>simp
def picked (batch:List Rq) (l:List Vt) (q k:Nat):Vs:=(picks batch (l.take k) 0).take q
theorem zii (batch:List Rq) (l:List Vt) (q:Nat):picked batch l q 0=[]:=by simp [picked,picks]
theorem zvu (batch:List Rq) (l:List Vt) (q k:Nat):(picked batch l q k).length≤q:=by simp [picked];omega
theorem zpl (batch:List Rq) (l:List Vt) (q k:Nat) (hk:k<l.length):
  picked batch l q (k+1)=if goodB batch l[k]&&decide ((picked batch l q k).length<q) then picked batch l q k++[((k:Int),l[k].sl)] else picked batch l q k:=by
 unfold picked;rw [List.take_succ_eq_append_getElem hk,zvv,List.length_take,Nat.min_eq_left (by omega),Nat.zero_add];generalize picks batch (l.take k) 0=A;cases hg:goodB batch l[k]
 ·simp
 ·by_cases hl:A.length<q
  ·have e1:(A.take q).length<q:=by rw [List.length_take];omega
   rw [if_pos rfl,if_pos (by simp only [Bool.true_and,decide_eq_true_eq];exact e1),List.take_append,List.take_of_length_le (by omega:A.length≤q)];congr 1
   rw [List.take_of_length_le (by simp;omega)]
  ·have e1: ¬(A.take q).length<q:=by rw [List.length_take];omega
   rw [if_pos rfl,if_neg (by simp only [Bool.true_and,decide_eq_true_eq];exact e1),List.take_append_of_le_length (by omega)]
def zb2 (l:List Vt) (batch:List Rq) (q:Nat):Option Vs:=
 if (picks batch l 0).length<q then none else some ((picks batch l 0).take q)
theorem zhk (batch:List Rq) (l:List Vt) (q:Nat):picked batch l q l.length=(picks batch l 0).take q:=by simp [picked]
theorem zo0 {l:List Vt} {batch:List Rq} {q:Nat} (h:(picked batch l q l.length).length<q):zb2 l batch q=none:=by
 rw [zhk,List.length_take] at h;unfold zb2;rw [if_pos (by omega)]
theorem zo1 {l:List Vt} {batch:List Rq} {q:Nat} (h: ¬(picked batch l q l.length).length<q):zb2 l batch q=some (picked batch l q l.length):=by
 rw [zhk,List.length_take] at h;unfold zb2;rw [if_neg (by omega),zhk]
theorem zkj (f:Int) (w:World) (h1:1≤f) (h2:f≤4):Calls Tryz.prog 150 #[.int .i64 f] w fun e w'=>e= .returned (.bool true)∧w=w':=by
 go_enter Tryz.func150,Tryz.ntmps150
 go_wp2
 go_ret
 exact ⟨rfl,rfl⟩
theorem zej (f:Int) (w:World) (h1:1≤f) (h2:f≤4):Calls Tryz.prog 213 #[.int .i64 f] w fun e w'=>e= .returned (.int .i64 (2*f+1))∧w=w':=by
 go_enter Tryz.func213,Tryz.ntmps213
 go_wp2_with fail
 refine (zkj f _ h1 h2).mono ?_;rintro e w' ⟨rfl,rfl⟩
 go_wp2_with fail
 go_ret
 exact ⟨rfl,rfl⟩
theorem za0 (f:Int) (w:World) (h1:1≤f) (h2:f≤4):Calls Tryz.prog 80 #[.int .i64 f] w fun e w'=>e= .returned (.int .i64 (3*f+1))∧w=w':=by
 go_enter Tryz.func80,Tryz.ntmps80
 go_wp2_with fail
 refine (zkj f _ h1 h2).mono ?_;rintro e w' ⟨rfl,rfl⟩
 go_wp2_with fail
 go_ret
 exact ⟨rfl,rfl⟩
theorem Tryz.infoVote:(Tryz.prog.info? 177).map (fun i=>(i.zero,i.size,i.bytes))=some (some (.agg #[.int .i64 0,.int .i64 0]),2,16):=by kernel_rfl
theorem zth {w:World} {B:Nat} {v:Value} {l:Vs} {n:Nat} (hn:l.length=n) (h:w.ownsRow B 177 2 v n (zaf l)):Vts w v l∧ ∀k∈blkOf v,B≤k:=by
 subst hn;rcases h.2 with ⟨rfl,hn⟩ | ⟨g,cap,cur,rfl,hb,_⟩
 ·have:l=[]:=List.eq_nil_of_length_eq_zero hn
  subst this;exact ⟨Reads.nil _ _,by simp [blkOf]⟩
 ·exact ⟨Reads.of_own h,by simp [blkOf];exact hb⟩
theorem zca {w:World} {v:Value} {rs:List Rq} (h:Bat w v rs): ∃ao cap,v= .slice ao rs.length cap:=let ⟨ao,cap,hv,_⟩:=h;⟨ao,cap,hv⟩
theorem zke (s b cap:Nat) (v:Value) (f:Nat) (l:List Vt) (D:List Nat) (batch:List Rq) (w:World) (h1:1≤f) (h2:f≤4) (hl:l.length≤13) (hs:s<w.heap.size)
  (hcap:1≤l.length)
  (hf:w.cell? ⟨s,0,none⟩=some (.int .i64 f)) (hv:zb1 w b l D) (hb:Bat w v batch) (hbl:batch.length≤100000) (hbs: ∀t∈l,t.batch.length≤100000):
  Calls Tryz.prog 304 #[.pointer (some ⟨s,0,none⟩),.slice (some ⟨b,0,none⟩) l.length cap,v] w fun e w'=>
   ∃u,e= .returned (.tuple #[u,.bool (zb2 l batch (2*f+1)).isSome])∧Below w.heap.size w w'∧Vts w' u ((zb2 l batch (2*f+1)).getD [])∧ ∀k∈blkOf u,w.heap.size≤k:=by
 obtain ⟨i0,hi,hz0,hz1,hz2⟩:=info_parts Tryz.infoVote;have HV:=zq hv;have HB:=zq hb;have HBS:=zq hbs;clear hv hb hbs;go_enter Tryz.func304,Tryz.ntmps304
 go_wp2_with fail
 go_loopw [8,13] (fun out i wr=> ∃(k:Nat) (ao:Option Addr) (cp:Nat),k≤l.length∧i= .int .i64 k∧out= .slice ao (picked batch l (2*f+1) k).length cp∧Below w.heap.size w wr∧
   Hid (wr.ownsRow w.heap.size 177 2 (.slice ao (picked batch l (2*f+1) k).length cp) (picked batch l (2*f+1) k).length (zaf (picked batch l (2*f+1) k)))) (fun _ i _=>l.length-(intOf i).toNat)
 case atStart=>
  refine ⟨0,none,0,by omega,rfl,?_,Below.refl _ _,?_⟩
  ·rw [zii];rfl
  ·rw [zii];exact World.ownsRow_nil _ _ _ _
 case round=>
  obtain ⟨k,ao,cp,hk,rfl,rfl,hbel,hown⟩:=hrel;have hz:=hbel.size;have hple:=zvu batch l (2*f+1) k;have hkf:=(hbel.cell (p:=⟨s,0,none⟩) hs).trans hf;by_cases hlt:k<l.length
  ·have hsucc:=zq (zpl batch l (2*f+1) k hlt)
   generalize picked batch l (2*f+1) k=A at*;have hvr:=HV.out.upd (M:=[]) (Upd.of_below hbel) (by simp) (by simp);obtain ⟨bv,c0,c1,c2,hbat,hbw,_,_⟩:=hvr.cells k l[k] (by simp);obtain ⟨bo,bcap,rfl⟩:=zca hbat;have HBAT:=zq hbat;have HBR:=zq (HB.out.upd (M:=[]) (Upd.of_below hbel) (by simp));have hlk:=HBS.out l[k] (by simp);have hkI:(k:Int)<(l.length:Int):=by omega
   clear hvr hbat;by_cases hhas:l[k].has=true
   ·rw [hhas] at c0
    have HHAS:=zq hhas;clear hhas
    go_wp2_with fail
    refine (same_any _ v l[k].batch batch _ hlk hbl (HBAT.out.upd (M:=[]) ((Upd.refl _ _).alloc _) (by simp)) (HBR.out.upd (M:=[]) ((Upd.refl _ _).alloc _) (by simp))).mono ?_;rintro e w2 ⟨rfl,hu2⟩;have hbB:Below (wr.heap.size+1) (wr.alloc (.cells #[.bool true,.int .i64 l[k].sl,.slice bo l[k].batch.length bcap] 371)) w2:=by have:=hu2.below;simpa using this
    have x1:w2.cell? ⟨wr.heap.size,1,none⟩=some (.int .i64 l[k].sl):=(hbB.cell (p:=⟨wr.heap.size,1,none⟩) (Nat.lt_succ_self _)).trans (by rw [zac (heap_alloc_new wr _)];rfl);have hsr:s<wr.heap.size:=Nat.lt_of_lt_of_le hs hz;have x2:w2.cell? ⟨s,0,none⟩=some (.int .i64 f):=((hbB.cell (p:=⟨s,0,none⟩) (Nat.lt_succ_of_lt hsr)).trans (World.cell?_alloc_past _ _ _ hsr)).trans hkf;have hw2:=hbB.size;have hbelw:Below w.heap.size w w2:=(hbel.alloc hz _).trans (hbB.mono (by omega));clear c0 c1 c2 hkf;by_cases hsm:l[k].batch=batch
    ·have HSM:=zq hsm
     rw [decide_eq_true hsm];clear hsm
     go_wp2_with fail
     refine (zej f _ (by omega) (by omega)).mono ?_;rintro e w' ⟨rfl,rfl⟩;have hgood:goodB batch l[k]=true:=by simp [goodB,HHAS.out,HSM.out]
     rw [hgood,Bool.true_and] at hsucc;clear hgood;by_cases hlen:A.length<2*f+1
     ·have hq:(A.length:Int)<2*(f:Int)+1:=by omega
      have hle:A.length≤13:=by omega
      have hzz:=hbelw.size;have ho2:=(ze4 (M:=[]) hown.out (Upd.of_below ((Below.refl _ _).alloc (Nat.le_refl _) (.cells #[.bool true,.int .i64 l[k].sl,.slice bo l[k].batch.length bcap] 371))) (by simp));have ho3:=(ze4 (M:=[]) ho2 hu2 (by simp)).alloc (.cells #[.int .i64 k,.int .i64 l[k].sl] 177);have HO:=zq ho3;clear ho2 ho3
      go_wp2_with (at_builtin;refine wpList_append_lies _ rfl (.tmp 36) (.tmp 41) 40 rfl w.heap.size 177 i0 (.agg #[.int .i64 0,.int .i64 0]) 2 16 Tryz.underlying40 hi hz0 hz1 hz2 rfl (by decide) _ A.length (zaf A) rfl HO.out ⟨w2.heap.size,0,none⟩ 1 1 [.int .i64 k,.int .i64 l[k].sl] rfl rfl ?c1 ?c2 (by decide) ?c3 ?c4 ?c5 (w2.heap.size+1) (by simp) ?c6)
      case c1=>intro j u hj;match j,hj with | 0,hj=>simp at hj;subst hj;simp [Addr.add] | 1,hj=>simp at hj;subst hj;simp [Addr.add]
      case c2=>intro u hu;simp at hu;rcases hu with rfl | rfl<;>rfl
      case c3=>unfold maxLen;omega
      case c4=>omega
      case c5=>simp;omega
      case c6=>
       intro g cap2 w3 hown3 hgrow hat hlt3;have hsucc':picked batch l (2*f+1) (k+1)=A++[((k:Int),l[k].sl)]:=by rw [hsucc.out,if_pos (decide_eq_true hlen)]
       have HSU:=zq hsucc';clear hsucc';have H3:=zq hown3;clear hown3;have hbel3:Below w.heap.size w w3:=(hbelw.alloc hbelw.size _).grown hgrow (by simp;omega) (by intro j hj;exact (hown.out.lt j hj).1)
       go_wp2_with fail
       go_roundw
       case rel=>
        refine ⟨k+1,some ⟨g,0,none⟩,cap2,by omega,by go_num,?_,hbel3,?_⟩
        ·rw [HSU.out];simp
        ·rw [HSU.out,zp0,List.length_append];exact H3
       case measure=>simp [intOf];omega
     ·have hq: ¬(A.length:Int)<2*(f:Int)+1:=by omega
      have hqb:decide ((A.length:Int)<2*(f:Int)+1)=false:=by simp;omega
      go_wp2_with fail
      go_roundw
      have hsucc':picked batch l (2*f+1) (k+1)=A:=by rw [hsucc.out,if_neg (by simpa using hlen)]
      case rel=>
       refine ⟨k+1,ao,cp,by omega,by go_num,by rw [hsucc'],hbelw,?_⟩;rw [hsucc'];exact (ze4 (M:=[]) (ze4 (M:=[]) hown.out (Upd.of_below ((Below.refl _ _).alloc (Nat.le_refl _) (.cells #[.bool true,.int .i64 l[k].sl,.slice bo l[k].batch.length bcap] 371))) (by simp)) hu2 (by simp))
      case measure=>simp [intOf];omega
    ·have HSM:=zq hsm
     rw [decide_eq_false hsm];clear hsm
     go_wp2_with fail
     go_roundw
     have hgood:goodB batch l[k]=false:=by simp [goodB,HSM.out]
     have hsucc':picked batch l (2*f+1) (k+1)=A:=by rw [hsucc.out,hgood];rfl
     case rel=>
      refine ⟨k+1,ao,cp,by omega,by go_num,by rw [hsucc'],hbelw,?_⟩;rw [hsucc'];exact (ze4 (M:=[]) (ze4 (M:=[]) hown.out (Upd.of_below ((Below.refl _ _).alloc (Nat.le_refl _) (.cells #[.bool true,.int .i64 l[k].sl,.slice bo l[k].batch.length bcap] 371))) (by simp)) hu2 (by simp))
     case measure=>simp [intOf];omega
   ·have hhas':l[k].has=false:=by simpa using hhas
    rw [hhas'] at c0;have HHAS:=zq hhas';clear hhas hhas'
    go_wp2_with fail
    go_roundw
    have hgood:goodB batch l[k]=false:=by simp [goodB,HHAS.out]
    have hsucc':picked batch l (2*f+1) (k+1)=A:=by rw [hsucc.out,hgood];rfl
    case rel=>
     refine ⟨k+1,ao,cp,by omega,by go_num,by rw [hsucc'],hbel.alloc hz _,?_⟩;rw [hsucc'];exact ze4 (M:=[]) hown.out (Upd.of_below ((Below.refl _ _).alloc (Nat.le_refl _) _)) (by simp)
    case measure=>simp [intOf];omega
  ·have hkl:k=l.length:=by omega
   subst hkl;have HN:=zq (fun h=>zo0 (l:=l) (batch:=batch) (q:=2*f+1) h);have HY:=zq (fun h=>zo1 (l:=l) (batch:=batch) (q:=2*f+1) h);generalize picked batch l (2*f+1) l.length=A at*
   go_wp2_with fail
   refine (zej f _ (by omega) (by omega)).mono ?_;rintro e w' ⟨rfl,rfl⟩;by_cases hlen:A.length<2*f+1
   ·have hq:(A.length:Int)<2*(f:Int)+1:=by omega
    go_wp2_with fail
    go_ret2
    refine ⟨.slice none 0 0,?_,hbel,?_,?_⟩
    ·rw [HN.out hlen];rfl
    ·rw [HN.out hlen];exact Reads.nil _ _
    ·simp [blkOf]
   ·have hq: ¬(A.length:Int)<2*(f:Int)+1:=by omega
    have hqb:decide ((A.length:Int)<2*(f:Int)+1)=false:=by simp;omega
    go_wp2_with fail
    go_ret2
    obtain ⟨r1,r2⟩:=zth rfl hown.out;refine ⟨.slice ao A.length cp,?_,hbel,?_,r2⟩
    ·rw [HY.out hlen];rfl
    ·rw [HY.out hlen];exact r1
structure Sl where
 has:Bool
 batch:List Rq
 ps:List Vt
 cs:List Vt
def noVt:Vt:=⟨false,0,[]⟩
structure SlotAt (w:World) (s bp bc cp cq:Nat) (f:Nat) (st:Sl) (D:List Nat):Prop where
 f1:1≤f
 f2:f≤4
 own: ∃v,w.heap[s]?=some (.cells #[.int .i64 f,.bool st.has,v,.slice (some ⟨bp,0,none⟩) (3*f+1) cp,.slice (some ⟨bc,0,none⟩) (3*f+1) cq] 307 (0,0))∧Bat w v st.batch∧ ∀k∈blkOf v,k∈D
 ps:zb1 w bp st.ps D
 cs:zb1 w bc st.cs D
 pl:st.ps.length=3*f+1
 cl:st.cs.length=3*f+1
 sp:s≠bp
 sc:s≠bc
 pc:bp≠bc
 Ds:s∉D
 Dp:bp∉D
 Dc:bc∉D
 Dw: ∀k∈D,k<w.heap.size
 small:st.batch.length≤100000∧(∀t∈st.ps,t.batch.length≤100000)∧ ∀t∈st.cs,t.batch.length≤100000
theorem SlotAt.upd {w w':World} {M:List Nat} {s bp bc cp cq f:Nat} {st:Sl} {D:List Nat} (h:SlotAt w s bp bc cp cq f st D) (hu:Upd M w w') (h1:s∉M) (h2:bp∉M) (h3:bc∉M) (hD: ∀k∈D,k∉M):SlotAt w' s bp bc cp cq f st D:=by
 obtain ⟨v,a1,a2,a3⟩:=h.own;exact {h with
  own:=⟨v,by rw [hu.block s (block_lt a1) h1];exact a1,a2.upd hu (fun k hk=>hD k (a3 k hk)),a3⟩
  ps:=h.ps.upd hu h2 hD
  cs:=h.cs.upd hu h3 hD
  Dw:=fun k hk=>Nat.lt_of_lt_of_le (h.Dw k hk) hu.size}
theorem SlotAt.cells {w:World} {s bp bc cp cq f:Nat} {st:Sl} {D:List Nat} (h:SlotAt w s bp bc cp cq f st D):
  ∃ao cap,s<w.heap.size∧bp<w.heap.size∧bc<w.heap.size∧w.cell? ⟨s,0,none⟩=some (.int .i64 f)∧w.cell? ⟨s,1,none⟩=some (.bool st.has)∧w.cell? ⟨s,2,none⟩=some (.slice ao st.batch.length cap)∧
   w.cell? ⟨s,3,none⟩=some (.slice (some ⟨bp,0,none⟩) (3*f+1) cp)∧w.cell? ⟨s,4,none⟩=some (.slice (some ⟨bc,0,none⟩) (3*f+1) cq)∧(∀o,w.frozen? ⟨s,o,none⟩=false)∧
   Bat w (.slice ao st.batch.length cap) st.batch∧(∀k∈blkOf (.slice ao st.batch.length cap),k∈D)∧
   w.heap[s]?=some (.cells #[.int .i64 f,.bool st.has,.slice ao st.batch.length cap,.slice (some ⟨bp,0,none⟩) (3*f+1) cp,.slice (some ⟨bc,0,none⟩) (3*f+1) cq] 307 (0,0)):=by
 obtain ⟨v,a1,a2,a3⟩:=h.own;obtain ⟨ao,cap,rfl⟩:=zca a2;obtain ⟨arr,p1,_,_⟩:=h.ps;obtain ⟨arr',c1,_,_⟩:=h.cs;exact ⟨ao,cap,block_lt a1,block_lt p1,block_lt c1,by rw [zac a1];rfl,by rw [zac a1];rfl,by rw [zac a1];rfl,by rw [zac a1];rfl,by rw [zac a1];rfl,zab a1,a2,a3,a1⟩
def zv (n:Nat):Array Value:=madeCells #[.bool false,.int .i64 0,.slice none 0 0] (n*3)
theorem zv_size (n:Nat):(zv n).size=n*3:=by simp [zv,size_madeCells]
theorem ztr {w:World} {b n:Nat} {D:List Nat} (h:w.heap[b]?=some (.cells (zv n) 371 (0,0))):zb1 w b (List.replicate n noVt) D:=by
 refine ⟨zv n,h,by rw [zv_size,List.length_replicate];exact Nat.le_refl _,fun i t hi=> ?_⟩;have hin:i<n:=by simpa using (List.getElem?_eq_some_iff.1 hi).1
 rw [List.getElem?_replicate,if_pos hin] at hi;cases hi
 have key: ∀j,j<n*3→(zv n)[j]?=some ((#[.bool false,.int .i64 0,.slice none 0 0]:Array Value)[j%3]!):=by
  intro j hj;simp [zv,madeCells,hj]
 refine ⟨.slice none 0 0,?_,?_,?_,Reads.nil _ _,by simp [blkOf]⟩
 ·rw [key _ (by omega),show i*3%3=0 by omega];rfl
 ·rw [key _ (by omega),show (i*3+1)%3=1 by omega];rfl
 ·rw [key _ (by omega),show (i*3+2)%3=2 by omega];rfl
theorem Tryz.infoSv:(Tryz.prog.info? 371).map (fun i=>(i.zero,i.size,i.bytes))=some (some (.agg #[.bool false,.int .i64 0,.slice none 0 0]),3,40):=by kernel_rfl
theorem zjt (f:Nat) (h2:f≤4) (wx:World):(Instr.makeSlice 305 (.int .i64 (3*(f:Int)+1)) (.int .i64 (3*(f:Int)+1))).run Tryz.prog wx= .ok (.slice (some ⟨wx.heap.size,0,none⟩) (3*f+1) (3*f+1)) (wx.alloc (.cells (zv (3*f+1)) 371)):=by
 obtain ⟨i0,hi,hz0,hz1,hz2⟩:=info_parts Tryz.infoSv;have:=run_make (P:=Tryz.prog) wx 305 371 i0 _ Tryz.underlying305 hi hz0 .i64 .i64 (3*(f:Int)+1) (3*(f:Int)+1) (by omega) (by omega) (by rw [hz2];omega) (by omega);rw [show (3*(f:Int)+1).toNat=3*f+1 by omega,hz1] at this;exact this
def zts (w:World) (s f:Nat) (e:Ending) (w':World):Prop:=
 e= .returned (.tuple #[])∧ ∃bp bc,bp≠bc∧w.heap.size≤bp∧w.heap.size≤bc∧Upd [s] w w'∧
  w'.heap[s]?=some (.cells #[.int .i64 f,.bool false,.slice none 0 0,.slice (some ⟨bp,0,none⟩) (3*f+1) (3*f+1),.slice (some ⟨bc,0,none⟩) (3*f+1) (3*f+1)] 307 (0,0))∧
  w'.heap[bp]?=some (.cells (zv (3*f+1)) 371 (0,0))∧w'.heap[bc]?=some (.cells (zv (3*f+1)) 371 (0,0))
theorem zk1 (s:Nat) (f:Nat) (h1:1≤f) (h2:f≤4) (w:World) (a1 a2 a3 a4:Value) (hb:w.heap[s]?=some (.cells #[.int .i64 f,a1,a2,a3,a4] 307 (0,0))):
  Calls Tryz.prog 214 #[.pointer (some ⟨s,0,none⟩)] w (zts w s f):=by
 have hs:s<w.heap.size:=block_lt hb;have c0:w.cell? ⟨s,0,none⟩=some (.int .i64 f):=by rw [zac hb];rfl
 have c1:w.cell? ⟨s,1,none⟩=some a1:=by rw [zac hb];rfl
 have c2:w.cell? ⟨s,2,none⟩=some a2:=by rw [zac hb];rfl
 have c3:w.cell? ⟨s,3,none⟩=some a3:=by rw [zac hb];rfl
 have c4:w.cell? ⟨s,4,none⟩=some a4:=by rw [zac hb];rfl
 have f1:=zab hb 1;have f2:=zab hb 2;have f3:=zab hb 3;have f4:=zab hb 4;have HB:=zq hb;clear hb;have hmk:=fun wx=>zjt f h2 wx;go_enter Tryz.func214,Tryz.ntmps214
 go_wp2_with fail
 refine (za0 f _ (by omega) (by omega)).mono ?_;rintro e w' ⟨rfl,rfl⟩
 go_wp2_with fail
 go_region
 all_goals go_wp2
 all_goals go_end0
 ·refine ⟨rfl,w.heap.size,w.heap.size+1,by omega,by omega,by omega,?_,?_,?_,?_⟩
  ·exact (((((((Upd.refl _ _).setCell (.inl (by simp)) _).setCell (.inl (by simp)) _).setCell (.inl (by simp)) _).setCell (.inl (by simp)) _).alloc _).alloc _).drew
  ·rw [zib,zo7 (by simp;omega),zo7 (by simp;omega),zde rfl,zde rfl,zde rfl,zde rfl,HB.out];rfl
  ·rw [zib,zo7 (by simp),zq7 (by simp)]
  ·rw [zib,zq7 (by simp)]
 ·refine ⟨rfl,w.heap.size+1,w.heap.size,by omega,by omega,by omega,?_,?_,?_,?_⟩
  ·exact (((((((Upd.refl _ _).setCell (.inl (by simp)) _).setCell (.inl (by simp)) _).setCell (.inl (by simp)) _).setCell (.inl (by simp)) _).alloc _).alloc _).drew
  ·rw [zib,zo7 (by simp;omega),zo7 (by simp;omega),zde rfl,zde rfl,zde rfl,zde rfl,HB.out];rfl
  ·rw [zib,zq7 (by simp)]
  ·rw [zib,zo7 (by simp),zq7 (by simp)]
def zbc (f:Nat):Sl:=⟨false,[],List.replicate (3*f+1) noVt,List.replicate (3*f+1) noVt⟩
theorem zk5 {w:World} {s bp bc f:Nat} (h1:1≤f) (h2:f≤4) (hs:w.heap[s]?=some (.cells #[.int .i64 f,.bool false,.slice none 0 0,.slice (some ⟨bp,0,none⟩) (3*f+1) (3*f+1),.slice (some ⟨bc,0,none⟩) (3*f+1) (3*f+1)] 307 (0,0)))
  (hp:w.heap[bp]?=some (.cells (zv (3*f+1)) 371 (0,0))) (hc:w.heap[bc]?=some (.cells (zv (3*f+1)) 371 (0,0))) (e1:s≠bp) (e2:s≠bc) (e3:bp≠bc):SlotAt w s bp bc (3*f+1) (3*f+1) f (zbc f) [] where
 f1:=h1
 f2:=h2
 own:=⟨_,hs,Reads.nil _ _,by simp [blkOf]⟩
 ps:=ztr hp
 cs:=ztr hc
 pl:=by simp [zbc]
 cl:=by simp [zbc]
 sp:=e1
 sc:=e2
 pc:=e3
 Ds:=by simp
 Dp:=by simp
 Dc:=by simp
 Dw:=by simp
 small:=by
  refine ⟨by simp [zbc],?_,?_⟩
  ·intro t ht;simp [zbc] at ht;simp [ht,noVt]
  ·intro t ht;simp [zbc] at ht;simp [ht,noVt]
theorem slot_new (f:Nat) (h1:1≤f) (h2:f≤4) (w:World):
  Calls Tryz.prog 151 #[.int .i64 f] w fun e w'=> ∃s bp bc,e= .returned (.tuple #[.pointer (some ⟨s,0,none⟩),.int .i64 0])∧Upd [] w w'∧w.heap.size≤s∧w.heap.size≤bp∧w.heap.size≤bc∧SlotAt w' s bp bc (3*f+1) (3*f+1) f (zbc f) []:=by
 go_enter Tryz.func151,Tryz.ntmps151
 go_wp2_with fail
 refine (zk1 w.heap.size f h1 h2 _ _ _ _ _ (heap_alloc_new w _)).mono ?_;rintro e w1 ⟨rfl,bp,bc,e1,e2,e3,e4,e5,e6,e7⟩;simp only [zav] at e2 e3;have E5:=zq e5;have E6:=zq e6;have E7:=zq e7;clear e5 e6 e7
 go_wp2_with fail
 go_ret2
 exact ⟨w.heap.size,bp,bc,rfl,((Upd.refl _ _).alloc _).then e4 (by intro i hi;simp at hi;omega),Nat.le_refl _,by omega,by omega,zk5 h1 h2 E5.out E6.out E7.out (by omega) (by omega) e1⟩
theorem zs3 {w:World} {s bp bc cp cq f:Nat} {st:Sl} {D:List Nat} (h:SlotAt w s bp bc cp cq f st D):
  Calls Tryz.prog 214 #[.pointer (some ⟨s,0,none⟩)] w fun e w'=> ∃bp' bc',e= .returned (.tuple #[])∧Upd [s] w w'∧w.heap.size≤bp'∧w.heap.size≤bc'∧SlotAt w' s bp' bc' (3*f+1) (3*f+1) f (zbc f) []:=by
 obtain ⟨v,a1,a2,a3⟩:=h.own;refine (zk1 s f h.f1 h.f2 w _ _ _ _ a1).mono ?_;rintro e w1 ⟨rfl,bp',bc',e1,e2,e3,e4,e5,e6,e7⟩;have:=block_lt a1;exact ⟨bp',bc',rfl,e4,e2,e3,zk5 h.f1 h.f2 e5 e6 e7 (by omega) (by omega) e1⟩
theorem zv9 {w1 w2:World} {s bp bc cp cq f W:Nat} {st:Sl} {D:List Nat} {ao':Option Addr} {rs:List Rq} {cap':Nat} {v:Value} (h:SlotAt w1 s bp bc cp cq f st D)
  (hw2:w2=(w1.setCell ⟨s,1,none⟩ (.bool true)).setCell ⟨s,2,none⟩ (.slice ao' rs.length cap'))
  (own:w1.heap[s]?=some (.cells #[.int .i64 f,.bool st.has,v,.slice (some ⟨bp,0,none⟩) (3*f+1) cp,.slice (some ⟨bc,0,none⟩) (3*f+1) cq] 307 (0,0)))
  (hb:Bat w1 (.slice ao' rs.length cap') rs) (hn: ∀k∈blkOf (.slice ao' rs.length cap'),W≤k∧k<w1.heap.size) (l1:s<W) (l2:bp<W) (l3:bc<W) (hl:rs.length≤100000):
  SlotAt w2 s bp bc cp cq f {st with has:=true,batch:=rs} (blkOf (.slice ao' rs.length cap')++D):=by
 have HU:Upd [s] w1 w2:=by rw [hw2];exact ((Upd.refl _ _).setCell (.inl (by simp)) _).setCell (.inl (by simp)) _
 have hbs: ∀b∈blkOf (.slice ao' rs.length cap'),b∉[s]:=by
  intro b hb e;have:=hn b hb;simp at e;omega
 have hDs: ∀k∈D,k∉[s]:=fun k hk e=>by
  simp at e;subst e;exact h.Ds hk
 have hD': ∀x,x<W→x∉D→x∉blkOf (.slice ao' rs.length cap')++D:=by
  intro x hx hxD hin;rcases List.mem_append.1 hin with h1 | h1
  ·have:=hn x h1;omega
  ·exact hxD h1
 have ps:=h.ps.upd HU (by simp;exact fun e=>h.sp e.symm) hDs;have cs:=h.cs.upd HU (by simp;exact fun e=>h.sc e.symm) hDs;have wid: ∀ {b:Nat} {vs:List Vt},zb1 w2 b vs D→zb1 w2 b vs (blkOf (.slice ao' rs.length cap')++D):=by
  intro b vs ⟨arr,a1,a2,a3⟩;refine ⟨arr,a1,a2,fun i t hi=> ?_⟩;obtain ⟨v,c1,c2,c3,c4,c5⟩:=a3 i t hi;exact ⟨v,c1,c2,c3,c4,fun k hk=>List.mem_append_right _ (c5 k hk)⟩
 exact {
  f1:=h.f1
  f2:=h.f2
  own:=⟨.slice ao' rs.length cap',by rw [hw2,zde rfl,zde rfl,own];rfl,hb.upd HU hbs,fun k hk=>List.mem_append_left _ hk⟩
  ps:=wid ps
  cs:=wid cs
  pl:=h.pl
  cl:=h.cl
  sp:=h.sp
  sc:=h.sc
  pc:=h.pc
  Ds:=hD' s l1 h.Ds
  Dp:=hD' bp l2 h.Dp
  Dc:=hD' bc l3 h.Dc
  Dw:=by
   intro k hk;have hs:=HU.size;rcases List.mem_append.1 hk with h1 | h1
   ·have:=hn k h1;omega
   ·have:=h.Dw k h1;omega
  small:=⟨hl,h.small.2⟩}
theorem slot_pre {w:World} {s bp bc cp cq f:Nat} {st:Sl} {D:List Nat} (h:SlotAt w s bp bc cp cq f st D) (v:Value) (rs:List Rq) (hb:Bat w v rs) (hn:rs.length≤100000):
  Calls Tryz.prog 217 #[.pointer (some ⟨s,0,none⟩),v] w fun e w'=>e= .returned (.bool (!st.has))∧Upd [s] w w'∧ ∃D',(∀k∈D',k∈D∨w.heap.size≤k)∧
   SlotAt w' s bp bc cp cq f (if st.has then st else {st with has:=true,batch:=rs}) D':=by
 have H:=zq h;obtain ⟨ao,cap,l1,l2,l3,c0,c1,c2,c3,c4,fz,b1,b2,own⟩:=h.cells;have B1:=zq b1;have OWN:=zq own;have HB:=zq hb;have fz1:=fz 1;have fz2:=fz 2;clear b1 own hb fz;cases hhas:st.has with
 | true=>
  rw [hhas] at c1;clear hhas;go_enter Tryz.func217,Tryz.ntmps217
  go_wp2_with fail
  go_ret
  exact ⟨rfl,Upd.refl _ _,D,fun k hk=> .inl hk,by simpa using H.out⟩
 | false=>
  rw [hhas] at c1;have HH:=zq hhas;clear hhas;go_enter Tryz.func217,Tryz.ntmps217
  go_wp2_with fail
  refine (zgl v rs _ hn HB.out).mono ?_;rintro e w1 ⟨v',rfl,hu,hbat,hnew⟩;obtain ⟨ao',cap',rfl⟩:=zca hbat;have HBAT:=zq hbat;clear hbat;have k1:=(hu.cell (o:=1) l1 (by simp)).trans c1;have k2:=(hu.cell (o:=2) l1 (by simp)).trans c2;have g1:=(hu.frozen (o:=1) l1 (by simp)).trans fz1;have g2:=(hu.frozen (o:=2) l1 (by simp)).trans fz2;have OWN1:=zq ((hu.block s l1 (by simp)).trans OWN.out);have H1:=zq (H.out.upd hu (by simp) (by simp) (by simp) (by simp));have hsz:=hu.size;clear c0 c1 c2 c3 c4 fz1 fz2
  go_wp2_with fail
  go_ret
  have HU:Upd [s] w1 ((w1.setCell ⟨s,1,none⟩ (.bool true)).setCell ⟨s,2,none⟩ (.slice ao' rs.length cap')):=((Upd.refl _ _).setCell (.inl (by simp)) _).setCell (.inl (by simp)) _;have H2:=H1.out;have hnD: ∀k∈blkOf (.slice ao' rs.length cap'),w.heap.size≤k:=fun k hk=>(hnew k hk).1;refine ⟨rfl,(hu.mono (by simp)).trans HU,blkOf (.slice ao' rs.length cap')++D,?_,?_⟩
  ·intro k hk
   rcases List.mem_append.1 hk with hk | hk
   ·exact .inr (hnD k hk)
   ·exact .inl hk
  ·exact zv9 H2 rfl OWN1.out HBAT.out hnew l1 l2 l3 hn
theorem zgs {w:World} {s bp bc cp cq f:Nat} {st:Sl} {D:List Nat} (h:SlotAt w s bp bc cp cq f st D) (kind:Int):
  Calls Tryz.prog 287 #[.pointer (some ⟨s,0,none⟩),.int .i64 kind] w fun e w'=>
   e= .returned (if kind=4 then .slice (some ⟨bp,0,none⟩) (3*f+1) cp else if kind=5 then .slice (some ⟨bc,0,none⟩) (3*f+1) cq else .slice none 0 0)∧w=w':=by
 obtain ⟨ao,cap,l1,l2,l3,c0,c1,c2,c3,c4,fz,b1,b2,own⟩:=h.cells;clear b1 own fz b2;by_cases h4:kind=4
 ·subst h4
  go_enter Tryz.func287,Tryz.ntmps287
  go_wp2_with fail
  go_ret
  exact ⟨rfl,rfl⟩
 ·by_cases h5:kind=5
  ·subst h5
   go_enter Tryz.func287,Tryz.ntmps287
   go_wp2_with fail
   go_ret
   exact ⟨rfl,rfl⟩
  ·have h4b:(kind==4)=false:=by simp [h4]
   have h5b:(kind==5)=false:=by simp [h5]
   have H4:=zq h4;have H5:=zq h5;clear h4 h5;go_enter Tryz.func287,Tryz.ntmps287
   go_wp2_with fail
   go_ret
   exact ⟨rfl,rfl⟩
def openB (l:List Vt) (node:Int):Bool:=decide (0≤node)&&match l[node.toNat]? with | some t=> !t.has | none=>false
def zrd (st:Sl) (kind:Int):List Vt:=if kind=4 then st.ps else if kind=5 then st.cs else []
def zdl (st:Sl) (kind node:Int):Bool:=openB (zrd st kind) node
def voteS (st:Sl) (kind node sl:Int) (rs:List Rq):Sl:=
 if zdl st kind node then
  if kind=4 then {st with ps:=st.ps.set node.toNat ⟨true,sl,rs⟩} else {st with cs:=st.cs.set node.toNat ⟨true,sl,rs⟩}
 else st
theorem zol {w w2:World} {b:Nat} {vs:List Vt} {D:List Nat} {i:Nat} {sl:Int} {v':Value} {rs:List Rq} (h:zb1 w b vs D)
  (hw2:w2=((w.setCell ⟨b,i*3,none⟩ (.bool true)).setCell ⟨b,i*3+1,none⟩ (.int .i64 sl)).setCell ⟨b,i*3+2,none⟩ v') (hi:i<vs.length) (hb:Bat w v' rs) (hv:b∉blkOf v') (hD:b∉D):
  zb1 w2 b (vs.set i ⟨true,sl,rs⟩) (blkOf v'++D):=by
 have HU:Upd [b] w w2:=by rw [hw2];exact (((Upd.refl _ _).setCell (.inl (by simp)) _).setCell (.inl (by simp)) _).setCell (.inl (by simp)) _
 obtain ⟨arr,a1,a2,a3⟩:=h;refine ⟨((arr.setIfInBounds (i*3) (.bool true)).setIfInBounds (i*3+1) (.int .i64 sl)).setIfInBounds (i*3+2) v',?_,by simpa using a2,fun j t hj=> ?_⟩
 ·rw [hw2,zde rfl,zde rfl,zde rfl,a1];rfl
 ·have hjl:j<vs.length:=by simpa using (List.getElem?_eq_some_iff.1 hj).1
  by_cases hji:j=i
  ·subst hji
   rw [List.getElem?_set_self hjl] at hj;cases hj
   refine ⟨v',?_,?_,?_,hb.upd HU (by intro k hk e;simp at e;subst e;exact hv hk),fun k hk=>List.mem_append_left _ hk⟩
   ·rw [Array.getElem?_setIfInBounds_ne (by omega),Array.getElem?_setIfInBounds_ne (by omega),Array.getElem?_setIfInBounds_self,if_pos (by omega)]
   ·rw [Array.getElem?_setIfInBounds_ne (by omega),Array.getElem?_setIfInBounds_self,if_pos (by simp;omega)]
   ·rw [Array.getElem?_setIfInBounds_self,if_pos (by simp;omega)]
  ·rw [List.getElem?_set_ne (Ne.symm hji)] at hj
   obtain ⟨v,c1,c2,c3,c4,c5⟩:=a3 j t hj;refine ⟨v,?_,?_,?_,c4.upd HU (by intro k hk e;simp at e;subst e;exact hD (c5 k hk)),fun k hk=>List.mem_append_right _ (c5 k hk)⟩
   ·rw [Array.getElem?_setIfInBounds_ne (by omega),Array.getElem?_setIfInBounds_ne (by omega),Array.getElem?_setIfInBounds_ne (by omega)];exact c1
   ·rw [Array.getElem?_setIfInBounds_ne (by omega),Array.getElem?_setIfInBounds_ne (by omega),Array.getElem?_setIfInBounds_ne (by omega)];exact c2
   ·rw [Array.getElem?_setIfInBounds_ne (by omega),Array.getElem?_setIfInBounds_ne (by omega),Array.getElem?_setIfInBounds_ne (by omega)];exact c3
def Stored (w w':World) (b i:Nat) (sl:Int) (rs:List Rq):Prop:=
 ∃w1 ao cap,Upd [] w w1∧Bat w1 (.slice ao rs.length cap) rs∧(∀k∈blkOf (.slice ao rs.length cap),w.heap.size≤k∧k<w1.heap.size)∧
  w'=((w1.setCell ⟨b,i*3,none⟩ (.bool true)).setCell ⟨b,i*3+1,none⟩ (.int .i64 sl)).setCell ⟨b,i*3+2,none⟩ (.slice ao rs.length cap)
theorem vote_yes {w:World} {s bp bc cp cq f:Nat} {st:Sl} {D:List Nat} (h:SlotAt w s bp bc cp cq f st D) (kind:Int) (node:Nat) (sl:Int) (v:Value) (rs:List Rq) (b cb:Nat) (l:List Vt) (hl:l.length=3*f+1)
  (hk:(if kind=4 then .slice (some ⟨bp,0,none⟩) (3*f+1) cp else if kind=5 then .slice (some ⟨bc,0,none⟩) (3*f+1) cq else .slice none 0 0:Value)= .slice (some ⟨b,0,none⟩) (3*f+1) cb)
  (hv:zb1 w b l D) (t:Vt) (ht:l[node]?=some t) (hhas:t.has=false) (hb:Bat w v rs) (hn:rs.length≤100000):
  Calls Tryz.prog 264 #[.pointer (some ⟨s,0,none⟩),.int .i64 kind,.int .i64 node,.int .i64 sl,v] w fun e w'=>e= .returned (.bool true)∧Stored w w' b node sl rs:=by
 have HB:=zq hb;obtain ⟨bv,c0,c1,c2,_,hbw,_,fz⟩:=hv.cells node t ht;rw [hhas] at c0;have H:=zq h;have hf2:=h.f2;have hnl:node<3*f+1:=by rw [←hl];exact (List.getElem?_eq_some_iff.1 ht).1
 have q0:=fz (node*3);have q1:=fz (node*3+1);have q2:=fz (node*3+2);have HK:=zq hk;clear hb hk ht hhas fz hl hv h;have i1: ¬(node:Int)<0:=by omega
 have i2:(node:Int)<3*(f:Int)+1:=by omega
 have i3: ¬((3*f+1:Nat):Int)≤(node:Int):=by omega
 go_enter Tryz.func264,Tryz.ntmps264
 go_wp2_with fail
 refine (zgs H.out kind).mono ?_;rw [HK.out];rintro e w' ⟨rfl,rfl⟩
 go_wp2_with fail
 refine (zgl v rs _ hn HB.out).mono ?_;rintro e w1 ⟨v',rfl,hu,hbat,hnew⟩;obtain ⟨ao',cap',rfl⟩:=zca hbat;have HBAT:=zq hbat;clear hbat;have k0:=(hu.cell (o:=node*3) hbw (by simp)).trans c0;have k1:=(hu.cell (o:=node*3+1) hbw (by simp)).trans c1;have k2:=(hu.cell (o:=node*3+2) hbw (by simp)).trans c2;have g0:=(hu.frozen (o:=node*3) hbw (by simp)).trans q0;have g1:=(hu.frozen (o:=node*3+1) hbw (by simp)).trans q1;have g2:=(hu.frozen (o:=node*3+2) hbw (by simp)).trans q2;have HNEW:=zq hnew;clear c0 c1 c2 q0 q1 q2 hnew
 go_wp2_with fail
 go_ret
 exact ⟨rfl,w1,ao',cap',hu,HBAT.out,HNEW.out,rfl⟩
end Go.Proofs.YtannckelmojkoaaGreat
