/- Parts of the proof, one behind the other. -/
import Derived.Test.YtannckelmojkoaaGreatAgnB2
import Derived.Test.YtannckelmojkoaaGreatRows
import Derived.Deep.QuietTactic
import Derived.BigQuiet
import Derived.Deep.RegionWith
set_option maxHeartbeats 32000000
set_option maxRecDepth 100000
set_option linter.unusedVariables false
set_option linter.unusedSimpArgs false
namespace Go.Proofs.YtannckelmojkoaaGreat
open Go.RowKit Go.Heap
section
variable {B:Nat} {w0 W W':World} {ss:List Res}
theorem zc4 (n l m:Int) (w:World) (h1:l≤n) (h2:n≤m):Calls Tryz.prog 149 #[.int .i64 n,.int .i64 l,.int .i64 m] w fun e w'=>e= .returned (.bool true)∧w=w':=by
 go_enter Tryz.func149,Tryz.ntmps149
 go_wp2
 go_ret
 exact ⟨rfl,rfl⟩
theorem may_one (w:World):Calls Tryz.prog 150 #[.int .i64 1] w fun e w'=>e= .returned (.bool true)∧w=w':=by
 go_enter Tryz.func150,Tryz.ntmps150
 go_wp2
 go_ret
 exact ⟨rfl,rfl⟩
theorem zjd (w:World):Calls Tryz.prog 80 #[.int .i64 1] w fun e w'=>e= .returned (.int .i64 4)∧w=w':=by
 go_enter Tryz.func80,Tryz.ntmps80
 go_wp2_with fail
 refine (may_one _).mono ?_;rintro e w' ⟨rfl,rfl⟩
 go_wp2
 go_ret
 exact ⟨rfl,rfl⟩
theorem zxm (h:Own B w0 W ss):Calls Tryz.prog 153 #[] W fun e w'=> ∃p,e= .returned (.pointer (some ⟨p,0,none⟩))∧Own B w0 w' (blk p (.cells Tryz.zeroCells192 192 (0,0))::ss):=by
 have H:=zq h;clear h;go_enter Tryz.func153,Tryz.ntmps153
 go_wp2
 go_ret
 exact ⟨_,rfl,H.out.box _⟩
theorem prop_new (h:Own B w0 W ss):Calls Tryz.prog 83 #[.int .i64 1,.int .i64 2] W fun e w'=> ∃p,e= .returned (.tuple #[.pointer (some ⟨p,0,none⟩),.int .i64 0])∧Own B w0 w' (blk p (.cells #[.int .i64 1,.int .i64 2,.slice none 0 0] 244 (0,0))::ss):=by
 have H:=zq h;clear h;go_enter Tryz.func83,Tryz.ntmps83
 go_wp2
 go_ret2
 exact ⟨_,rfl,H.out.box _⟩
end
section
variable {B:Nat} {w0 W W':World} {ss:List Res}
theorem zdb {b:Nat} {T:TypeId} {cs:Array Value} {vals:List Value} (h:Own B w0 W (blk b (.cells cs T (0,0))::ss)) (e:cs.toList=vals):Own B w0 W (segR b T vals::ss):=by
 subst e;exact h.alter ⟨[],⟨⟨cs,h.blk_out,by simp,fun j hj=>by simp⟩,rfl⟩,by simp,fun k hk=>h.lt k hk⟩ (fun k hk=>hk)
def zf8 (r:Int×Int):List Value:=[.int .i64 r.1,.int .i64 r.2]
theorem made_rp0:(madeCells #[.int .i64 0,.int .i64 0] (0*2)).toList=(List.replicate 0 ((0:Int),(0:Int))).flatMap zf8:=by kernel_rfl
theorem made_rp1:(madeCells #[.int .i64 0,.int .i64 0] (1*2)).toList=(List.replicate 1 ((0:Int),(0:Int))).flatMap zf8:=by kernel_rfl
theorem made_rp2:(madeCells #[.int .i64 0,.int .i64 0] (2*2)).toList=(List.replicate 2 ((0:Int),(0:Int))).flatMap zf8:=by kernel_rfl
theorem made_rp3:(madeCells #[.int .i64 0,.int .i64 0] (3*2)).toList=(List.replicate 3 ((0:Int),(0:Int))).flatMap zf8:=by kernel_rfl
theorem made_rp4:(madeCells #[.int .i64 0,.int .i64 0] (4*2)).toList=(List.replicate 4 ((0:Int),(0:Int))).flatMap zf8:=by kernel_rfl
theorem made_rp (n:Nat) (h:n≤4):(madeCells #[.int .i64 0,.int .i64 0] (n*2)).toList=(List.replicate n ((0:Int),(0:Int))).flatMap zf8:=by
 have:n=0∨n=1∨n=2∨n=3∨n=4:=by omega
 rcases this with rfl | rfl | rfl | rfl | rfl
 ·exact made_rp0
 ·exact made_rp1
 ·exact made_rp2
 ·exact made_rp3
 ·exact made_rp4
theorem Tryz.infoRp:(Tryz.prog.info? 286).map (fun i=>(i.zero,i.size,i.bytes))=some (some (.agg #[.int .i64 0,.int .i64 0]),2,16):=by kernel_rfl
theorem zqg (n:Nat) (h2:n≤4) (wx:World):(Instr.makeSlice 287 (.int .i64 n) (.int .i64 n)).run Tryz.prog wx= .ok (.slice (some ⟨wx.heap.size,0,none⟩) n n) (wx.alloc (.cells (madeCells #[.int .i64 0,.int .i64 0] (n*2)) 286)):=by
 obtain ⟨i0,hi,hz0,hz1,hz2⟩:=info_parts Tryz.infoRp;have:=run_make (P:=Tryz.prog) wx 287 286 i0 _ Tryz.underlying287 hi hz0 .i64 .i64 (n:Int) (n:Int) (by omega) (by omega) (by rw [hz2];omega) (by omega);rw [show (n:Int).toNat=n by omega,hz1] at this;exact this
def chR (p g:Nat) (cap:Nat) (l:List (Int×Int)):List Res:=[blk p (.cells #[.slice (some ⟨g,0,none⟩) l.length cap] 289 (0,0)),segR g 286 (l.flatMap zf8)]
theorem zvb (n:Nat) (h1:1≤n) (h4:n≤4) (h:Own B w0 W ss):Calls Tryz.prog 152 #[.int .i64 n] W fun e w'=> ∃p g,e= .returned (.tuple #[.pointer (some ⟨p,0,none⟩),.int .i64 0])∧Own B w0 w' (chR p g n (List.replicate n (0,0))++ss):=by
 have H:=zq h;clear h;have hmk:=fun wx=>zqg n h4 wx;go_enter Tryz.func152,Tryz.ntmps152
 go_wp2
 go_ret2
 refine ⟨W.heap.size+1,W.heap.size,rfl,?_⟩;have h1:=(zdb (H.out.box (.cells (madeCells #[.int .i64 0,.int .i64 0] (n*2)) 286)) (made_rp n h4)).box (.cells #[.slice (some ⟨W.heap.size,0,none⟩) n n] 289 (0,0))
 simpa [chR] using h1
theorem Tryz.infocv:(Tryz.prog.info? 320).map (fun i=>(i.zero,i.size,i.bytes))=some (some (.agg #[.bool false,.int .i64 0,.int .i64 0]),3,24):=by kernel_rfl
theorem zqd (wx:World):(Instr.makeSlice 245 (.int .i64 4) (.int .i64 4)).run Tryz.prog wx= .ok (.slice (some ⟨wx.heap.size,0,none⟩) 4 4) (wx.alloc (.cells (madeCells #[.bool false,.int .i64 0,.int .i64 0] (4*3)) 320)):=by
 obtain ⟨i0,hi,hz0,hz1,hz2⟩:=info_parts Tryz.infocv;have:=run_make (P:=Tryz.prog) wx 245 320 i0 _ Tryz.underlying245 hi hz0 .i64 .i64 (4:Int) (4:Int) (by omega) (by omega) (by rw [hz2];omega) (by omega);rw [show (4:Int).toNat=4 by omega,hz1] at this;exact this
theorem Tryz.infocx:(Tryz.prog.info? 269).map (fun i=>(i.zero,i.size,i.bytes))=some (some (.complex .f64 0 0),1,16):=by kernel_rfl
theorem zqe (wx:World):(Instr.makeSlice 169 (.int .i64 2) (.int .i64 2)).run Tryz.prog wx= .ok (.slice (some ⟨wx.heap.size,0,none⟩) 2 2) (wx.alloc (.cells (madeCells #[.complex .f64 0 0] (2*1)) 269)):=by
 obtain ⟨i0,hi,hz0,hz1,hz2⟩:=info_parts Tryz.infocx;have:=run_make (P:=Tryz.prog) wx 169 269 i0 _ Tryz.underlying169 hi hz0 .i64 .i64 (2:Int) (2:Int) (by omega) (by omega) (by rw [hz2];omega) (by omega);rw [show (2:Int).toNat=2 by omega,hz1] at this;exact this
theorem Tryz.infoi17:(Tryz.prog.info? 3).map (fun i=>(i.zero,i.size,i.bytes))=some (some (.int .i64 0),1,8):=by kernel_rfl
theorem zhu (wx:World):(Instr.makeSlice 69 (.int .i64 17) (.int .i64 17)).run Tryz.prog wx= .ok (.slice (some ⟨wx.heap.size,0,none⟩) 17 17) (wx.alloc (.cells (madeCells #[.int .i64 0] (17*1)) 3)):=by
 obtain ⟨i0,hi,hz0,hz1,hz2⟩:=info_parts Tryz.infoi17;have:=run_make (P:=Tryz.prog) wx 69 3 i0 _ Tryz.underlying69 hi hz0 .i64 .i64 (17:Int) (17:Int) (by omega) (by omega) (by rw [hz2];omega) (by omega);rw [show (17:Int).toNat=17 by omega,hz1] at this;exact this
theorem Tryz.infopt:(Tryz.prog.info? 260).map (fun i=>(i.zero,i.size,i.bytes))=some (some (.agg #[.int .i64 0,.int .i64 0,.slice none 0 0,.slice none 0 0,.int .i64 0]),5,72):=by kernel_rfl
theorem zqf (wx:World):(Instr.makeSlice 137 (.int .i64 4) (.int .i64 4)).run Tryz.prog wx= .ok (.slice (some ⟨wx.heap.size,0,none⟩) 4 4) (wx.alloc (.cells (madeCells #[.int .i64 0,.int .i64 0,.slice none 0 0,.slice none 0 0,.int .i64 0] (4*5)) 260)):=by
 obtain ⟨i0,hi,hz0,hz1,hz2⟩:=info_parts Tryz.infopt;have:=run_make (P:=Tryz.prog) wx 137 260 i0 _ Tryz.underlying137 hi hz0 .i64 .i64 (4:Int) (4:Int) (by omega) (by omega) (by rw [hz2];omega) (by omega);rw [show (4:Int).toNat=4 by omega,hz1] at this;exact this
theorem Tryz.infobg:(Tryz.prog.info? 262).map (fun i=>(i.zero,i.size,i.bytes))=some (some (.agg #[.int .i64 0,.int .i64 0,.int .i64 0,.int .i64 0,.int .i64 0,.int .i64 0,.int .i64 0,.slice none 0 0,.slice none 0 0,.slice none 0 0,.slice none 0 0]),11,152):=by kernel_rfl
theorem zqc (wx:World):(Instr.makeSlice 138 (.int .i64 2) (.int .i64 2)).run Tryz.prog wx= .ok (.slice (some ⟨wx.heap.size,0,none⟩) 2 2) (wx.alloc (.cells (madeCells #[.int .i64 0,.int .i64 0,.int .i64 0,.int .i64 0,.int .i64 0,.int .i64 0,.int .i64 0,.slice none 0 0,.slice none 0 0,.slice none 0 0,.slice none 0 0] (2*11)) 262)):=by
 obtain ⟨i0,hi,hz0,hz1,hz2⟩:=info_parts Tryz.infobg;have:=run_make (P:=Tryz.prog) wx 138 262 i0 _ Tryz.underlying138 hi hz0 .i64 .i64 (2:Int) (2:Int) (by omega) (by omega) (by rw [hz2];omega) (by omega);rw [show (2:Int).toNat=2 by omega,hz1] at this;exact this
theorem zrc (h:Own B w0 W ss):Calls Tryz.prog 84 #[.int .i64 1] W fun e w'=> ∃(p g:Nat),e= .returned (.tuple #[.pointer (some ⟨p,0,none⟩),.int .i64 0])∧Own B w0 w' (blk p (.cells #[.int .i64 1,.slice (some ⟨g,0,none⟩) 4 4] 247 (0,0))::blk g (.cells (madeCells #[.bool false,.int .i64 0,.int .i64 0] (4*3)) 320 (0,0))::ss):=by
 have H:=zq h;clear h;have hmk:=zqd;go_enter Tryz.func84,Tryz.ntmps84
 go_wp2_with fail
 refine (zjd _).mono ?_;rintro e w' ⟨rfl,rfl⟩
 go_wp2
 go_ret2
 exact ⟨W.heap.size+1,W.heap.size,rfl,(H.out.box _).boxAt _ (by simp)⟩
theorem zv9 (h:Own B w0 W ss):Calls Tryz.prog 87 #[.int .i64 2] W fun e w'=> ∃(p g:Nat),e= .returned (.tuple #[.pointer (some ⟨p,0,none⟩),.int .i64 0])∧Own B w0 w' (blk p (.cells #[.slice (some ⟨g,0,none⟩) 2 2] 254 (0,0))::blk g (.cells (madeCells #[.complex .f64 0 0] (2*1)) 269 (0,0))::ss):=by
 have H:=zq h;clear h;have hmk:=zqe;go_enter Tryz.func87,Tryz.ntmps87
 go_wp2
 go_ret2
 exact ⟨W.heap.size+1,W.heap.size,rfl,(H.out.box _).boxAt _ (by simp)⟩
theorem zkt (h:Own B w0 W ss):Calls Tryz.prog 31 #[] W fun e w'=> ∃(p m:Nat),e= .returned (.pointer (some ⟨p,0,none⟩))∧Own B w0 w' (blk p (.cells #[.map (some m)] 152 (0,0))::blk m (.map #[] 0)::ss):=by
 have H:=zq h;clear h;have hmm:=@run_makeMap Tryz.prog;go_enter Tryz.func31,Tryz.ntmps31
 go_wp2
 go_ret
 exact ⟨W.heap.size+1,W.heap.size,rfl,(H.out.box _).boxAt _ (by simp)⟩
end
theorem zf6 {k:IntKind} {a b:Int} (h:a=b):Ending.returned (.int k a)= .returned (.int k b):=by rw [h]
theorem zad {a b:Bool} (h:a=b):Ending.returned (.bool a)= .returned (.bool b):=by rw [h]
structure Rq where
 client:Int
 time:Int
 kind:Int
 key:Int
 val:Int
 sl:Int
deriving DecidableEq
def zas (r:Rq):List Value:=[.int .i64 r.client,.int .i64 r.time,.int .i64 r.kind,.int .i64 r.key,.int .i64 r.val,.int .i64 r.sl]
def zaq (rs:List Rq):List Value:=rs.flatMap zas
theorem zev (rs:List Rq):(zaq rs).length=rs.length*6:=by
 induction rs with
 | nil=>rfl
 | cons p ps ih=>simp only [zaq,List.flatMap_cons,List.length_append] at*;rw [ih];simp [zas];omega
theorem zm5 (rs:List Rq): ∀k p,rs[k]?=some p→(zaq rs)[k*6]?=some (.int .i64 p.client)∧(zaq rs)[k*6+1]?=some (.int .i64 p.time)∧(zaq rs)[k*6+2]?=some (.int .i64 p.kind)∧
  (zaq rs)[k*6+3]?=some (.int .i64 p.key)∧(zaq rs)[k*6+4]?=some (.int .i64 p.val)∧(zaq rs)[k*6+5]?=some (.int .i64 p.sl):=by
 induction rs with
 | nil=>intro k p h;simp at h
 | cons q rs ih=>
  intro k p h
  match k with
  | 0=>simp at h;subst h;exact ⟨rfl,rfl,rfl,rfl,rfl,rfl⟩
  | k+1=>
   have:=ih k p (by simpa using h);rw [show (k+1)*6=k*6+6 by omega];exact this
theorem ze1 (rs:List Rq): ∀u∈zaq rs,u.oneCell'=true:=by
 intro u hu;simp only [zaq,List.mem_flatMap] at hu;obtain ⟨r,_,h⟩:=hu;simp only [zas,List.mem_cons,List.not_mem_nil,or_false] at h;rcases h with rfl | rfl | rfl | rfl | rfl | rfl<;>rfl
def Bat (w:World) (v:Value) (rs:List Rq):Prop:=Reads w v 6 rs.length (zaq rs)
theorem Tryz.infoReq:(Tryz.prog.info? 38).map (fun i=>(i.zero,i.size,i.bytes))=some (some (.agg #[.int .i64 0,.int .i64 0,.int .i64 0,.int .i64 0,.int .i64 0,.int .i64 0]),6,48):=by kernel_rfl
theorem zgj (v:Value) (rs:List Rq) (w:World) (hn:rs.length≤100000) (h:Bat w v rs):
  Calls Tryz.prog 252 #[v] w fun e w'=> ∃v',e= .returned v'∧Upd [] w w'∧Bat w' v' rs∧ ∀k∈blkOf v',w.heap.size≤k∧k<w'.heap.size:=by
 obtain ⟨i0,hi,hz0,hz1,hz2⟩:=info_parts Tryz.infoReq;have h':=h;obtain ⟨ao,cap,rfl,h1,h2,h3,h4,h5⟩:=h';clear h1 h2 h3;cases ao with
 | none=>
  obtain ⟨hr,rfl⟩:=h4 rfl;have:rs=[]:=List.eq_nil_of_length_eq_zero hr;subst this;clear hr h4 h5;go_enter Tryz.func252,Tryz.ntmps252
  go_wp2
  go_ret
  exact ⟨_,rfl,Upd.refl _ _,Reads.nil _ _,by simp [blkOf]⟩
 | some a=>
  clear h4;by_cases h0:rs.length=0
  ·have:rs=[]:=List.eq_nil_of_length_eq_zero h0
   subst this;clear h5 h0;go_enter Tryz.func252,Tryz.ntmps252
   go_wp2
   go_ret
   exact ⟨_,rfl,Upd.refl _ _,Reads.nil _ _,by simp [blkOf]⟩
  ·obtain ⟨b,o,hab,hb,hc⟩:=h5 (by omega)
   simp only [Option.some.injEq] at hab;subst hab;clear h5;have hpos:0<rs.length:=by omega
   clear h0;have hnews: ∀j u,(zaq rs)[j]?=some u→w.cell? ((⟨b,o,none⟩:Addr).add j)=some u:=by
    intro j u hj;have hl:=(List.getElem?_eq_some_iff.1 hj).1;rw [zev] at hl;have:(⟨b,o,none⟩:Addr).add j=⟨b,o+j,none⟩:=by unfold Addr.add;split<;>simp_all
    rw [this,hc j hl];exact hj
   have HN:=zq hnews;clear hc hnews;go_enter Tryz.func252,Tryz.ntmps252
   go_wp2_with (at_builtin;refine wpList_append_lies _ rfl (.const (.slice none 0 0)) (.tmp 3) 39 rfl w.heap.size 38 i0 (.agg #[.int .i64 0,.int .i64 0,.int .i64 0,.int .i64 0,.int .i64 0,.int .i64 0]) 6 48 Tryz.underlying39 hi hz0 hz1 hz2 rfl (by decide) _ 0 [] rfl (World.ownsRow_nil _ _ _ _) ⟨b,o,none⟩ rs.length cap (zaq rs) rfl (zev rs) HN.out (ze1 rs) hpos ?c3 ?c4 (Nat.le_refl _) w.heap.size rfl ?c6)
   case c3=>unfold maxLen;omega
   case c4=>omega
   case c6=>
    intro g cap2 w2 hown hgrow hat hlt;have hg:g=w.heap.size:=by
     rcases hat with h | h
     ·cases h
     ·exact h
    subst hg;try simp only [Nat.zero_add,List.nil_append] at hown
    have HO:=zq hown;clear hown hat
    go_wp2
    go_ret
    refine ⟨_,rfl,(Upd.refl _ _).grown hgrow (by intro k hk;cases hk),Reads.of_own HO.out,by simp [blkOf];exact hlt⟩
def rqAgg (r:Rq):Value:= .agg #[.int .i64 r.client,.int .i64 r.time,.int .i64 r.kind,.int .i64 r.key,.int .i64 r.val,.int .i64 r.sl]
theorem Tryz.guardReq:Tryz.prog.eqGuardType Tryz.prog.depth 38=false:=by kernel_rfl
theorem zcx (r s:Rq) (w:World):(Op.equalIn 10000 38 (rqAgg r) (rqAgg s)).run Tryz.prog w= .ok (decide (r=s)) w:=by
 obtain ⟨a,b,c,d,e,f⟩:=r;obtain ⟨a',b',c',d',e',f'⟩:=s;simp [rqAgg,go_sem];by_cases h1:a=a'
 ·by_cases h2:b=b'
  ·by_cases h3:c=c'
   ·by_cases h4:d=d'
    ·by_cases h5:e=e'
     ·by_cases h6:f=f'<;>simp [*]
     ·simp [*]
    ·simp [*]
   ·simp [*]
  ·simp [*]
 ·simp [*]
theorem addr_add (b o j:Nat):(⟨b,o,none⟩:Addr).add j=⟨b,o+j,none⟩:=by unfold Addr.add;split<;>simp_all
theorem zb8 {w:World} {b o:Nat} {rs:List Rq} (hc: ∀j,j<rs.length*6→w.cell? ⟨b,o+j,none⟩=(zaq rs)[j]?) (k:Nat) (p:Rq) (hp:rs[k]?=some p):
  w.cell? ⟨b,o+k*6,none⟩=some (.int .i64 p.client)∧w.cell? ⟨b,o+k*6+1,none⟩=some (.int .i64 p.time)∧w.cell? ⟨b,o+k*6+2,none⟩=some (.int .i64 p.kind)∧
  w.cell? ⟨b,o+k*6+3,none⟩=some (.int .i64 p.key)∧w.cell? ⟨b,o+k*6+4,none⟩=some (.int .i64 p.val)∧w.cell? ⟨b,o+k*6+5,none⟩=some (.int .i64 p.sl):=by
 have hk:=(List.getElem?_eq_some_iff.1 hp).1;obtain ⟨e0,e1,e2,e3,e4,e5⟩:=zm5 rs k p hp;refine ⟨?_,?_,?_,?_,?_,?_⟩
 ·exact (hc _ (by omega)).trans e0
 ·exact (hc (k*6+1) (by omega)).trans e1
 ·exact (hc (k*6+2) (by omega)).trans e2
 ·exact (hc (k*6+3) (by omega)).trans e3
 ·exact (hc (k*6+4) (by omega)).trans e4
 ·exact (hc (k*6+5) (by omega)).trans e5
theorem zdc {w wr:World} {b o n:Nat} {xs:List Value} {B:Nat} (hb:Below B w wr) (hlt:b<B) (hc: ∀j,j<n→w.cell? ⟨b,o+j,none⟩=xs[j]?): ∀j,j<n→wr.cell? ⟨b,o+j,none⟩=xs[j]?:=
 fun j hj=>(hb.cell (p:=⟨b,o+j,none⟩) hlt).trans (hc j hj)
theorem take_same {α:Type} {rs ss:List α} {k:Nat} (h:rs.take k=ss.take k) (hk:k<rs.length) (hk':k<ss.length) (he:rs[k]=ss[k]):rs.take (k+1)=ss.take (k+1):=by
 rw [List.take_succ_eq_append_getElem hk,List.take_succ_eq_append_getElem hk',h,he]
theorem same_any (v u:Value) (rs ss:List Rq) (w:World) (hn:rs.length≤100000) (hm:ss.length≤100000) (h:Bat w v rs) (h':Bat w u ss):
  Calls Tryz.prog 309 #[v,u] w fun e w'=>e= .returned (.bool (decide (rs=ss)))∧Upd [] w w':=by
 obtain ⟨ao,cap,rfl,h1,h2,h3,h4,h5⟩:=h;obtain ⟨bo,cap',rfl,k1,k2,k3,k4,k5⟩:=h';clear h1 h2 h3 h4 k1 k2 k3 k4;have H5:=zq h5;have K5:=zq k5;clear h5 k5;by_cases hlen:rs.length=ss.length
 ·have HL:=zq hlen
  have hlb:((rs.length:Int) !=(ss.length:Int))=false:=by simp [hlen]
  have hle1:rs.length≤ss.length:=by omega
  have hle2:ss.length≤rs.length:=by omega
  clear hlen;go_enter Tryz.func309,Tryz.ntmps309
  go_wp2_with fail
  go_loopw [14] (fun i wr=> ∃k:Nat,k≤rs.length∧i= .int .i64 k∧rs.take k=ss.take k∧Below w.heap.size w wr) (fun i _=>rs.length-(intOf i).toNat)
  case atStart=>exact ⟨0,by omega,rfl,by simp,Below.refl _ _⟩
  case round=>
   obtain ⟨k,hk,rfl,he,hb⟩:=hrel;have HE:=zq he;clear he;by_cases hlt:k<rs.length
   ·obtain ⟨b,o,rfl,hbs,hc⟩:=H5.out (by omega)
    obtain ⟨b',o',rfl,hbs',hc'⟩:=K5.out (by omega);have hlt':k<ss.length:=by omega
    obtain ⟨q0,q1,q2,q3,q4,q5⟩:=zb8 (zdc hb hbs hc) k rs[k] (by simp);obtain ⟨p0,p1,p2,p3,p4,p5⟩:=zb8 (zdc hb hbs' hc') k ss[k] (by simp);clear hc hc';have hkI:(k:Int)<(ss.length:Int):=by omega
    have hbw:b'<wr.heap.size:=Nat.lt_of_lt_of_le hbs' hb.size;have hbn:b'≠wr.heap.size:=by omega
    by_cases he:rs[k]=ss[k]
    ·have heq: ∀wx,(Op.equalIn 10000 38 (rqAgg rs[k]) (rqAgg ss[k])).run Tryz.prog wx= .ok true wx:=fun wx=>by rw [zcx];simp [he]
     have HEK:=zq he;clear he;unfold rqAgg at heq;have hgd:=Tryz.guardReq
     go_wp2_with fail
     go_quiet (fail)
     go_wp2_with fail
     go_roundw
     case rel=>exact ⟨k+1,by omega,by go_num,take_same HE.out hlt hlt' HEK.out,below_drewN (hb.alloc hb.size _) _⟩
     case measure=>simp [intOf];omega
    ·have heq: ∀wx,(Op.equalIn 10000 38 (rqAgg rs[k]) (rqAgg ss[k])).run Tryz.prog wx= .ok false wx:=fun wx=>by rw [zcx];simp [he]
     have HEK:=zq he;clear he;unfold rqAgg at heq;have hgd:=Tryz.guardReq
     go_wp2_with fail
     go_quiet (fail)
     go_wp2_with fail
     go_ret
     refine ⟨zad ?_,Upd.of_below (below_drewN (hb.alloc hb.size _) _)⟩;symm;rw [decide_eq_false_iff_not];intro e;subst e;exact HEK.out rfl
   ·go_wp2_with fail
    go_ret
    refine ⟨zad ?_,Upd.of_below hb⟩;symm;rw [decide_eq_true_iff];have h1:=HE.out;rw [List.take_of_length_le (by omega),List.take_of_length_le (by omega)] at h1;exact h1
 ·have hlb:((rs.length:Int) !=(ss.length:Int))=true:=by simp;omega
  have HL:=zq hlen;clear hlen;go_enter Tryz.func309,Tryz.ntmps309
  go_wp2_with fail
  go_ret
  refine ⟨zad ?_,Upd.refl _ _⟩;symm;rw [decide_eq_false_iff_not];intro e;exact HL.out (by rw [e])
structure Vt where
 has:Bool
 sl:Int
 batch:List Rq
abbrev Vs:=List (Int×Int)
def zan (l:Vs):List Value:=l.flatMap fun p=>[.int .i64 p.1,.int .i64 p.2]
theorem zqu (l:Vs): ∀k p,l[k]?=some p→(zan l)[k*2]?=some (.int .i64 p.1)∧(zan l)[k*2+1]?=some (.int .i64 p.2):=by
 induction l with
 | nil=>intro k p h;simp at h
 | cons q l ih=>
  intro k p h
  match k with
  | 0=>simp at h;subst h;exact ⟨rfl,rfl⟩
  | k+1=>
   have:=ih k p (by simpa using h);rw [show (k+1)*2=k*2+2 by omega];exact this
theorem zqt (l:Vs) (p:Int×Int):zan (l++[p])=zan l++[.int .i64 p.1,.int .i64 p.2]:=by simp [zan]
def Vts (w:World) (v:Value) (l:Vs):Prop:=Reads w v 2 l.length (zan l)
def zbz (w:World) (b:Nat) (vs:List Vt) (D:List Nat):Prop:=
 ∃arr,w.heap[b]?=some (.cells arr 371 (0,0))∧vs.length*3≤arr.size∧
  ∀i t,vs[i]?=some t→ ∃v,arr[i*3]?=some (.bool t.has)∧arr[i*3+1]?=some (.int .i64 t.sl)∧arr[i*3+2]?=some v∧Bat w v t.batch∧ ∀k∈blkOf v,k∈D
theorem zbz.upd {w w':World} {M:List Nat} {b:Nat} {vs:List Vt} {D:List Nat} (h:zbz w b vs D) (hu:Upd M w w') (hb:b∉M) (hD: ∀k∈D,k∉M):zbz w' b vs D:=by
 obtain ⟨arr,h1,h2,h3⟩:=h;refine ⟨arr,by rw [hu.block b (block_lt h1) hb];exact h1,h2,fun i t hi=> ?_⟩;obtain ⟨v,a1,a2,a3,a4,a5⟩:=h3 i t hi;exact ⟨v,a1,a2,a3,a4.upd hu (fun k hk=>hD k (a5 k hk)),a5⟩
theorem zbz.cells {w:World} {b:Nat} {vs:List Vt} {D:List Nat} (h:zbz w b vs D) (i:Nat) (t:Vt) (hi:vs[i]?=some t):
  ∃v,w.cell? ⟨b,i*3,none⟩=some (.bool t.has)∧w.cell? ⟨b,i*3+1,none⟩=some (.int .i64 t.sl)∧w.cell? ⟨b,i*3+2,none⟩=some v∧Bat w v t.batch∧b<w.heap.size∧(∀k∈blkOf v,k∈D)∧ ∀o,w.frozen? ⟨b,o,none⟩=false:=by
 obtain ⟨arr,h1,h2,h3⟩:=h;obtain ⟨v,a1,a2,a3,a4,a5⟩:=h3 i t hi;exact ⟨v,by rw [zab h1];exact a1,by rw [zab h1];exact a2,by rw [zab h1];exact a3,a4,block_lt h1,a5,zac h1⟩
def goodB (batch:List Rq) (t:Vt):Bool:=t.has&&decide (t.batch=batch)
def picks (batch:List Rq):List Vt→Nat→Vs
 | [],_=>[]
 | t::l,k=>if goodB batch t then ((k:Int),t.sl)::picks batch l (k+1) else picks batch l (k+1)
theorem zwy (batch:List Rq) (t:Vt): ∀(l:List Vt) (k:Nat),picks batch (l++[t]) k=picks batch l k++if goodB batch t then [(((k+l.length:Nat):Int),t.sl)] else []:=by
 intro l
 induction l with
 | nil=>intro k;simp [picks]
 | cons s l ih=>
  intro k;simp only [List.cons_append,picks,ih,List.length_cons];rw [show k+1+l.length=k+(l.length+1) by omega];split<;>simp
def picked (batch:List Rq) (l:List Vt) (q k:Nat):Vs:=(picks batch (l.take k) 0).take q
theorem zit (batch:List Rq) (l:List Vt) (q:Nat):picked batch l q 0=[]:=by simp [picked,picks]
theorem zwx (batch:List Rq) (l:List Vt) (q k:Nat):(picked batch l q k).length≤q:=by simp [picked];omega
theorem zp7 (batch:List Rq) (l:List Vt) (q k:Nat) (hk:k<l.length):
  picked batch l q (k+1)=if goodB batch l[k]&&decide ((picked batch l q k).length<q) then picked batch l q k++[((k:Int),l[k].sl)] else picked batch l q k:=by
 unfold picked;rw [List.take_succ_eq_append_getElem hk,zwy,List.length_take,Nat.min_eq_left (by omega),Nat.zero_add];generalize picks batch (l.take k) 0=A;cases hg:goodB batch l[k]
 ·simp
 ·by_cases hl:A.length<q
  ·have e1:(A.take q).length<q:=by rw [List.length_take];omega
   rw [if_pos rfl,if_pos (by simp only [Bool.true_and,decide_eq_true_eq];exact e1),List.take_append,List.take_of_length_le (by omega:A.length≤q)];congr 1
   rw [List.take_of_length_le (by simp;omega)]
  ·have e1: ¬(A.take q).length<q:=by rw [List.length_take];omega
   rw [if_pos rfl,if_neg (by simp only [Bool.true_and,decide_eq_true_eq];exact e1),List.take_append_of_le_length (by omega)]
def zb5 (l:List Vt) (batch:List Rq) (q:Nat):Option Vs:=
 if (picks batch l 0).length<q then none else some ((picks batch l 0).take q)
theorem zhm (batch:List Rq) (l:List Vt) (q:Nat):picked batch l q l.length=(picks batch l 0).take q:=by simp [picked]
theorem zpl {l:List Vt} {batch:List Rq} {q:Nat} (h:(picked batch l q l.length).length<q):zb5 l batch q=none:=by
 rw [zhm,List.length_take] at h;unfold zb5;rw [if_pos (by omega)]
theorem zpm {l:List Vt} {batch:List Rq} {q:Nat} (h: ¬(picked batch l q l.length).length<q):zb5 l batch q=some (picked batch l q l.length):=by
 rw [zhm,List.length_take] at h;unfold zb5;rw [if_neg (by omega),zhm]
theorem zkp (f:Int) (w:World) (h1:1≤f) (h2:f≤4):Calls Tryz.prog 150 #[.int .i64 f] w fun e w'=>e= .returned (.bool true)∧w=w':=by
 go_enter Tryz.func150,Tryz.ntmps150
 go_wp2
 go_ret
 exact ⟨rfl,rfl⟩
theorem zfd (f:Int) (w:World) (h1:1≤f) (h2:f≤4):Calls Tryz.prog 213 #[.int .i64 f] w fun e w'=>e= .returned (.int .i64 (2*f+1))∧w=w':=by
 go_enter Tryz.func213,Tryz.ntmps213
 go_wp2_with fail
 refine (zkp f _ h1 h2).mono ?_;rintro e w' ⟨rfl,rfl⟩
 go_wp2_with fail
 go_ret
 exact ⟨rfl,rfl⟩
theorem za4 (f:Int) (w:World) (h1:1≤f) (h2:f≤4):Calls Tryz.prog 80 #[.int .i64 f] w fun e w'=>e= .returned (.int .i64 (3*f+1))∧w=w':=by
 go_enter Tryz.func80,Tryz.ntmps80
 go_wp2_with fail
 refine (zkp f _ h1 h2).mono ?_;rintro e w' ⟨rfl,rfl⟩
 go_wp2_with fail
 go_ret
 exact ⟨rfl,rfl⟩
theorem Tryz.infoVote:(Tryz.prog.info? 177).map (fun i=>(i.zero,i.size,i.bytes))=some (some (.agg #[.int .i64 0,.int .i64 0]),2,16):=by kernel_rfl
theorem zum {w:World} {B:Nat} {v:Value} {l:Vs} {n:Nat} (hn:l.length=n) (h:w.ownsRow B 177 2 v n (zan l)):Vts w v l∧ ∀k∈blkOf v,B≤k:=by
 subst hn;rcases h.2 with ⟨rfl,hn⟩ | ⟨g,cap,cur,rfl,hb,_⟩
 ·have:l=[]:=List.eq_nil_of_length_eq_zero hn
  subst this;exact ⟨Reads.nil _ _,by simp [blkOf]⟩
 ·exact ⟨Reads.of_own h,by simp [blkOf];exact hb⟩
theorem zb9 {w:World} {v:Value} {rs:List Rq} (h:Bat w v rs): ∃ao cap,v= .slice ao rs.length cap:=let ⟨ao,cap,hv,_⟩:=h;⟨ao,cap,hv⟩
theorem zkg (s b cap:Nat) (v:Value) (f:Nat) (l:List Vt) (D:List Nat) (batch:List Rq) (w:World) (h1:1≤f) (h2:f≤4) (hl:l.length≤13) (hs:s<w.heap.size)
  (hcap:1≤l.length)
  (hf:w.cell? ⟨s,0,none⟩=some (.int .i64 f)) (hv:zbz w b l D) (hb:Bat w v batch) (hbl:batch.length≤100000) (hbs: ∀t∈l,t.batch.length≤100000):
  Calls Tryz.prog 304 #[.pointer (some ⟨s,0,none⟩),.slice (some ⟨b,0,none⟩) l.length cap,v] w fun e w'=>
   ∃u,e= .returned (.tuple #[u,.bool (zb5 l batch (2*f+1)).isSome])∧Below w.heap.size w w'∧Vts w' u ((zb5 l batch (2*f+1)).getD [])∧ ∀k∈blkOf u,w.heap.size≤k:=by
 obtain ⟨i0,hi,hz0,hz1,hz2⟩:=info_parts Tryz.infoVote;have HV:=zq hv;have HB:=zq hb;have HBS:=zq hbs;clear hv hb hbs;go_enter Tryz.func304,Tryz.ntmps304
 go_wp2_with fail
 go_loopw [8,13] (fun out i wr=> ∃(k:Nat) (ao:Option Addr) (cp:Nat),k≤l.length∧i= .int .i64 k∧out= .slice ao (picked batch l (2*f+1) k).length cp∧Below w.heap.size w wr∧
   Hid (wr.ownsRow w.heap.size 177 2 (.slice ao (picked batch l (2*f+1) k).length cp) (picked batch l (2*f+1) k).length (zan (picked batch l (2*f+1) k)))) (fun _ i _=>l.length-(intOf i).toNat)
 case atStart=>
  refine ⟨0,none,0,by omega,rfl,?_,Below.refl _ _,?_⟩
  ·rw [zit];rfl
  ·rw [zit];exact World.ownsRow_nil _ _ _ _
 case round=>
  obtain ⟨k,ao,cp,hk,rfl,rfl,hbel,hown⟩:=hrel;have hz:=hbel.size;have hple:=zwx batch l (2*f+1) k;have hkf:=(hbel.cell (p:=⟨s,0,none⟩) hs).trans hf;by_cases hlt:k<l.length
  ·have hsucc:=zq (zp7 batch l (2*f+1) k hlt)
   generalize picked batch l (2*f+1) k=A at*;have hvr:=HV.out.upd (M:=[]) (Upd.of_below hbel) (by simp) (by simp);obtain ⟨bv,c0,c1,c2,hbat,hbw,_,_⟩:=hvr.cells k l[k] (by simp);obtain ⟨bo,bcap,rfl⟩:=zb9 hbat;have HBAT:=zq hbat;have HBR:=zq (HB.out.upd (M:=[]) (Upd.of_below hbel) (by simp));have hlk:=HBS.out l[k] (by simp);have hkI:(k:Int)<(l.length:Int):=by omega
   clear hvr hbat;by_cases hhas:l[k].has=true
   ·rw [hhas] at c0
    have HHAS:=zq hhas;clear hhas
    go_wp2_with fail
    refine (same_any _ v l[k].batch batch _ hlk hbl (HBAT.out.upd (M:=[]) ((Upd.refl _ _).alloc _) (by simp)) (HBR.out.upd (M:=[]) ((Upd.refl _ _).alloc _) (by simp))).mono ?_;rintro e w2 ⟨rfl,hu2⟩;have hbB:Below (wr.heap.size+1) (wr.alloc (.cells #[.bool true,.int .i64 l[k].sl,.slice bo l[k].batch.length bcap] 371)) w2:=by have:=hu2.below;simpa using this
    have x1:w2.cell? ⟨wr.heap.size,1,none⟩=some (.int .i64 l[k].sl):=(hbB.cell (p:=⟨wr.heap.size,1,none⟩) (Nat.lt_succ_self _)).trans (by rw [zab (heap_alloc_new wr _)];rfl);have hsr:s<wr.heap.size:=Nat.lt_of_lt_of_le hs hz;have x2:w2.cell? ⟨s,0,none⟩=some (.int .i64 f):=((hbB.cell (p:=⟨s,0,none⟩) (Nat.lt_succ_of_lt hsr)).trans (World.cell?_alloc_past _ _ _ hsr)).trans hkf;have hw2:=hbB.size;have hbelw:Below w.heap.size w w2:=(hbel.alloc hz _).trans (hbB.mono (by omega));clear c0 c1 c2 hkf;by_cases hsm:l[k].batch=batch
    ·have HSM:=zq hsm
     rw [decide_eq_true hsm];clear hsm
     go_wp2_with fail
     refine (zfd f _ (by omega) (by omega)).mono ?_;rintro e w' ⟨rfl,rfl⟩;have hgood:goodB batch l[k]=true:=by simp [goodB,HHAS.out,HSM.out]
     rw [hgood,Bool.true_and] at hsucc;clear hgood;by_cases hlen:A.length<2*f+1
     ·have hq:(A.length:Int)<2*(f:Int)+1:=by omega
      have hle:A.length≤13:=by omega
      have hzz:=hbelw.size;have ho2:=(zez (M:=[]) hown.out (Upd.of_below ((Below.refl _ _).alloc (Nat.le_refl _) (.cells #[.bool true,.int .i64 l[k].sl,.slice bo l[k].batch.length bcap] 371))) (by simp));have ho3:=(zez (M:=[]) ho2 hu2 (by simp)).alloc (.cells #[.int .i64 k,.int .i64 l[k].sl] 177);have HO:=zq ho3;clear ho2 ho3
      go_wp2_with (at_builtin;refine wpList_append_lies _ rfl (.tmp 36) (.tmp 41) 40 rfl w.heap.size 177 i0 (.agg #[.int .i64 0,.int .i64 0]) 2 16 Tryz.underlying40 hi hz0 hz1 hz2 rfl (by decide) _ A.length (zan A) rfl HO.out ⟨w2.heap.size,0,none⟩ 1 1 [.int .i64 k,.int .i64 l[k].sl] rfl rfl ?c1 ?c2 (by decide) ?c3 ?c4 ?c5 (w2.heap.size+1) (by simp) ?c6)
      case c1=>intro j u hj;match j,hj with | 0,hj=>simp at hj;subst hj;simp [Addr.add] | 1,hj=>simp at hj;subst hj;simp [Addr.add]
      case c2=>intro u hu;simp at hu;rcases hu with rfl | rfl<;>rfl
      case c3=>unfold maxLen;omega
      case c4=>omega
      case c5=>simp;omega
      case c6=>
       intro g cap2 w3 hown3 hgrow hat hlt3;have hsucc':picked batch l (2*f+1) (k+1)=A++[((k:Int),l[k].sl)]:=by rw [hsucc.out,if_pos (decide_eq_true hlen)]
       have HSU:=zq hsucc';clear hsucc';have H3:=zq hown3;clear hown3;have hbel3:Below w.heap.size w w3:=(hbelw.alloc hbelw.size _).grown hgrow (by simp;omega) (by intro j hj;exact (hown.out.lt j hj).1)
       go_wp2_with fail
       go_roundw
       case rel=>
        refine ⟨k+1,some ⟨g,0,none⟩,cap2,by omega,by go_num,?_,hbel3,?_⟩
        ·rw [HSU.out];simp
        ·rw [HSU.out,zqt,List.length_append];exact H3
       case measure=>simp [intOf];omega
     ·have hq: ¬(A.length:Int)<2*(f:Int)+1:=by omega
      have hqb:decide ((A.length:Int)<2*(f:Int)+1)=false:=by simp;omega
      go_wp2_with fail
      go_roundw
      have hsucc':picked batch l (2*f+1) (k+1)=A:=by rw [hsucc.out,if_neg (by simpa using hlen)]
      case rel=>
       refine ⟨k+1,ao,cp,by omega,by go_num,by rw [hsucc'],hbelw,?_⟩;rw [hsucc'];exact (zez (M:=[]) (zez (M:=[]) hown.out (Upd.of_below ((Below.refl _ _).alloc (Nat.le_refl _) (.cells #[.bool true,.int .i64 l[k].sl,.slice bo l[k].batch.length bcap] 371))) (by simp)) hu2 (by simp))
      case measure=>simp [intOf];omega
    ·have HSM:=zq hsm
     rw [decide_eq_false hsm];clear hsm
     go_wp2_with fail
     go_roundw
     have hgood:goodB batch l[k]=false:=by simp [goodB,HSM.out]
     have hsucc':picked batch l (2*f+1) (k+1)=A:=by rw [hsucc.out,hgood];rfl
     case rel=>
      refine ⟨k+1,ao,cp,by omega,by go_num,by rw [hsucc'],hbelw,?_⟩;rw [hsucc'];exact (zez (M:=[]) (zez (M:=[]) hown.out (Upd.of_below ((Below.refl _ _).alloc (Nat.le_refl _) (.cells #[.bool true,.int .i64 l[k].sl,.slice bo l[k].batch.length bcap] 371))) (by simp)) hu2 (by simp))
     case measure=>simp [intOf];omega
   ·have hhas':l[k].has=false:=by simpa using hhas
    rw [hhas'] at c0;have HHAS:=zq hhas';clear hhas hhas'
    go_wp2_with fail
    go_roundw
    have hgood:goodB batch l[k]=false:=by simp [goodB,HHAS.out]
    have hsucc':picked batch l (2*f+1) (k+1)=A:=by rw [hsucc.out,hgood];rfl
    case rel=>
     refine ⟨k+1,ao,cp,by omega,by go_num,by rw [hsucc'],hbel.alloc hz _,?_⟩;rw [hsucc'];exact zez (M:=[]) hown.out (Upd.of_below ((Below.refl _ _).alloc (Nat.le_refl _) _)) (by simp)
    case measure=>simp [intOf];omega
  ·have hkl:k=l.length:=by omega
   subst hkl;have HN:=zq (fun h=>zpl (l:=l) (batch:=batch) (q:=2*f+1) h);have HY:=zq (fun h=>zpm (l:=l) (batch:=batch) (q:=2*f+1) h);generalize picked batch l (2*f+1) l.length=A at*
   go_wp2_with fail
   refine (zfd f _ (by omega) (by omega)).mono ?_;rintro e w' ⟨rfl,rfl⟩;by_cases hlen:A.length<2*f+1
   ·have hq:(A.length:Int)<2*(f:Int)+1:=by omega
    go_wp2_with fail
    go_ret2
    refine ⟨.slice none 0 0,?_,hbel,?_,?_⟩
    ·rw [HN.out hlen];rfl
    ·rw [HN.out hlen];exact Reads.nil _ _
    ·simp [blkOf]
   ·have hq: ¬(A.length:Int)<2*(f:Int)+1:=by omega
    have hqb:decide ((A.length:Int)<2*(f:Int)+1)=false:=by simp;omega
    go_wp2_with fail
    go_ret2
    obtain ⟨r1,r2⟩:=zum rfl hown.out;refine ⟨.slice ao A.length cp,?_,hbel,?_,r2⟩
    ·rw [HY.out hlen];rfl
    ·rw [HY.out hlen];exact r1
end Go.Proofs.YtannckelmojkoaaGreat
