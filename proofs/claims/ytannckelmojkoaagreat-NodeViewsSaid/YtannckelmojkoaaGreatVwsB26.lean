/- Parts of the proof, one behind the other. -/
import Derived.Test.YtannckelmojkoaaGreatVwsB25
set_option maxHeartbeats 32000000
set_option maxRecDepth 100000
set_option linter.unusedVariables false
set_option linter.unusedSimpArgs false
namespace Go.Proofs.YtannckelmojkoaaGreat
open Go.RowKit Go.Heap
def noPt:Pt:=⟨0,.slice none 0 0,[],.slice none 0 0,[],0⟩
abbrev cfO (c:Cf):Obj:= .cells (cfA c) 30 (0,0)
def noMs:Ms:=⟨0,0,0,0,0,0,[],[],[],[]⟩
def newS (c:Cf) (id:Int):Ns:=⟨c,id,0,(List.range (c.f+1)).map (fun (k:Nat)=>newI c.f k c.ah),[],List.replicate (3*c.f+1) noVo,[],newL c.cl.toNat,List.replicate (c.f+1) (0,0),List.replicate (3*c.f+1) (0,noPa),List.replicate (c.f+1) (0,noMs),List.replicate (c.f+1) (List.replicate 17 0),List.replicate (c.f+1) (List.replicate 17 0),0,0,-1,0,0,false,[],0,0,0,0,0⟩
abbrev mkC (c:Cf) (id:Int) (nt t:Nat) (v1 tb vt gd bk mt pt bg v2 v3:Value):List Value:=[.int .i64 c.f,.int .i64 c.cl,.int .i64 c.bt,.int .i64 c.ah,.int .i64 c.qu,.int .i64 c.fl,.int .i64 c.sh,.int .i64 c.pe,.int .i64 c.nu,.int .i64 c.de,.int .i64 c.la,.int .i64 c.om,.int .i64 c.wa,.int .i64 c.ag,.int .i64 c.re,
 .int .i64 id,.pointer (some ⟨nt,0,none⟩),.pointer (some ⟨t,0,none⟩),v1,tb,vt,gd,bk,mt,pt,bg,v2,v3,.int .i64 0,.int .i64 0,.int .i64 (-1),.int .i64 0,.int .i64 0,.bool false,.slice none 0 0,.int .i64 0,.int .i64 0,.int .i64 0,.int .i64 0,.int .i64 0]
abbrev ptON (f:Nat):Obj:= .cells (madeCells #[.int .i64 0,.int .i64 0,.slice none 0 0,.slice none 0 0,.int .i64 0] ((3*f+1)*5)) 260 (0,0)
abbrev bgON (f:Nat):Obj:= .cells (madeCells #[.int .i64 0,.int .i64 0,.int .i64 0,.int .i64 0,.int .i64 0,.int .i64 0,.int .i64 0,.slice none 0 0,.slice none 0 0,.slice none 0 0,.slice none 0 0] ((f+1)*11)) 262 (0,0)
def RwN (c:Cf) (rs:List Rd) (k:Nat):Prop:=rs.length=k∧ ∀(j:Nat) (r:Rd),rs[j]?=some r→r.x.st=newI c.f (j:Int) c.ah
theorem RwN.add {c:Cf} {rs:List Rd} {k:Nat} (h:RwN c rs k) (r:Rd) (hr:r.x.st=newI c.f (k:Int) c.ah):RwN c (rs++[r]) (k+1):=by
 obtain ⟨h1,h2⟩:=h;refine ⟨by simp [h1],fun j q hq=> ?_⟩;rw [List.getElem?_append] at hq;split at hq
 ·exact h2 j q hq
 ·have hj:j=k:=by
   have:=(List.getElem?_eq_some_iff.1 hq).1;simp at this;omega
  subst hj;rw [h1] at hq;simp at hq;subst hq;exact hr
def NwMk (c:Cf) (B:Nat) (w0 w:World) (p q:Nat) (id:Int) (nt t:Nat) (k:Nat) (ss:List Res):Prop:=
 ∃(rs:List Rd) (a1 a2 a3:Option Addr) (c1 c2 c3:Nat),RwN c rs k∧
  Own B w0 w (segR p 141 (mkC c id nt t (.slice a1 k c1) nilP nilP nilP nilP nilP nilS nilS (.slice a2 k c2) (.slice a3 k c3))::
   ownR 142 1 (.slice a1 k c1) k (rs.map fun r=>r.x.ptr)::ownR 69 1 (.slice a2 k c2) k (rs.map Rd.va)::ownR 69 1 (.slice a3 k c3) k (rs.map Rd.vb)::blk q (cfO c)::blk t zox::(rs.flatMap rdR++ss))
abbrev CfAt (c:Cf) (w:World) (b:Nat):Prop:=w.cell? ⟨b,0,none⟩=some (.int .i64 c.f)∧w.cell? ⟨b,1,none⟩=some (.int .i64 c.cl)∧w.cell? ⟨b,2,none⟩=some (.int .i64 c.bt)∧w.cell? ⟨b,3,none⟩=some (.int .i64 c.ah)∧w.cell? ⟨b,4,none⟩=some (.int .i64 c.qu)∧w.cell? ⟨b,5,none⟩=some (.int .i64 c.fl)∧w.cell? ⟨b,6,none⟩=some (.int .i64 c.sh)∧w.cell? ⟨b,7,none⟩=some (.int .i64 c.pe)∧w.cell? ⟨b,8,none⟩=some (.int .i64 c.nu)∧w.cell? ⟨b,9,none⟩=some (.int .i64 c.de)∧w.cell? ⟨b,10,none⟩=some (.int .i64 c.la)∧w.cell? ⟨b,11,none⟩=some (.int .i64 c.om)∧w.cell? ⟨b,12,none⟩=some (.int .i64 c.wa)∧w.cell? ⟨b,13,none⟩=some (.int .i64 c.ag)∧w.cell? ⟨b,14,none⟩=some (.int .i64 c.re)
theorem zzj:(madeCells #[.int .i64 0,.int .i64 0,.slice none 0 0,.slice none 0 0,.int .i64 0] (4*5)).toList=(List.replicate 4 ((0,noPt):Int×Pt)).flatMap pqC:=by kernel_rfl
theorem zzk:(madeCells #[.int .i64 0,.int .i64 0,.slice none 0 0,.slice none 0 0,.int .i64 0] (7*5)).toList=(List.replicate 7 ((0,noPt):Int×Pt)).flatMap pqC:=by kernel_rfl
theorem zu4:(madeCells #[.int .i64 0,.int .i64 0,.slice none 0 0,.slice none 0 0,.int .i64 0] (10*5)).toList=(List.replicate 10 ((0,noPt):Int×Pt)).flatMap pqC:=by kernel_rfl
theorem zu5:(madeCells #[.int .i64 0,.int .i64 0,.slice none 0 0,.slice none 0 0,.int .i64 0] (13*5)).toList=(List.replicate 13 ((0,noPt):Int×Pt)).flatMap pqC:=by kernel_rfl
theorem made_pt {f:Nat} (h1:1≤f) (h2:f≤4):(madeCells #[.int .i64 0,.int .i64 0,.slice none 0 0,.slice none 0 0,.int .i64 0] ((3*f+1)*5)).toList=(List.replicate (3*f+1) ((0,noPt):Int×Pt)).flatMap pqC:=by
 rcases (by omega:f=1∨f=2∨f=3∨f=4) with rfl | rfl | rfl | rfl
 ·exact zzj
 ·exact zzk
 ·exact zu4
 ·exact zu5
theorem zy8:(madeCells #[.int .i64 0,.int .i64 0,.int .i64 0,.int .i64 0,.int .i64 0,.int .i64 0,.int .i64 0,.slice none 0 0,.slice none 0 0,.slice none 0 0,.slice none 0 0] (2*11)).toList=(List.replicate 2 ((0,noMm):Int×Mm)).flatMap bgC:=by kernel_rfl
theorem zy9:(madeCells #[.int .i64 0,.int .i64 0,.int .i64 0,.int .i64 0,.int .i64 0,.int .i64 0,.int .i64 0,.slice none 0 0,.slice none 0 0,.slice none 0 0,.slice none 0 0] (3*11)).toList=(List.replicate 3 ((0,noMm):Int×Mm)).flatMap bgC:=by kernel_rfl
theorem zza:(madeCells #[.int .i64 0,.int .i64 0,.int .i64 0,.int .i64 0,.int .i64 0,.int .i64 0,.int .i64 0,.slice none 0 0,.slice none 0 0,.slice none 0 0,.slice none 0 0] (4*11)).toList=(List.replicate 4 ((0,noMm):Int×Mm)).flatMap bgC:=by kernel_rfl
theorem zzb:(madeCells #[.int .i64 0,.int .i64 0,.int .i64 0,.int .i64 0,.int .i64 0,.int .i64 0,.int .i64 0,.slice none 0 0,.slice none 0 0,.slice none 0 0,.slice none 0 0] (5*11)).toList=(List.replicate 5 ((0,noMm):Int×Mm)).flatMap bgC:=by kernel_rfl
theorem made_bg {f:Nat} (h1:1≤f) (h2:f≤4):(madeCells #[.int .i64 0,.int .i64 0,.int .i64 0,.int .i64 0,.int .i64 0,.int .i64 0,.int .i64 0,.slice none 0 0,.slice none 0 0,.slice none 0 0,.slice none 0 0] ((f+1)*11)).toList=(List.replicate (f+1) ((0,noMm):Int×Mm)).flatMap bgC:=by
 rcases (by omega:f=1∨f=2∨f=3∨f=4) with rfl | rfl | rfl | rfl
 ·exact zy8
 ·exact zy9
 ·exact zza
 ·exact zzb
theorem zzc:(madeCells #[.bool false,.int .i64 0,.int .i64 0] (4*3)).toList=(List.replicate 4 (noVo:Vo)).flatMap voC:=by kernel_rfl
theorem zzd:(madeCells #[.bool false,.int .i64 0,.int .i64 0] (7*3)).toList=(List.replicate 7 (noVo:Vo)).flatMap voC:=by kernel_rfl
theorem zu2:(madeCells #[.bool false,.int .i64 0,.int .i64 0] (10*3)).toList=(List.replicate 10 (noVo:Vo)).flatMap voC:=by kernel_rfl
theorem zu3:(madeCells #[.bool false,.int .i64 0,.int .i64 0] (13*3)).toList=(List.replicate 13 (noVo:Vo)).flatMap voC:=by kernel_rfl
theorem made_cv {f:Nat} (h1:1≤f) (h2:f≤4):(madeCells #[.bool false,.int .i64 0,.int .i64 0] ((3*f+1)*3)).toList=(List.replicate (3*f+1) (noVo:Vo)).flatMap voC:=by
 rcases (by omega:f=1∨f=2∨f=3∨f=4) with rfl | rfl | rfl | rfl
 ·exact zzc
 ·exact zzd
 ·exact zu2
 ·exact zu3
theorem zze:(madeCells #[.complex .f64 0 0] 2).toList=List.replicate 2 (.complex .f64 0 0):=by kernel_rfl
theorem zzf:(madeCells #[.complex .f64 0 0] 3).toList=List.replicate 3 (.complex .f64 0 0):=by kernel_rfl
theorem zzg:(madeCells #[.complex .f64 0 0] 4).toList=List.replicate 4 (.complex .f64 0 0):=by kernel_rfl
theorem zzh:(madeCells #[.complex .f64 0 0] 5).toList=List.replicate 5 (.complex .f64 0 0):=by kernel_rfl
theorem made_cx {f:Nat} (h1:1≤f) (h2:f≤4):(madeCells #[.complex .f64 0 0] (f+1)).toList=mtC (List.replicate (f+1) (0,0)):=by
 have e:mtC (List.replicate (f+1) (0,0))=List.replicate (f+1) (.complex .f64 0 0):=by
  unfold mtC;rw [List.map_replicate];show List.replicate _ (Value.complex .f64 (FloatKind.f64.nearest 0) (FloatKind.f64.nearest 0))=_;rw [zxb]
 rw [e];rcases (by omega:f=1∨f=2∨f=3∨f=4) with rfl | rfl | rfl | rfl
 ·exact zze
 ·exact zzf
 ·exact zzg
 ·exact zzh
theorem zzi:(madeCells #[.int .i64 0] 17).toList=intC (List.replicate 17 0):=by kernel_rfl
theorem zmw {f:Nat} (h1:1≤f) (h2:f≤4) (wx:World):(Instr.makeSlice 137 (.int .i64 (3*(f:Int)+1)) (.int .i64 (3*(f:Int)+1))).run Tryz.prog wx= .ok (.slice (some ⟨wx.heap.size,0,none⟩) (3*f+1) (3*f+1)) (wx.alloc (.cells (madeCells #[.int .i64 0,.int .i64 0,.slice none 0 0,.slice none 0 0,.int .i64 0] ((3*f+1)*5)) 260)):=by
 obtain ⟨i0,hi,hz0,hz1,hz2⟩:=info_parts Tryz.infopt;have:=run_make (P:=Tryz.prog) wx 137 260 i0 _ Tryz.underlying137 hi hz0 .i64 .i64 (3*(f:Int)+1) (3*(f:Int)+1) (by omega) (by omega) (by rw [hz2];omega) (by omega);rw [show (3*(f:Int)+1).toNat=3*f+1 by omega,hz1] at this;exact this
theorem zms {f:Nat} (h1:1≤f) (h2:f≤4) (wx:World):(Instr.makeSlice 138 (.int .i64 ((f:Int)+1)) (.int .i64 ((f:Int)+1))).run Tryz.prog wx= .ok (.slice (some ⟨wx.heap.size,0,none⟩) (f+1) (f+1)) (wx.alloc (.cells (madeCells #[.int .i64 0,.int .i64 0,.int .i64 0,.int .i64 0,.int .i64 0,.int .i64 0,.int .i64 0,.slice none 0 0,.slice none 0 0,.slice none 0 0,.slice none 0 0] ((f+1)*11)) 262)):=by
 obtain ⟨i0,hi,hz0,hz1,hz2⟩:=info_parts Tryz.infobg;have:=run_make (P:=Tryz.prog) wx 138 262 i0 _ Tryz.underlying138 hi hz0 .i64 .i64 ((f:Int)+1) ((f:Int)+1) (by omega) (by omega) (by rw [hz2];omega) (by omega);rw [show ((f:Int)+1).toNat=f+1 by omega,hz1] at this;exact this
theorem zmt {f:Nat} (h1:1≤f) (h2:f≤4) (wx:World):(Instr.makeSlice 245 (.int .i64 (3*(f:Int)+1)) (.int .i64 (3*(f:Int)+1))).run Tryz.prog wx= .ok (.slice (some ⟨wx.heap.size,0,none⟩) (3*f+1) (3*f+1)) (wx.alloc (.cells (madeCells #[.bool false,.int .i64 0,.int .i64 0] ((3*f+1)*3)) 320)):=by
 obtain ⟨i0,hi,hz0,hz1,hz2⟩:=info_parts Tryz.infocv;have:=run_make (P:=Tryz.prog) wx 245 320 i0 _ Tryz.underlying245 hi hz0 .i64 .i64 (3*(f:Int)+1) (3*(f:Int)+1) (by omega) (by omega) (by rw [hz2];omega) (by omega);rw [show (3*(f:Int)+1).toNat=3*f+1 by omega,hz1] at this;exact this
theorem zmu {f:Nat} (h1:1≤f) (h2:f≤4) (wx:World):(Instr.makeSlice 169 (.int .i64 ((f:Int)+1)) (.int .i64 ((f:Int)+1))).run Tryz.prog wx= .ok (.slice (some ⟨wx.heap.size,0,none⟩) (f+1) (f+1)) (wx.alloc (.cells (madeCells #[.complex .f64 0 0] ((f+1)*1)) 269)):=by
 obtain ⟨i0,hi,hz0,hz1,hz2⟩:=info_parts Tryz.infocx;have:=run_make (P:=Tryz.prog) wx 169 269 i0 _ Tryz.underlying169 hi hz0 .i64 .i64 ((f:Int)+1) ((f:Int)+1) (by omega) (by omega) (by rw [hz2];omega) (by omega);rw [show ((f:Int)+1).toNat=f+1 by omega,hz1] at this;exact this
section
variable {B:Nat} {w0 w W W':World} {ss:List Res}
theorem zt5 {c:Cf} {b:Nat} (h:w.rangeAt b 0 (cfA c).toList):CfAt c w b:=by
 refine ⟨?_,?_,?_,?_,?_,?_,?_,?_,?_,?_,?_,?_,?_,?_,?_⟩
 ·exact Nat.zero_add 0 ▸ h 0 _ rfl
 ·exact Nat.zero_add 1 ▸ h 1 _ rfl
 ·exact Nat.zero_add 2 ▸ h 2 _ rfl
 ·exact Nat.zero_add 3 ▸ h 3 _ rfl
 ·exact Nat.zero_add 4 ▸ h 4 _ rfl
 ·exact Nat.zero_add 5 ▸ h 5 _ rfl
 ·exact Nat.zero_add 6 ▸ h 6 _ rfl
 ·exact Nat.zero_add 7 ▸ h 7 _ rfl
 ·exact Nat.zero_add 8 ▸ h 8 _ rfl
 ·exact Nat.zero_add 9 ▸ h 9 _ rfl
 ·exact Nat.zero_add 10 ▸ h 10 _ rfl
 ·exact Nat.zero_add 11 ▸ h 11 _ rfl
 ·exact Nat.zero_add 12 ▸ h 12 _ rfl
 ·exact Nat.zero_add 13 ▸ h 13 _ rfl
 ·exact Nat.zero_add 14 ▸ h 14 _ rfl
theorem zw4 {c:Cf} {b:Nat} (hu:Upd [] w W) (h:CfAt c w b):CfAt c W b:=by
 obtain ⟨h0,h1,h2,h3,h4,h5,h6,h7,h8,h9,h10,h11,h12,h13,h14⟩:=h;exact ⟨zap hu h0,zap hu h1,zap hu h2,zap hu h3,zap hu h4,zap hu h5,zap hu h6,zap hu h7,zap hu h8,zap hu h9,zap hu h10,zap hu h11,zap hu h12,zap hu h13,zap hu h14⟩
theorem zt4 {c:Cf} {b:Nat} {o:Obj} (h:CfAt c w b):CfAt c (w.alloc o) b:=zw4 ((Upd.refl _ _).alloc o) h
theorem cvalidC {c:Cf} (hc:CfOk c) (w:World):Calls Tryz.prog 79 #[.agg (cfA c)] w fun e w'=>e= .returned (.bool true)∧Upd [] w w':=by
 have H:=zq hc;have hf1:(1:Int)≤c.f:=by have:=hc.f1;omega
 have hf2:(c.f:Int)≤4:=by have:=hc.f2;omega
 have HF1:=zq hf1;have HF2:=zq hf2;clear hc hf1 hf2;go_enter Tryz.func79,Tryz.ntmps79
 go_wp2_with fail
 refine (zdc _ _ _ _ HF1.out HF2.out).mono ?_;rintro e w' ⟨rfl,rfl⟩
 go_wp2_with fail
 refine (zdc _ _ _ _ H.out.cl1 H.out.cl2).mono ?_;rintro e w' ⟨rfl,rfl⟩
 go_wp2_with fail
 refine (zdc _ _ _ _ H.out.bt1 H.out.bt2).mono ?_;rintro e w' ⟨rfl,rfl⟩
 go_wp2_with fail
 refine (zdc _ _ _ _ H.out.ah1 H.out.ah2).mono ?_;rintro e w' ⟨rfl,rfl⟩
 go_wp2_with fail
 refine (zdc _ _ _ _ H.out.qu1 H.out.qu2).mono ?_;rintro e w' ⟨rfl,rfl⟩
 go_wp2_with fail
 refine (zdc _ _ _ _ H.out.fl1 H.out.fl2).mono ?_;rintro e w' ⟨rfl,rfl⟩
 go_wp2_with fail
 refine (zdc _ _ _ _ H.out.sh1 H.out.sh2).mono ?_;rintro e w' ⟨rfl,rfl⟩
 go_wp2_with fail
 refine (zdc _ _ _ _ H.out.pe1 H.out.pe2).mono ?_;rintro e w' ⟨rfl,rfl⟩
 go_wp2_with fail
 refine (zdc _ _ _ _ H.out.nu1 H.out.nu2).mono ?_;rintro e w' ⟨rfl,rfl⟩
 go_wp2_with fail
 refine (zdc _ _ _ _ H.out.de1 H.out.de2).mono ?_;rintro e w' ⟨rfl,rfl⟩
 go_wp2_with fail
 refine (zdc _ _ _ _ H.out.la1 H.out.la2).mono ?_;rintro e w' ⟨rfl,rfl⟩
 go_wp2_with fail
 refine (zdc _ _ _ _ H.out.om1 H.out.om2).mono ?_;rintro e w' ⟨rfl,rfl⟩
 go_wp2_with fail
 refine (zdc _ _ _ _ H.out.wa1 H.out.wa2).mono ?_;rintro e w' ⟨rfl,rfl⟩
 go_wp2_with fail
 refine (zdc _ _ _ _ H.out.ag1 H.out.ag2).mono ?_;rintro e w' ⟨rfl,rfl⟩
 go_wp2_with fail
 refine (zdc _ _ _ _ H.out.re1 H.out.re2).mono ?_;rintro e w' ⟨rfl,rfl⟩
 go_wp2_with fail
 go_ret
 exact ⟨rfl,(Upd.refl _ _).alloc _⟩
theorem zvx {c:Cf} (hc:CfOk c) (h:Own B w0 W ss):Calls Tryz.prog 83 #[.int .i64 c.f,.int .i64 c.cl] W fun e w'=> ∃p,e= .returned (.tuple #[.pointer (some ⟨p,0,none⟩),.int .i64 0])∧Own B w0 w' (blk p (tabOb c.f c.cl (.slice none 0 0))::ss):=by
 have H:=zq h;have g1:decide ((c.f:Int)<1)=false:=by have:=hc.f1;simp;omega
 have g2:decide ((4:Int)<(c.f:Int))=false:=by have:=hc.f2;simp;omega
 have g3:decide (c.cl<1)=false:=by have:=hc.cl1;simp;omega
 have g4:decide (4<c.cl)=false:=by have:=hc.cl2;simp;omega
 clear h hc;go_enter Tryz.func83,Tryz.ntmps83
 go_wp2_with fail
 go_ret2
 exact ⟨_,rfl,H.out.box _⟩
theorem zov {c:Cf} (hc:CfOk c) (h:Own B w0 W ss):Calls Tryz.prog 84 #[.int .i64 c.f] W fun e w'=> ∃(p g:Nat),e= .returned (.tuple #[.pointer (some ⟨p,0,none⟩),.int .i64 0])∧Own B w0 w' (blk p (cvO c.f g (3*c.f+1) (3*c.f+1))::blk g (.cells (madeCells #[.bool false,.int .i64 0,.int .i64 0] ((3*c.f+1)*3)) 320 (0,0))::ss):=by
 have H:=zq h;have g1:decide ((c.f:Int)<1)=false:=by have:=hc.f1;simp;omega
 have g2:decide ((4:Int)<(c.f:Int))=false:=by have:=hc.f2;simp;omega
 have hmk:=zmt hc.f1 hc.f2;have hf1:=hc.f1;have hf2:=hc.f2;have HNO:=zq (fun w=>za0 (c.f:Int) w (by omega) (by omega));clear h hc;go_enter Tryz.func84,Tryz.ntmps84
 go_wp2_with fail
 refine (HNO.out _).mono ?_;rintro e w' ⟨rfl,rfl⟩
 go_wp2_with fail
 go_ret2
 exact ⟨W.heap.size+1,W.heap.size,rfl,(H.out.box _).boxAt _ (by simp)⟩
theorem zrk {c:Cf} (hc:CfOk c) (h:Own B w0 W ss):Calls Tryz.prog 87 #[.int .i64 ((c.f:Int)+1)] W fun e w'=> ∃(p g:Nat),e= .returned (.tuple #[.pointer (some ⟨p,0,none⟩),.int .i64 0])∧Own B w0 w' (blk p (mtB g (c.f+1) (c.f+1))::blk g (.cells (madeCells #[.complex .f64 0 0] (c.f+1)) 269 (0,0))::ss):=by
 have H:=zq h;have g1:decide ((c.f:Int)+1<1)=false:=by have:=hc.f1;simp;omega
 have g2:decide ((5:Int)<(c.f:Int)+1)=false:=by have:=hc.f2;simp;omega
 have hmk:=zmu hc.f1 hc.f2;clear h hc;go_enter Tryz.func87,Tryz.ntmps87
 go_wp2_with fail
 go_ret2
 exact ⟨W.heap.size+1,W.heap.size,rfl,(H.out.box _).boxAt (n:=W.heap.size+1) _ (by simp)⟩
theorem zpb {c:Cf} (hc:CfOk c) (h:Own B w0 W ss):
  Calls Tryz.prog 86 #[.int .i64 c.cl] W fun e w'=> ∃x:Lg,e= .returned (.tuple #[.pointer (some ⟨x.p,0,none⟩),.int .i64 0])∧LgOk x∧x.lp=newL c.cl.toNat∧Own B w0 w' (lgL x++ss):=by
 have h1:=hc.cl1;have h2:=hc.cl2;have e:((c.cl.toNat:Nat):Int)=c.cl:=by omega
 have:=zrc c.cl.toNat (by omega) (by omega) h;rw [e] at this;exact this
theorem zr0 {c:Cf} {q p t:Nat} {id:Int} {nt:Nat} (h:Own B w0 W (segR p 141 (mkC c id nt t nilS nilP nilP nilP nilP nilP nilS nilS nilS nilS)::blk q (cfO c)::blk t zox::ss)):NwMk c B w0 W p q id nt t 0 ss:=by
 refine ⟨[],none,none,none,0,0,0,⟨rfl,by simp⟩,?_⟩;exact ((h.row0 (E:=69) (sz:=1)).row0 (E:=69) (sz:=1)).swap.row0 (E:=142) (sz:=1) |>.perm (by
  refine List.Perm.trans (List.perm_middle (l₁:=[_,_,_])) (List.Perm.refl _))
theorem rd_three (rs:List Rd):(rs.flatMap rdR).Perm (rs.map (fun r=>instR r.x)++(rs.map (fun r=>blk r.a z17O)++rs.map fun r=>blk r.b z17O)):=by
 induction rs with
 | nil=>exact .refl _
 | cons r rs ih=>
  rw [List.flatMap_cons];refine (List.Perm.append_left _ ih).trans ?_;simp only [rdR,List.map_cons,List.cons_append,List.nil_append];refine List.Perm.cons _ ?_;refine ((List.perm_middle (a:=blk r.a z17O)).trans (List.Perm.cons _ ?_)).symm;refine List.Perm.trans (List.Perm.append_left _ List.perm_middle) ?_;exact List.perm_middle
theorem zr8 {hd:List Res}: ∀ {bs:List Nat},Own B w0 W (hd++(bs.map (fun b=>blk b z17O)++ss))→Own B w0 W (hd++((bs.zip (List.replicate bs.length (List.replicate 17 (0:Int)))).map nrR++ss))
 | [],h=>h
 | b::bs,h=>by
  have h1:Own B w0 W (blk b z17O::(hd++(bs.map (fun b=>blk b z17O)++ss))):=h.perm (by
   simp only [List.map_cons,List.cons_append];exact List.perm_middle)
  have h2:=zdn h1 zzi;have h3:Own B w0 W ((nrR (b,List.replicate 17 (0:Int))::hd)++(bs.map (fun b=>blk b z17O)++ss)):=h2;have h4:=zr8 (hd:=nrR (b,List.replicate 17 (0:Int))::hd) h3;refine h4.perm ?_;simp only [List.length_cons,List.replicate_succ,List.zip_cons_cons,List.map_cons,List.cons_append];exact List.perm_middle.symm
theorem zjr {E n cap:Nat} {a:Option Addr} {xs:List Value} {A:List Nat} (h:(ownR E 1 (.slice a n cap) n xs).At W A) (hn:0<n): ∃g,a=some ⟨g,0,none⟩∧n≤cap:=by
 rcases (zam h).2 with ⟨h',-⟩ | ⟨g,cap',cur,h',-,-,hnc,-⟩
 ·simp only [Value.slice.injEq] at h';omega
 ·simp only [Value.slice.injEq] at h'
  exact ⟨g,h'.1,by omega⟩
theorem zhf {E n cap g:Nat} {xs:List Value} (h:Own B w0 W (ownR E 1 (.slice (some ⟨g,0,none⟩) n cap) n xs::ss)):Own B w0 W (segR g E xs::ss):=h.alter (zmg h.head) (fun k hk=>by simpa [ownR,segR,blkOf] using hk)
theorem nw_fin {c:Cf} (hc:CfOk c) {p q t tb vt vg gd mt mg pt bg nt:Nat} {id:Int} {rs:List Rd} {a1 a2 a3:Option Addr} {c1 c2 c3:Nat} {bk:Lg} (hk:LgOk bk) (hlp:bk.lp=newL c.cl.toNat) (hr:RwN c rs (c.f+1))
  (h:Own B w0 W (blk bg (bgON c.f)::blk pt (ptON c.f)::blk mt (mtB mg (c.f+1) (c.f+1))::blk mg (.cells (madeCells #[.complex .f64 0 0] (c.f+1)) 269 (0,0))::(lgL bk++(blk gd (.cells #[.int .i64 c.fl,.int .i64 c.sh,.slice none 0 0] 250 (0,0))::blk vt (cvO c.f vg (3*c.f+1) (3*c.f+1))::blk vg (.cells (madeCells #[.bool false,.int .i64 0,.int .i64 0] ((3*c.f+1)*3)) 320 (0,0))::blk tb (tabOb c.f c.cl (.slice none 0 0))::
   segR p 141 (mkC c id nt t (.slice a1 (c.f+1) c1) (ptrV tb) (ptrV vt) (ptrV gd) (ptrV bk.p) (ptrV mt) (slI pt (3*c.f+1) (3*c.f+1)) (slI bg (c.f+1) (c.f+1)) (.slice a2 (c.f+1) c2) (.slice a3 (c.f+1) c3))::
   ownR 142 1 (.slice a1 (c.f+1) c1) (c.f+1) (rs.map fun r=>r.x.ptr)::ownR 69 1 (.slice a2 (c.f+1) c2) (c.f+1) (rs.map Rd.va)::ownR 69 1 (.slice a3 (c.f+1) c3) (c.f+1) (rs.map Rd.vb)::blk q (cfO c)::blk t zox::(rs.flatMap rdR++ss))))):
  ∃(x:Np) (v:Nv),x.p=p∧x.nt=nt∧(∀nm,NvOk {x with nm:=nm} (newS c id) v)∧Own B w0 W (nsR x (newS c id) v::ss):=by
 obtain ⟨hr1,hr2⟩:=hr;obtain ⟨g1,rfl,k1⟩:=zjr (h.get 14 rfl) (by omega);obtain ⟨g2,rfl,k2⟩:=zjr (h.get 15 rfl) (by omega);obtain ⟨g3,rfl,k3⟩:=zjr (h.get 16 rfl) (by omega);obtain ⟨x,hx⟩: ∃x:Np,x=⟨p,nt,0,t,g1,c1,rs.map (fun r=>r.x.i),tb,vt,vg,3*c.f+1,gd,bk.p,mt,mg,c.f+1,pt,3*c.f+1,bg,c.f+1,g2,c2,rs.map Rd.a,g3,c3,rs.map Rd.b⟩:=⟨_,rfl⟩;obtain ⟨v,hv⟩: ∃v:Nv,v=⟨rs.map Rd.x,.slice none 0 0,.slice none 0 0,bk,List.replicate (3*c.f+1) (0,noPt),List.replicate (c.f+1) (0,noMm),.slice none 0 0,[]⟩:=⟨_,rfl⟩;refine ⟨x,v,by rw [hx],by rw [hx],fun nm=> ?_,?_⟩
 ·subst hx hv
  refine ⟨?_,by simp [newS],hlp,hk,rfl,?_,?_,rfl,⟨none,0,rfl⟩,k1,Nat.le_refl _,Nat.le_refl _,k2,k3,Nat.le_refl _,Nat.le_refl _,by simpa [newS] using hr1,by simpa [newS] using hr1⟩
  ·refine List.ext_getElem (by simp [newS,hr1]) (fun j h1 h2=> ?_)
   simp only [newS,List.getElem_map,List.getElem_range];have hj:j<rs.length:=by simpa using h1
   exact hr2 j rs[j] (by simp [hj])
  ·simp only [newS,List.map_replicate];rfl
  ·simp only [newS,List.map_replicate];rfl
 ·
  have e0:Own B w0 W ([blk bg (bgON c.f),blk pt (ptON c.f),blk mt (mtB mg (c.f+1) (c.f+1)),blk mg (.cells (madeCells #[.complex .f64 0 0] (c.f+1)) 269 (0,0))]++(lgL bk++[blk gd (.cells #[.int .i64 c.fl,.int .i64 c.sh,.slice none 0 0] 250 (0,0)),blk vt (cvO c.f vg (3*c.f+1) (3*c.f+1)),blk vg (.cells (madeCells #[.bool false,.int .i64 0,.int .i64 0] ((3*c.f+1)*3)) 320 (0,0)),blk tb (tabOb c.f c.cl (.slice none 0 0)),
   segR p 141 (mkC c id nt t (.slice (some ⟨g1,0,none⟩) (c.f+1) c1) (ptrV tb) (ptrV vt) (ptrV gd) (ptrV bk.p) (ptrV mt) (slI pt (3*c.f+1) (3*c.f+1)) (slI bg (c.f+1) (c.f+1)) (.slice (some ⟨g2,0,none⟩) (c.f+1) c2) (.slice (some ⟨g3,0,none⟩) (c.f+1) c3)),
   ownR 142 1 (.slice (some ⟨g1,0,none⟩) (c.f+1) c1) (c.f+1) (rs.map fun r=>r.x.ptr),ownR 69 1 (.slice (some ⟨g2,0,none⟩) (c.f+1) c2) (c.f+1) (rs.map Rd.va),ownR 69 1 (.slice (some ⟨g3,0,none⟩) (c.f+1) c3) (c.f+1) (rs.map Rd.vb),blk q (cfO c),blk t zox])++((rs.map fun r=>instR r.x)++((rs.map fun r=>blk r.a z17O)++((rs.map fun r=>blk r.b z17O)++ss)))):=h.perm (by
    refine List.Perm.append_left [_,_,_,_,_,_,_,_,_,_,_,_,_,_,_,_,_,_,_] ?_;rw [←List.append_assoc,←List.append_assoc];refine List.Perm.append_right ss ?_;rw [List.append_assoc];exact rd_three rs)
  obtain ⟨C,hC⟩: ∃C:List Res,C=[blk bg (bgON c.f),blk pt (ptON c.f),blk mt (mtB mg (c.f+1) (c.f+1)),blk mg (.cells (madeCells #[.complex .f64 0 0] (c.f+1)) 269 (0,0))]++(lgL bk++[blk gd (.cells #[.int .i64 c.fl,.int .i64 c.sh,.slice none 0 0] 250 (0,0)),blk vt (cvO c.f vg (3*c.f+1) (3*c.f+1)),blk vg (.cells (madeCells #[.bool false,.int .i64 0,.int .i64 0] ((3*c.f+1)*3)) 320 (0,0)),blk tb (tabOb c.f c.cl (.slice none 0 0)),
   segR p 141 (mkC c id nt t (.slice (some ⟨g1,0,none⟩) (c.f+1) c1) (ptrV tb) (ptrV vt) (ptrV gd) (ptrV bk.p) (ptrV mt) (slI pt (3*c.f+1) (3*c.f+1)) (slI bg (c.f+1) (c.f+1)) (.slice (some ⟨g2,0,none⟩) (c.f+1) c2) (.slice (some ⟨g3,0,none⟩) (c.f+1) c3)),blk q (cfO c),blk t zox]):=⟨_,rfl⟩
  have hp1:rs.map (fun r=>r.x.ptr)=(rs.map fun r=>r.x.i).map ptrV:=by rw [List.map_map];rfl
  have hp2:rs.map Rd.va=(rs.map Rd.a).map nrV:=by rw [List.map_map];rfl
  have hp3:rs.map Rd.vb=(rs.map Rd.b).map nrV:=by rw [List.map_map];rfl
  have hq1:rs.map (fun r=>instR r.x)=(rs.map Rd.x).map instR:=by rw [List.map_map];rfl
  have hq2:rs.map (fun r=>blk r.a z17O)=(rs.map Rd.a).map (fun b=>blk b z17O):=by rw [List.map_map];rfl
  have hq3:rs.map (fun r=>blk r.b z17O)=(rs.map Rd.b).map (fun b=>blk b z17O):=by rw [List.map_map];rfl
  rw [hp1,hp2,hp3,hq1,hq2,hq3] at e0;have la:(rs.map Rd.a).length=c.f+1:=by simpa using hr1
  have lb:(rs.map Rd.b).length=c.f+1:=by simpa using hr1
  generalize hI:(rs.map Rd.x).map instR=I at*;generalize hA:(rs.map Rd.a)=A at*;generalize hB:(rs.map Rd.b)=Bb at*;have e1:Own B w0 W (ownR 69 1 (.slice (some ⟨g3,0,none⟩) (c.f+1) c3) (c.f+1) (Bb.map nrV)::ownR 69 1 (.slice (some ⟨g2,0,none⟩) (c.f+1) c2) (c.f+1) (A.map nrV)::ownR 142 1 (.slice (some ⟨g1,0,none⟩) (c.f+1) c1) (c.f+1) ((rs.map fun r=>r.x.i).map ptrV)::(C++(I++(A.map (fun b=>blk b z17O)++(Bb.map (fun b=>blk b z17O)++ss))))):=by
   subst hC;exact ((e0.front 14 rfl rfl).front 15 rfl rfl).front 16 rfl rfl
  have mv: ∀(X Y Z:List Res),(X++(Y++Z)).Perm (Y++(X++Z)):=fun X Y Z=>List.perm_append_comm_assoc X Y Z;have e2:Own B w0 W ([segR g3 69 (Bb.map nrV)]++(Bb.map (fun b=>blk b z17O)++(ownR 69 1 (.slice (some ⟨g2,0,none⟩) (c.f+1) c2) (c.f+1) (A.map nrV)::ownR 142 1 (.slice (some ⟨g1,0,none⟩) (c.f+1) c1) (c.f+1) ((rs.map fun r=>r.x.i).map ptrV)::(C++(I++(A.map (fun b=>blk b z17O)++ss)))))):=(zhf e1).perm (by
   refine List.Perm.cons _ ?_;have:=mv (ownR 69 1 (.slice (some ⟨g2,0,none⟩) (c.f+1) c2) (c.f+1) (A.map nrV)::ownR 142 1 (.slice (some ⟨g1,0,none⟩) (c.f+1) c1) (c.f+1) ((rs.map fun r=>r.x.i).map ptrV)::(C++(I++A.map (fun b=>blk b z17O)))) (Bb.map (fun b=>blk b z17O)) ss;simp only [List.cons_append,List.append_assoc] at this;exact this)
  have e3:=zr8 e2;have e4:Own B w0 W (ownR 69 1 (.slice (some ⟨g2,0,none⟩) (c.f+1) c2) (c.f+1) (A.map nrV)::joinR (nrL g3 Bb (List.replicate (c.f+1) (List.replicate 17 0)))::ownR 142 1 (.slice (some ⟨g1,0,none⟩) (c.f+1) c1) (c.f+1) ((rs.map fun r=>r.x.i).map ptrV)::(C++(I++(A.map (fun b=>blk b z17O)++ss)))):=by
   rw [lb] at e3;exact (Own.shut (rs:=nrL g3 Bb (List.replicate (c.f+1) (List.replicate 17 0))) e3).swap
  have e5:Own B w0 W ([segR g2 69 (A.map nrV)]++(A.map (fun b=>blk b z17O)++(joinR (nrL g3 Bb (List.replicate (c.f+1) (List.replicate 17 0)))::ownR 142 1 (.slice (some ⟨g1,0,none⟩) (c.f+1) c1) (c.f+1) ((rs.map fun r=>r.x.i).map ptrV)::(C++(I++ss))))):=(zhf e4).perm (by
   refine List.Perm.cons _ ?_;have:=mv (joinR (nrL g3 Bb (List.replicate (c.f+1) (List.replicate 17 0)))::ownR 142 1 (.slice (some ⟨g1,0,none⟩) (c.f+1) c1) (c.f+1) ((rs.map fun r=>r.x.i).map ptrV)::(C++I)) (A.map (fun b=>blk b z17O)) ss;simp only [List.cons_append,List.append_assoc] at this;exact this)
  have e6:=zr8 e5;have e7:Own B w0 W (ownR 142 1 (.slice (some ⟨g1,0,none⟩) (c.f+1) c1) (c.f+1) ((rs.map fun r=>r.x.i).map ptrV)::joinR (nrL g2 A (List.replicate (c.f+1) (List.replicate 17 0)))::joinR (nrL g3 Bb (List.replicate (c.f+1) (List.replicate 17 0)))::(C++(I++ss))):=by
   rw [la] at e6;exact (Own.shut (rs:=nrL g2 A (List.replicate (c.f+1) (List.replicate 17 0))) e6).rot
  have e8:Own B w0 W ((segR g1 142 ((rs.map fun r=>r.x.i).map ptrV)::I)++(joinR (nrL g2 A (List.replicate (c.f+1) (List.replicate 17 0)))::joinR (nrL g3 Bb (List.replicate (c.f+1) (List.replicate 17 0)))::(C++ss))):=(zhf e7).perm (by
   refine List.Perm.cons _ ?_;have:=mv (joinR (nrL g2 A (List.replicate (c.f+1) (List.replicate 17 0)))::joinR (nrL g3 Bb (List.replicate (c.f+1) (List.replicate 17 0)))::C) I ss;simp only [List.cons_append,List.append_assoc] at this;exact this)
  have e9:=Own.shut (rs:=segR g1 142 ((rs.map fun r=>r.x.i).map ptrV)::I) e8;have o1:Own B w0 W (sdsR []::ownR 62 2 (.slice none 0 0) 0 []::_):=(e9.row0 (E:=62) (sz:=2)).mkSds (by simp);have o2:=Own.shut (rs:=ouL (.slice none 0 0) []) o1.swap;subst hC;have o3:=o2.front 3 rfl rfl
  dsimp only [List.eraseIdx] at o3
  have o3b:=o3.front 3 rfl rfl
  dsimp only [List.eraseIdx] at o3b
  have o3c:=o3b.front 4 rfl rfl
  dsimp only [List.eraseIdx] at o3c
  have o4:=zdn o3c (made_bg hc.f1 hc.f2);have hz: ∀(D:List Nat),MmIn W noMm D:=fun D=>⟨.nil _ _ _,.nil _ _ _,.nil _ _ _,by simp [noMm],.nil _ _ _,by simp [noMm],⟨by simp [noMm],by simp [noMm],by simp [noMm],by simp [noMm]⟩⟩;have hy: ∀(D:List Nat),PtIn W noPt D:=fun D=>⟨.nil _ _ _,by simp [noPt],.nil _ _ _,by simp [noPt],by simp [noPt]⟩;have o5:Own B w0 W (mmsR ((List.replicate (c.f+1) ((0:Int),noMm)).map Prod.snd)::_):=o4.mkMms (fun m hm=>by
   rw [List.map_replicate] at hm;rw [List.eq_of_mem_replicate hm];exact hz _)
  have o6:=Own.shut (rs:=bqL bg (List.replicate (c.f+1) ((0:Int),noMm))) o5.swap;have o6b:=o6.front 5 rfl rfl
  dsimp only [List.eraseIdx] at o6b
  have o7:=zdn o6b (made_pt hc.f1 hc.f2);have o8:Own B w0 W (ptsR ((List.replicate (3*c.f+1) ((0:Int),noPt)).map Prod.snd)::_):=o7.mkPts (fun m hm=>by
   rw [List.map_replicate] at hm;rw [List.eq_of_mem_replicate hm];exact hy _)
  have o9:=Own.shut (rs:=pqL pt (List.replicate (3*c.f+1) ((0:Int),noPt))) o8.swap;have p1:=o9.front 5 rfl rfl
  dsimp only [List.eraseIdx] at p1
  have p1b:=p1.front 7 rfl rfl
  dsimp only [List.eraseIdx] at p1b
  have p2:=zdn p1b (made_cx hc.f1 hc.f2);have p2b:=p2.front 7 rfl rfl
  dsimp only [List.eraseIdx] at p2b
  have p3:=Own.shut (rs:=mtL mt mg (List.replicate (c.f+1) ((0:Int),(0:Int))).length (c.f+1) (List.replicate (c.f+1) (0,0))) (by rw [List.length_replicate];exact p2b);have q1:=p3.front 11 rfl rfl
  dsimp only [List.eraseIdx] at q1
  have q2:=q1.front 11 rfl rfl
  dsimp only [List.eraseIdx] at q2
  have q3:=q2.front 11 rfl rfl
  dsimp only [List.eraseIdx] at q3
  have q4:=q3.front 11 rfl rfl
  dsimp only [List.eraseIdx] at q4
  have q5:=q4.front 11 rfl rfl
  dsimp only [List.eraseIdx] at q5
  have p4:=Own.shut (rs:=lgL bk) q5;have q6:=(p4.row0 (E:=272) (sz:=3)).front 9 rfl rfl
  dsimp only [List.eraseIdx] at q6
  have p5:=Own.shut (rs:=[blk gd (grO c.fl c.sh (.slice none 0 0)),plR (.slice none 0 0) []]) q6;have q7:=p5.front 10 rfl rfl
  dsimp only [List.eraseIdx] at q7
  have p6:=zdn q7 (made_cv hc.f1 hc.f2);have q8:=p6.front 10 rfl rfl
  dsimp only [List.eraseIdx] at q8
  have p7:=Own.shut (rs:=[blk vt (cvO c.f vg (List.replicate (3*c.f+1) noVo).length (3*c.f+1)),cvR vg (List.replicate (3*c.f+1) noVo)]) (by rw [List.length_replicate];exact q8);have q9:=(p7.row0 (E:=314) (sz:=21)).front 11 rfl rfl
  dsimp only [List.eraseIdx] at q9
  have p8:=Own.shut (rs:=tabL tb c.f c.cl (.slice none 0 0) []) q9;have qa:=p8.front 13 rfl rfl
  dsimp only [List.eraseIdx] at qa
  have qb:=qa.front 12 rfl rfl
  dsimp only [List.eraseIdx] at qb
  have p9:=qb.dropAt 13 (by simp)
  dsimp only [List.eraseIdx] at p9
  subst hx hv;refine Own.shut ?_;rw [hI.symm] at p9;show Own B w0 W (nsL _ (newS c id) _++ss);exact p9
end
section
variable {B:Nat} {w0 w W W':World} {ss:List Res}
theorem znt {c:Cf} (hc:CfOk c) (id:Int) (nt:Nat) (h0:0≤id) (h2:id<3*(c.f:Int)+1) (h:Own B w0 W ss):
  Calls Tryz.prog 32 #[.agg (cfA c),.int .i64 id,.pointer (some ⟨nt,0,none⟩)] W fun e w'=> ∃(x:Np) (v:Nv),e= .returned (.tuple #[ptrV x.p,.int .i64 0])∧x.nt=nt∧(∀nm,NvOk {x with nm:=nm} (newS c id) v)∧Own B w0 w' (nsR x (newS c id) v::ss):=by
 have hf1:=hc.f1;have hf2:=hc.f2;have HCF:=zq hc;have HNO:=zq (fun w=>za0 (c.f:Int) w (by omega) (by omega));have H:=zq h;clear h;go_enter Tryz.func32,Tryz.ntmps32
 go_wp2_with fail
 have hb:=heap_alloc_new W (.cells (cfA c) 30);have H1:=zq (H.out.box (cfO c));generalize hq:W.heap.size=q at*;generalize W.alloc (.cells (cfA c) 30)=w1 at*;refine (cvalidC HCF.out _).mono ?_;rintro e w2 ⟨rfl,hu⟩;have H2:=zq (H1.out.upd0 hu);have hr:w2.rangeAt q 0 (cfA c).toList:=zvz hu (zvy hb);have c0:w2.cell? ⟨q,0,none⟩=some (.int .i64 c.f):=hr 0 _ rfl;have HR:=zq hr;clear hu hb H1 H hr
 go_wp2_with fail
 refine (HNO.out _).mono ?_;rintro e w' ⟨rfl,rfl⟩
 go_wp2_with fail
 have d0:CfAt c w2.drew q:=zt5 HR.out;have HC:=zq (zqg H2.out.drew);clear HR H2 c0
 go_region_held3 (fun w'=>CfAt c w' q)
  (first | (with_reducible exact d0) | (with_reducible exact e0) | (with_reducible exact zt4 e0))
  (first | (go_at_call 81;refine HC.out.mono ?_;rintro e w3 ⟨t,rfl,hu3,h3⟩;have H3:=zq h3;have e0:=zw4 hu3 d0;clear h3 hu3))
 go_wp2_with fail
 have H4:=zq (zr0 (zdn (T:=141) (cs:=(mkC c id nt t nilS nilP nilP nilP nilP nilP nilS nilS nilS nilS).toArray) ((H3.out.box _).perm (by exact List.Perm.cons _ (List.Perm.swap _ _ _))) rfl));clear H3 e0 d0 HC;generalize hp:w3.heap.size=p at*;generalize w3.alloc _=w4 at*;clear hp;obtain ⟨i0,hi,hz0,hz1,hz2⟩:=info_parts Tryz.infoPi;obtain ⟨j0,hj,hy0,hy1,hy2⟩:=info_parts Tryz.infoSi
 go_loopw [9] (fun n wr=> ∃k:Nat,k≤c.f+1∧n= .int .i64 k∧Hid (NwMk c B w0 wr p q id nt t k ss)) (fun n _=>c.f+1-(intOf n).toNat)
 case atStart=>exact ⟨0,by omega,rfl,H4⟩
 case round=>
  clear H4;obtain ⟨k,hk,rfl,HM⟩:=hrel;obtain ⟨rs,a1,a2,a3,c1,c2,c3,hok,hown⟩:=HM.out;have HOK:=zq hok;have HO:=zq hown;obtain ⟨q0,-⟩:=blk_at' hown 4 (b:=q) (T:=30) (cs:=(cfA c)) rfl 0 (v:= .int .i64 c.f) rfl;obtain ⟨q3,-⟩:=blk_at' hown 4 (b:=q) (T:=30) (cs:=(cfA c)) rfl 3 (v:= .int .i64 c.ah) rfl;clear hok hown HM;by_cases hlt:k<c.f+1
  ·have hkI:(k:Int)≤(c.f:Int):=by omega
   have HN:=zq (ins_new c.f k c.ah hf1 hf2 (by omega) (by omega) HCF.out.ah1 HCF.out.ah2 HO.out)
   go_wp2_with fail
   refine HN.out.mono ?_;rintro e w5 ⟨x,rfl,hx,h5⟩;have HX:=zq hx;have H5:=zq h5;obtain ⟨p18,z18⟩:=zdz h5 1 rfl 18 rfl;have HW:=zq (zam ((h5.alloc (.cells #[x.ptr] 142)).get 2 rfl));clear hx h5 HN HO q0 q3
   go_wp2_with (at_builtin;refine wpList_append_lies _ rfl (.tmp 51) (.tmp 53) 132 rfl 0 142 i0 (.pointer none) 1 8 Tryz.underlying132 hi hz0 hz1 hz2 rfl (by decide) _ k _ rfl HW.out ⟨w5.heap.size,0,none⟩ 1 1 [x.ptr] rfl rfl ?c1 ?c2 (by decide) ?c3 ?c4 (Nat.zero_le _) _ rfl ?c6)
   case c1=>exact World.news_of_block (heap_alloc_new w5 _)
   case c2=>intro u hu;simp at hu;subst hu;rfl
   case c3=>unfold maxLen;omega
   case c4=>omega
   case c6=>
    intro g cap2 w6 hown hgrow hat hlt6;have h6:=(H5.out.alloc (.cells #[x.ptr] 142)).growAt 2 rfl hgrow (by simpa using hat) hown;have H6:=zq h6;obtain ⟨p18,z18⟩:=zdz h6 1 rfl 18 rfl;clear hown hgrow hat hlt6 h6 H5 HW;have hmk:=zmv
    go_wp2_with fail
    have H7:=zq (H6.out.putAt 1 rfl 18 (.slice (some ⟨g,0,none⟩) (k+1) cap2));clear H6 p18 z18;generalize w6.setCell ⟨p,18,none⟩ (.slice (some ⟨g,0,none⟩) (k+1) cap2)=w7 at*;have hd:=(((H7.out.box z17O).alloc (.cells #[.slice (some ⟨w7.heap.size,0,none⟩) 17 17] 69))).drew;obtain ⟨d26,-⟩:=zdz H7.out.drew 1 rfl 26 rfl;have HF1:Hid (∀o,(w7.alloc o).drew.cell? ⟨p,26,none⟩=some (.slice a2 k c2)):=zq (fun o=>zay (w:=w7) d26);have HF2:Hid (∀o o',((w7.alloc o).alloc o').drew.cell? ⟨p,26,none⟩=some (.slice a2 k c2)):=zq (fun o o'=>zay (zay (w:=w7) d26));have HD:=zq hd;have HNW:=zq (news2 (w:=w7) (o:=z17O) (v:= .slice (some ⟨w7.heap.size,0,none⟩) 17 17) (T:=69));have HON:=zq (one_one (v:= .slice (some ⟨w7.heap.size,0,none⟩) 17 17) rfl);have HMX:=zq (zwa (k:=k) (by omega));have HM4:=zq (small_24 (k:=k) (by omega));have HW:=zq (zam (hd.get 4 rfl));clear hd;refine Held.wp_held [(p,26,[.slice a2 k c2])] [(4,0)] [10] [(6,true),(2,true)] (by kernel_rfl) (by kernel_rfl) ⟨⟨d26,trivial⟩,trivial⟩ ?_;simp only [Held.cutAt,Held.walk,List.take_succ_cons,List.take_zero,List.drop_succ_cons,List.drop_zero]
    go_wp2_with fail
    refine ⟨⟨⟨HF1.out _,trivial⟩,trivial⟩,?_⟩
    go_wp2_with (at_builtin;refine wpList_append_lies _ rfl (.tmp 61) (.tmp 63) 139 rfl 0 69 j0 (.slice none 0 0) 1 24 Tryz.underlying139 hj hy0 hy1 hy2 rfl (by decide) _ k _ rfl HW.out ⟨w7.heap.size+1,0,none⟩ 1 1 [.slice (some ⟨w7.heap.size,0,none⟩) 17 17] rfl rfl HNW.out HON.out (by decide) HMX.out HM4.out (Nat.zero_le _) (w7.heap.size+2) size2 ?_)
    intro g2 cap3 w8 hown hgrow hat hlt8;have h8:=HD.out.growAt 4 rfl hgrow (by simpa using hat) hown;have H8:=zq h8;obtain ⟨e26,z26⟩:=zdz h8 2 rfl 26 rfl;clear hown hgrow hat hlt8 h8 HD HW
    go_wp2_with fail
    refine ⟨⟨⟨e26,trivial⟩,trivial⟩,?_⟩
    go_wp2_with fail
    refine ⟨trivial,by rfl,⟨⟨rfl,.inl ⟨by kernel_rfl,rfl⟩⟩,trivial⟩,?_⟩
    go_wp2_with fail
    have H9:=zq (H8.out.putAt 2 rfl 26 (.slice (some ⟨g2,0,none⟩) (k+1) cap3));clear H8 HF1 HF2 HNW HON d26 e26 z26 H7;generalize w8.setCell ⟨p,26,none⟩ (.slice (some ⟨g2,0,none⟩) (k+1) cap3)=w9 at*;generalize w7.heap.size=ra at*;have hd:=((H9.out.box z17O).alloc (.cells #[.slice (some ⟨w9.heap.size,0,none⟩) 17 17] 69)).drew;obtain ⟨d27,-⟩:=zdz H9.out.drew 2 rfl 27 rfl;have HF1:Hid (∀o,(w9.alloc o).drew.cell? ⟨p,27,none⟩=some (.slice a3 k c3)):=zq (fun o=>zay (w:=w9) d27);have HD:=zq hd;have HNW:=zq (news2 (w:=w9) (o:=z17O) (v:= .slice (some ⟨w9.heap.size,0,none⟩) 17 17) (T:=69));have HON:=zq (one_one (v:= .slice (some ⟨w9.heap.size,0,none⟩) 17 17) rfl);have HW:=zq (zam (hd.get 6 rfl));clear hd;refine Held.wp_held [(p,27,[.slice a3 k c3])] [(4,0)] [10] [(6,true),(2,true)] (by kernel_rfl) (by kernel_rfl) ⟨⟨d27,trivial⟩,trivial⟩ ?_;simp only [Held.cutAt,Held.walk,List.take_succ_cons,List.take_zero,List.drop_succ_cons,List.drop_zero]
    go_wp2_with fail
    refine ⟨⟨⟨HF1.out _,trivial⟩,trivial⟩,?_⟩
    go_wp2_with (at_builtin;refine wpList_append_lies _ rfl (.tmp 71) (.tmp 73) 139 rfl 0 69 j0 (.slice none 0 0) 1 24 Tryz.underlying139 hj hy0 hy1 hy2 rfl (by decide) _ k _ rfl HW.out ⟨w9.heap.size+1,0,none⟩ 1 1 [.slice (some ⟨w9.heap.size,0,none⟩) 17 17] rfl rfl HNW.out HON.out (by decide) HMX.out HM4.out (Nat.zero_le _) (w9.heap.size+2) size2 ?_)
    intro g3 cap4 wa hown hgrow hat hlt8;have h8:=HD.out.growAt 6 rfl hgrow (by simpa using hat) hown;have H8:=zq h8;obtain ⟨e27,z27⟩:=zdz h8 3 rfl 27 rfl;clear hown hgrow hat hlt8 h8 HD HW
    go_wp2_with fail
    refine ⟨⟨⟨e27,trivial⟩,trivial⟩,?_⟩
    go_wp2_with fail
    refine ⟨trivial,by rfl,⟨⟨rfl,.inl ⟨by kernel_rfl,rfl⟩⟩,trivial⟩,?_⟩
    go_wp2_with fail
    have HZ:=zq (H8.out.putAt 3 rfl 27 (.slice (some ⟨g3,0,none⟩) (k+1) cap4));clear H8 HF1 HNW HON d27 e27 z27 H9
    go_roundw
    case rel=>
     refine ⟨k+1,by omega,by go_num,zq ⟨rs++[⟨x,ra,w9.heap.size⟩],some ⟨g,0,none⟩,some ⟨g2,0,none⟩,some ⟨g3,0,none⟩,cap2,cap3,cap4,HOK.out.add _ HX.out,?_⟩⟩;have h1:=HZ.out.perm (zvt _ _ _ [_,_,_,_,_,_] _ _);simp only [List.map_append,List.map_cons,List.map_nil,List.flatMap_append,List.flatMap_cons,List.flatMap_nil,List.append_nil];exact h1
    case measure=>simp [intOf];omega
  ·have hk2:k=c.f+1:=by omega
   have hkI:decide ((k:Int)≤(c.f:Int))=false:=by simp;omega
   obtain ⟨q1,-⟩:=blk_at' HO.out 4 (b:=q) (T:=30) (cs:=(cfA c)) rfl 1 (v:= .int .i64 c.cl) rfl;subst hk2;have HC:=zq (zvx HCF.out HO.out);clear HO
   go_wp2_with fail
   refine HC.out.mono ?_;rintro e w5 ⟨tb,rfl,h5⟩;obtain ⟨p19,z19⟩:=zdz h5 1 rfl 19 rfl;have HP:=zq (h5.putAt 1 rfl 19 (ptrV tb));clear h5 HC q0 q1 q3
   go_upto_region 12 with fail
   clear p19 z19;generalize w5.setCell ⟨p,19,none⟩ (ptrV tb)=w5 at*;have HP1:=HP;clear HP;obtain ⟨q0,-⟩:=blk_at' HP1.out 5 (b:=q) (T:=30) (cs:=(cfA c)) rfl 0 (v:= .int .i64 c.f) rfl;have HC:=zq (zov HCF.out HP1.out);clear HP1
   go_wp2_with fail
   refine HC.out.mono ?_;rintro e w5 ⟨vt,vg,rfl,h5⟩;obtain ⟨p20,z20⟩:=zdz h5 3 rfl 20 rfl;have HP:=zq (h5.putAt 3 rfl 20 (ptrV vt));clear h5 HC q0
   go_upto_region 13 with fail
   clear p20 z20;generalize w5.setCell ⟨p,20,none⟩ (ptrV vt)=w5 at*;have HP2:=HP;clear HP;obtain ⟨q5,-⟩:=blk_at' HP2.out 7 (b:=q) (T:=30) (cs:=(cfA c)) rfl 5 (v:= .int .i64 c.fl) rfl;obtain ⟨q6,-⟩:=blk_at' HP2.out 7 (b:=q) (T:=30) (cs:=(cfA c)) rfl 6 (v:= .int .i64 c.sh) rfl;have HC:=zq (zqv c.fl c.sh HCF.out.fl1 HCF.out.fl2 HCF.out.sh1 HCF.out.sh2 HP2.out);clear HP2
   go_wp2_with fail
   refine HC.out.mono ?_;rintro e w5 ⟨gd,rfl,h5⟩;obtain ⟨p21,z21⟩:=zdz h5 4 rfl 21 rfl;have HP:=zq (h5.putAt 4 rfl 21 (ptrV gd));clear h5 HC q5 q6
   go_upto_region 14 with fail
   clear p21 z21;generalize w5.setCell ⟨p,21,none⟩ (ptrV gd)=w5 at*;have HP3:=HP;clear HP;obtain ⟨q1,-⟩:=blk_at' HP3.out 8 (b:=q) (T:=30) (cs:=(cfA c)) rfl 1 (v:= .int .i64 c.cl) rfl;have HC:=zq (zpb HCF.out HP3.out);clear HP3
   go_wp2_with fail
   refine HC.out.mono ?_;rintro e w5 ⟨bk,rfl,hbk,hlp,h5⟩;have HBK:=zq hbk;have HLP:=zq hlp;clear hbk hlp;obtain ⟨p22,z22⟩:=zdz h5 9 rfl 22 rfl;have HP:=zq (h5.putAt 9 rfl 22 (ptrV bk.p));clear h5 HC q1
   go_upto_region 15 with fail
   clear p22 z22;generalize w5.setCell ⟨p,22,none⟩ (ptrV bk.p)=w5 at*;have HP4:=HP;clear HP;obtain ⟨q0,-⟩:=blk_at' HP4.out 13 (b:=q) (T:=30) (cs:=(cfA c)) rfl 0 (v:= .int .i64 c.f) rfl;have HC:=zq (zrk HCF.out HP4.out);clear HP4
   go_wp2_with fail
   refine HC.out.mono ?_;rintro e w5 ⟨mt,mg,rfl,h5⟩;obtain ⟨p23,z23⟩:=zdz h5 11 rfl 23 rfl;have HP:=zq (h5.putAt 11 rfl 23 (ptrV mt));clear h5 HC q0
   go_upto_region 16 with fail
   clear p23 z23;generalize w5.setCell ⟨p,23,none⟩ (ptrV mt)=w5 at*;have HP5:=HP;clear HP;obtain ⟨q0,-⟩:=blk_at' HP5.out 15 (b:=q) (T:=30) (cs:=(cfA c)) rfl 0 (v:= .int .i64 c.f) rfl;obtain ⟨p24,z24⟩:=zdz (HP5.out.alloc (ptON c.f)) 11 rfl 24 rfl;have hmk:=zmw hf1 hf2
   go_wp2_with fail
   refine (HNO.out _).mono ?_;rintro e w' ⟨rfl,rfl⟩;have HP6:=zq ((HP5.out.box (ptON c.f)).putAt 12 rfl 24 (slI w5.heap.size (3*c.f+1) (3*c.f+1)));clear HP5 q0
   go_upto_region 17 with fail
   clear p24 z24 hmk;generalize w5.heap.size=pt at*;generalize World.setCell _ ⟨p,24,none⟩ _=w6 at*;have HP7:=zq ((HP6.out.box (bgON c.f)).putAt 13 rfl 25 (slI w6.heap.size (c.f+1) (c.f+1)));obtain ⟨q0,-⟩:=blk_at' HP6.out 16 (b:=q) (T:=30) (cs:=(cfA c)) rfl 0 (v:= .int .i64 c.f) rfl;obtain ⟨p25,z25⟩:=zdz (HP6.out.alloc (bgON c.f)) 12 rfl 25 rfl;have hmk:=zms hf1 hf2;clear HP6
   go_wp2_with fail
   go_ret2
   obtain ⟨x,v,rfl,h2,h3,h4⟩:=nw_fin HCF.out HBK.out HLP.out HOK.out HP7.out;exact ⟨x,v,rfl,h2,h3,h4⟩
end
def stdC (f:Nat):Cf:=⟨f,2,2,4,64,8,8,8,1,2,12,8,6,2,6⟩
theorem zoj {f:Nat} (h1:1≤f) (h2:f≤4):CfOk (stdC f):=by constructor<;>simp only [stdC]<;>omega
theorem zwh (cl:Int):TabOk cl []:=⟨by simp,by simp⟩
theorem vsok0:VsOk (st0.map Prod.snd):=by
 unfold VsOk;decide+kernel
theorem newS_ok {c:Cf} (hc:CfOk c) {id:Int} (h0:0≤id) (h1:id≤3*c.f):NsOk (newS c id) where
 c:=hc
 id0:=h0
 id1:=h1
 now0:=by simp [newS]
 now1:=by simp [newS]
 ins:=by simp [newS]
 insk:=fun k hk=>by
  simp only [newS,List.length_map,List.length_range] at hk;simp only [newS,List.getElem_map,List.getElem_range];exact ⟨rfl,rfl,rfl,new_sm _ _ _⟩
 tab:=zwh _
 vo:=by simp [newS]
 gd:=by simp [newS]
 mt:=by simp [newS]
 mtn:=fun k h1 h2=>by
  simp only [newS,List.getElem_replicate];omega
 pts:=by simp [newS]
 bg:=by simp [newS]
 pre:=by simp [newS]
 pre2:=fun l hl=>by simp only [newS] at hl;rw [List.eq_of_mem_replicate hl];simp
 com:=by simp [newS]
 com2:=fun l hl=>by simp only [newS] at hl;rw [List.eq_of_mem_replicate hl];simp
 bkc:=by simp only [newS,newL];have:=hc.cl1;omega
 bkn:=by simp [newS,newL]
 bks:=by simp [newS,newL]
 bkv:=vsok0
 bke:=by simp [newS,newL]
 run0:=by simp [newS]
 run1:=by simp [newS]
 view0:=by simp [newS]
 view1:=by simp [newS]
 voted0:=by simp [newS]
 voted1:=by simp [newS]
 since0:=by simp [newS]
 since1:=by simp [newS]
 start0:=by simp [newS]
 start1:=by simp [newS]
 used0:=by simp [newS]
 bad0:=by simp [newS]
 stale0:=by simp [newS]
 shut0:=by simp [newS]
 full0:=by simp [newS]
section
variable {B:Nat} {w0 w W W':World} {ss rs:List Res} {x:Np} {s s':Ns} {l l':Nt}
theorem stdAny (f:Nat) (w:World):Calls Tryz.prog 46 #[.int .i64 f] w fun e w'=>e= .returned (.agg (cfA (stdC f)))∧Upd [] w w':=by
 go_enter Tryz.func46,Tryz.ntmps46
 go_wp2_with fail
 refine bodyPost_ret (v:= .agg (cfA (stdC f))) (by simp [results,Tryz.results46,go_sem,stdC]) rfl ⟨rfl,(Upd.refl _ _).alloc _⟩
theorem znx (h:NdIs B w0 W x s l ss):Calls Tryz.prog 24 #[ptrV x.p] W fun e w'=>e= .returned (.int .i64 s.view)∧W=w':=by
 have c:=h.cell 29 rfl (by decide);clear h;go_enter Tryz.func24,Tryz.ntmps24
 go_wp2_with fail
 go_ret
 exact ⟨rfl,rfl⟩
theorem zrz (h:NdIs B w0 W x s l ss):Calls Tryz.prog 40 #[ptrV x.p] W fun e w'=>e= .returned (.int .i64 s.voted)∧W=w':=by
 have c:=h.cell 30 rfl (by decide);clear h;go_enter Tryz.func40,Tryz.ntmps40
 go_wp2_with fail
 go_ret
 exact ⟨rfl,rfl⟩
theorem zfg (h:NdIs B w0 W x s l ss):Calls Tryz.prog 25 #[ptrV x.p,.int .i64 0] W fun e w'=>e= .returned (.bool (insAt s 0).on)∧Upd [] W w':=by
 have c18:=h.cell 18 rfl (by decide);have hcap:=h.caps.1;have hcI:(s.c.f:Int)+1≤(x.ic:Int):=by omega
 obtain ⟨i,hi,ci⟩:=h.iAt (k:=0) (by omega);have HI:=zq (zco h 0 (by omega) hi);clear h hcap;go_enter Tryz.func25,Tryz.ntmps25
 go_wp2_with fail
 refine HI.out.mono ?_;rintro e w' ⟨rfl,rfl⟩
 go_wp2_with fail
 go_ret
 exact ⟨rfl,Upd.refl _ _⟩
theorem zru (h:NdIs B w0 W x s l ss):Calls Tryz.prog 26 #[ptrV x.p] W fun e w'=> ∃(a:Option Addr) (k:Nat) (os:List Sd),e= .returned (.slice a os.length k)∧os.map Sd.p=s.out∧NdIs B w0 w' x {s with out:=[]} l (redR (.slice a os.length k) 2 os.length (os.flatMap sdC)::sdsR os::ss):=by
 obtain ⟨v,rr,c,d,g⟩:=h.outs;obtain ⟨a,k,hv⟩:=c.ov;rw [hv] at d;obtain ⟨c34,z34⟩:=zdz d 0 rfl 34 rfl;have h1:=d.putAt 0 rfl 34 (.slice none 0 0);have h2:Own B w0 (W.setCell ⟨x.p,34,none⟩ (.slice none 0 0)) (segR x.p 141 (nsC x s (.slice none 0 0))::ownR 62 2 (.slice none 0 0) 0 []::sdsR []::(([redR (.slice a v.os.length k) 2 v.os.length (v.os.flatMap sdC),sdsR v.os]++ss)++rr)):=by
  have h3:Own B w0 (W.setCell ⟨x.p,34,none⟩ (.slice none 0 0)) (segR x.p 141 (nsC x s (.slice none 0 0))::redR (.slice a v.os.length k) 2 v.os.length (v.os.flatMap sdC)::sdsR v.os::(ss++rr)):=(Own.toRed h1.swap).swap;have h4:=(h3.mkSds (l:=[]) (by simp)).row0 (E:=62) (sz:=2);exact h4.rot
 have HF:=zq (g _ (.slice none 0 0) [] ([redR (.slice a v.os.length k) 2 v.os.length (v.os.flatMap sdC),sdsR v.os]++ss) ⟨none,0,rfl⟩ h2);have HO:=zq c.os;clear h d g h1 h2;go_enter Tryz.func26,Tryz.ntmps26
 go_wp2_with fail
 go_ret
 exact ⟨a,k,v.os,rfl,HO.out,HF.out⟩
end
end Go.Proofs.YtannckelmojkoaaGreat
