/- Parts of the proof, one behind the other. -/
import Derived.Test.YtannckelmojkoaaGreatAgnB14
import Derived.IntWalk
set_option maxHeartbeats 32000000
set_option maxRecDepth 100000
set_option linter.unusedVariables false
set_option linter.unusedSimpArgs false
namespace Go.Proofs.YtannckelmojkoaaGreat
open Go.RowKit Go.Heap
abbrev Nt:=List (Int×Bys)
def txt (b:Bys):ByteArray:=strOfNums (b.map fun c:Nat=>(c:Int))
def nkey (p:Int) (s:ByteArray):Value:= .agg #[.int .i64 p,.string s]
theorem zzh {a b:Bys} (ha: ∀c∈a,c<256) (hb: ∀c∈b,c<256) (h:txt a=txt b):a=b:=by
 have h2:(txt a).data.toList=(txt b).data.toList:=by rw [h]
 unfold txt at h2;rw [strOfNums_data,strOfNums_data,List.map_map,List.map_map] at h2;clear h
 induction a generalizing b with
 | nil=>cases b with
  | nil=>rfl
  | cons y b=>simp at h2
 | cons x a ih=>cases b with
  | nil=>simp at h2
  | cons y b=>
   simp only [List.map_cons,List.cons.injEq,Function.comp] at h2;obtain ⟨h3,h4⟩:=h2;have hx:=ha x (by simp);have hy:=hb y (by simp);have e:x=y:=by
    have:=congrArg UInt8.toNat h3;simp only [Int.toNat_natCast,UInt8.toNat_ofNat'] at this;omega
   rw [e,ih (fun c hc=>ha c (by simp [hc])) (fun c hc=>hb c (by simp [hc])) h4]
theorem Tryz.ukey:Tryz.prog.underlying 194=some (.struct (Tryz.prog.fieldsOf 194)):=by kernel_rfl
theorem Tryz.umap:Tryz.prog.underlying 150=some (.map 194 3):=by kernel_rfl
theorem Tryz.pk1:Tryz.prog.underlying 3=some (.int .i64):=by kernel_rfl
theorem Tryz.pk2:Tryz.prog.underlying 9=some .string:=by kernel_rfl
theorem Tryz.kf:Tryz.prog.fieldsOf 194=#[(Tryz.prog.fieldsOf 194)[0]!,(Tryz.prog.fieldsOf 194)[1]!]:=by kernel_rfl
theorem Tryz.kf0 : ((Tryz.prog.fieldsOf 194)[0]!).name = "party" ∧ ((Tryz.prog.fieldsOf 194)[0]!).type = 3 ∧ ((Tryz.prog.fieldsOf 194)[0]!).offset = 0 := ⟨by kernel_rfl, by kernel_rfl, by kernel_rfl⟩
theorem Tryz.kf1 : ((Tryz.prog.fieldsOf 194)[1]!).name = "text" ∧ ((Tryz.prog.fieldsOf 194)[1]!).type = 9 ∧ ((Tryz.prog.fieldsOf 194)[1]!).offset = 1 := ⟨by kernel_rfl, by kernel_rfl, by kernel_rfl⟩
theorem zjv {w:World} {v:Value} {bs:Bys} (h:Byt w v bs):(convert 60 9 v).run Tryz.prog w= .ok (.string (txt bs)) w:=by
 have hs:Tryz.prog.underlying 60=some (.slice 5):=by kernel_rfl
 have he:Tryz.prog.underlying 5=some (.int .u8):=by kernel_rfl
 obtain ⟨⟨ao,cap,rfl,h1,h2,h3,h4,h5⟩,-⟩:=h;by_cases hz:bs.length=0
 ·have hb:bs=[]:=List.eq_nil_of_length_eq_zero hz
  subst hb;rw [run_convert_bytes_string w _ _ _ _ _ _ hs he Tryz.pk2];cases ao<;>simp [Conv.bytesToString,loadCells]
  all_goals rfl
 ·obtain ⟨b,o,rfl,hb,hc⟩:=h5 (by omega)
  refine run_convert_bytes_arg w _ _ hs he b o bs.length cap (bs.map fun c:Nat=>(c:Int)) (by simp) (fun i hi=> ?_) _ Tryz.pk2;rw [hc i (by omega)];simp [List.getD,hi]
abbrev noB (m:Nat):Obj:= .cells #[.map (some m)] 152 (0,0)
theorem zgv {α:Type} {b:Bys} {one:Rs→α×Rs} {a:Nat} {l:List α} {a':Nat} (h:zb0 b one a=some (l,a')):l.length≤256:=by
 unfold zb0 at h;split at h
 ·cases h
 ·simp only [Option.some.injEq,Prod.mk.injEq] at h
  rw [←h.1];exact zla _ _ _
structure MsOk (m:Ms):Prop where
 r:m.rs.length≤256
 v:m.vs.length≤256
 c:m.cs.length≤256
 p:m.ps.length≤256
 f0:0≤m.fm
 f1:m.fm<1099511627776
theorem zta {b:Bys} {m:Ms} (h:ze0 b=some m):MsOk m:=by
 unfold ze0 at h;split at h
 ·cases h
 unfold pm0 at h;split at h
 ·cases h
 unfold pm1 at h;split at h
 ·cases h
 rename_i hf
 unfold pm2 at h;split at h
 ·cases h
 unfold pm3 at h;split at h
 ·cases h
 unfold pm4 at h;split at h
 ·cases h
 unfold pm5 at h;split at h
 ·cases h
 unfold pm6 at h;split at h
 ·cases h
 rename_i hr
 unfold pm7 at h;split at h
 ·cases h
 rename_i hv
 unfold pm8 at h;split at h
 ·cases h
 rename_i hc
 unfold pm9 at h;split at h
 ·cases h
 rename_i hp
 split at h
 ·simp only [Option.some.injEq] at h
  subst h;have h1:=(zdr hf).1;unfold topN at h1;exact ⟨zgv hr,zgv hv,zgv hc,zgv hp,by simp,by simp;omega⟩
 ·cases h
section
variable {B:Nat} {w0 W:World} {ss:List Res}
theorem mm_at {m:Mm} (h:Own B w0 W (mmR m ss)) (hm:MsOk m.ms):MmAt W m:=by
 obtain ⟨D5,⟨b1,-⟩,-,-⟩:=h.get 5 rfl;obtain ⟨D4,⟨v1,-⟩,-,-⟩:=h.get 4 rfl;obtain ⟨D3,⟨c3,-⟩,-,-⟩:=h.get 3 rfl;obtain ⟨D2,⟨c1,-⟩,-,-⟩:=h.get 2 rfl;obtain ⟨D1,⟨p3,-⟩,-,-⟩:=h.get 1 rfl;obtain ⟨D0,⟨p1,-⟩,-,-⟩:=h.get 0 rfl;have hr:=hm.r;have hv:=hm.v;have hc:=hm.c;have hp:=hm.p;simp only [Mm.ms,List.length_map] at hr hv hc hp;have ctw: ∀ {c:Ct} {D:List Nat},CtIn W c D→CtW W c:=fun h=>⟨h.b.1,h.bn,h.v.1,h.vn⟩;exact ⟨b1.1,by omega,v1.1,by omega,⟨c1.1,fun c hc=>ctw (c3 c hc)⟩,by omega,⟨p1.1,fun p hp=>⟨(p3 p hp).v.1,(p3 p hp).vn,⟨(p3 p hp).c.1,fun c hc=>ctw ((p3 p hp).cs c hc)⟩,(p3 p hp).cn⟩⟩,by omega⟩
end
abbrev cfgF (fl sh:Int):Array Value:=#[.int .i64 1,.int .i64 2,.int .i64 2,.int .i64 4,.int .i64 64,.int .i64 fl,.int .i64 sh,.int .i64 8,.int .i64 1,.int .i64 2,.int .i64 12,.int .i64 8,.int .i64 6,.int .i64 2,.int .i64 6]
section
variable {B:Nat} {w0 w W W':World} {ss:List Res}
theorem cvalidF (fl sh:Int) (w:World) (g1:1≤fl) (g2:fl≤64) (g3:1≤sh) (g4:sh≤64):Calls Tryz.prog 79 #[.agg (cfgF fl sh)] w fun e w'=>e= .returned (.bool true)∧Upd [] w w':=by
 go_enter Tryz.func79,Tryz.ntmps79
 go_wp2_with fail
 iterate 15
  refine (zc4 _ _ _ _ (by first | decide | omega) (by first | decide | omega)).mono ?_
  rintro e w' ⟨rfl,rfl⟩
  go_wp2_with fail
 go_ret
 exact ⟨rfl,(Upd.refl _ _).alloc _⟩
theorem zki (fl sh:Int) (g1:1≤fl) (g2:fl≤64) (g3:1≤sh) (g4:sh≤64) (h:Own B w0 W ss):Calls Tryz.prog 85 #[.int .i64 fl,.int .i64 sh] W fun e w'=> ∃p,e= .returned (.tuple #[.pointer (some ⟨p,0,none⟩),.int .i64 0])∧Own B w0 w' (blk p (.cells #[.int .i64 fl,.int .i64 sh,.slice none 0 0] 250 (0,0))::ss):=by
 have H:=zq h;clear h;go_enter Tryz.func85,Tryz.ntmps85
 go_wp2_with fail
 go_ret2
 exact ⟨_,rfl,H.out.box _⟩
abbrev zl4 (fl sh:Int) (w:World) (b:Nat):Prop:=w.cell? ⟨b,0,none⟩=some (.int .i64 1)∧w.cell? ⟨b,1,none⟩=some (.int .i64 2)∧w.cell? ⟨b,2,none⟩=some (.int .i64 2)∧w.cell? ⟨b,3,none⟩=some (.int .i64 4)∧w.cell? ⟨b,4,none⟩=some (.int .i64 64)∧w.cell? ⟨b,5,none⟩=some (.int .i64 fl)∧w.cell? ⟨b,6,none⟩=some (.int .i64 sh)∧w.cell? ⟨b,7,none⟩=some (.int .i64 8)∧w.cell? ⟨b,8,none⟩=some (.int .i64 1)∧w.cell? ⟨b,9,none⟩=some (.int .i64 2)∧w.cell? ⟨b,10,none⟩=some (.int .i64 12)∧w.cell? ⟨b,11,none⟩=some (.int .i64 8)∧w.cell? ⟨b,12,none⟩=some (.int .i64 6)∧w.cell? ⟨b,13,none⟩=some (.int .i64 2)∧w.cell? ⟨b,14,none⟩=some (.int .i64 6)
theorem zra {fl sh:Int} {b:Nat} (h:w.rangeAt b 0 (cfgF fl sh).toList):zl4 fl sh w b:=by
 refine ⟨?_,?_,?_,?_,?_,?_,?_,?_,?_,?_,?_,?_,?_,?_,?_⟩
 ·exact Nat.zero_add 0 ▸ h 0 _ rfl
 ·exact Nat.zero_add 1 ▸ h 1 _ rfl
 ·exact Nat.zero_add 2 ▸ h 2 _ rfl
 ·exact Nat.zero_add 3 ▸ h 3 _ rfl
 ·exact Nat.zero_add 4 ▸ h 4 _ rfl
 ·exact Nat.zero_add 5 ▸ h 5 _ rfl
 ·exact Nat.zero_add 6 ▸ h 6 _ rfl
 ·exact Nat.zero_add 7 ▸ h 7 _ rfl
 ·exact Nat.zero_add 8 ▸ h 8 _ rfl
 ·exact Nat.zero_add 9 ▸ h 9 _ rfl
 ·exact Nat.zero_add 10 ▸ h 10 _ rfl
 ·exact Nat.zero_add 11 ▸ h 11 _ rfl
 ·exact Nat.zero_add 12 ▸ h 12 _ rfl
 ·exact Nat.zero_add 13 ▸ h 13 _ rfl
 ·exact Nat.zero_add 14 ▸ h 14 _ rfl
theorem zrb {fl sh:Int} {b:Nat} (hu:Upd [] w W) (h:zl4 fl sh w b):zl4 fl sh W b:=by
 obtain ⟨h0,h1,h2,h3,h4,h5,h6,h7,h8,h9,h10,h11,h12,h13,h14⟩:=h;exact ⟨zaj hu h0,zaj hu h1,zaj hu h2,zaj hu h3,zaj hu h4,zaj hu h5,zaj hu h6,zaj hu h7,zaj hu h8,zaj hu h9,zaj hu h10,zaj hu h11,zaj hu h12,zaj hu h13,zaj hu h14⟩
theorem zq9 {fl sh:Int} {b:Nat} {o:Obj} (h:zl4 fl sh w b):zl4 fl sh (w.alloc o) b:=zrb ((Upd.refl _ _).alloc o) h
end
abbrev cfgO (fl sh:Int):Obj:= .cells (cfgF fl sh) 30 (0,0)
abbrev tabO:Obj:= .cells #[.int .i64 1,.int .i64 2,.slice none 0 0] 244 (0,0)
abbrev votO (g:Nat):Obj:= .cells #[.int .i64 1,.slice (some ⟨g,0,none⟩) 4 4] 247 (0,0)
abbrev vgO:Obj:= .cells (madeCells #[.bool false,.int .i64 0,.int .i64 0] 12) 320 (0,0)
abbrev grdO (fl sh:Int):Obj:= .cells #[.int .i64 fl,.int .i64 sh,.slice none 0 0] 250 (0,0)
abbrev mtO (g:Nat):Obj:= .cells #[.slice (some ⟨g,0,none⟩) 2 2] 254 (0,0)
abbrev mgO:Obj:= .cells (madeCells #[.complex .f64 0 0] 2) 269 (0,0)
abbrev ptO:Obj:= .cells (madeCells #[.int .i64 0,.int .i64 0,.slice none 0 0,.slice none 0 0,.int .i64 0] 20) 260 (0,0)
abbrev bgO:Obj:= .cells (madeCells #[.int .i64 0,.int .i64 0,.int .i64 0,.int .i64 0,.int .i64 0,.int .i64 0,.int .i64 0,.slice none 0 0,.slice none 0 0,.slice none 0 0,.slice none 0 0] 22) 262 (0,0)
abbrev z17O:Obj:= .cells (madeCells #[.int .i64 0] 17) 3 (0,0)
abbrev ndCs (fl sh id:Int) (nt t:Nat) (v1 tb vt gd bk mt pt bg v2 v3:Value):List Value:=[.int .i64 1,.int .i64 2,.int .i64 2,.int .i64 4,.int .i64 64,.int .i64 fl,.int .i64 sh,.int .i64 8,.int .i64 1,.int .i64 2,.int .i64 12,.int .i64 8,.int .i64 6,.int .i64 2,.int .i64 6,
 .int .i64 id,.pointer (some ⟨nt,0,none⟩),.pointer (some ⟨t,0,none⟩),v1,tb,vt,gd,bk,mt,pt,bg,v2,v3,.int .i64 0,.int .i64 0,.int .i64 (-1),.int .i64 0,.int .i64 0,.bool false,.slice none 0 0,.int .i64 0,.int .i64 0,.int .i64 0,.int .i64 0,.int .i64 0]
abbrev ptrV (p:Nat):Value:= .pointer (some ⟨p,0,none⟩)
abbrev nilS:Value:= .slice none 0 0
abbrev nilP:Value:= .pointer none
structure Rd where
 x:Ins
 a:Nat
 b:Nat
abbrev Rd.va (r:Rd):Value:= .slice (some ⟨r.a,0,none⟩) 17 17
abbrev Rd.vb (r:Rd):Value:= .slice (some ⟨r.b,0,none⟩) 17 17
def rdR (r:Rd):List Res:=[instR r.x,blk r.a z17O,blk r.b z17O]
def RwOk (rs:List Rd) (k:Nat):Prop:=rs.length=k∧ ∀(j:Nat) (r:Rd),rs[j]?=some r→r.x.st=newI 1 (j:Int) 4
theorem RwOk.add {rs:List Rd} {k:Nat} (h:RwOk rs k) (r:Rd) (hr:r.x.st=newI 1 (k:Int) 4):RwOk (rs++[r]) (k+1):=by
 obtain ⟨h1,h2⟩:=h;refine ⟨by simp [h1],fun j q hq=> ?_⟩;rw [List.getElem?_append] at hq;split at hq
 ·exact h2 j q hq
 ·have hj:j=k:=by
   have:=(List.getElem?_eq_some_iff.1 hq).1;simp at this;omega
  subst hj;rw [h1] at hq;simp at hq;subst hq;exact hr
def NdMk (fl sh:Int) (B:Nat) (w0 w:World) (p q:Nat) (id:Int) (nt t:Nat) (k:Nat) (ss:List Res):Prop:=
 ∃(rs:List Rd) (a1 a2 a3:Option Addr) (c1 c2 c3:Nat),RwOk rs k∧
  Own B w0 w (segR p 141 (ndCs fl sh id nt t (.slice a1 k c1) nilP nilP nilP nilP nilP nilS nilS (.slice a2 k c2) (.slice a3 k c3))::
   ownR 142 1 (.slice a1 k c1) k (rs.map fun r=>r.x.ptr)::ownR 69 1 (.slice a2 k c2) k (rs.map Rd.va)::ownR 69 1 (.slice a3 k c3) k (rs.map Rd.vb)::blk q (cfgO fl sh)::blk t zc9::(rs.flatMap rdR++ss))
structure Nd where
 p:Nat
 q:Nat
 id:Int
 nt:Nat
 t:Nat
 a1:Option Addr
 a2:Option Addr
 a3:Option Addr
 c1:Nat
 c2:Nat
 c3:Nat
 rs:List Rd
 tb:Nat
 vt:Nat
 vg:Nat
 gd:Nat
 bk:Lg
 mt:Nat
 mg:Nat
 pt:Nat
 bg:Nat
 fl:Int
 sh:Int
abbrev Nd.cs (x:Nd):List Value:=ndCs x.fl x.sh x.id x.nt x.t (.slice x.a1 2 x.c1) (ptrV x.tb) (ptrV x.vt) (ptrV x.gd) (ptrV x.bk.p) (ptrV x.mt) (.slice (some ⟨x.pt,0,none⟩) 4 4) (.slice (some ⟨x.bg,0,none⟩) 2 2) (.slice x.a2 2 x.c2) (.slice x.a3 2 x.c3)
def ndL (x:Nd):List Res:=blk x.bg bgO::blk x.pt ptO::blk x.mt (mtO x.mg)::blk x.mg mgO::(lgL x.bk++(blk x.gd (grdO x.fl x.sh)::blk x.vt (votO x.vg)::blk x.vg vgO::blk x.tb tabO::
 segR x.p 141 x.cs::ownR 142 1 (.slice x.a1 2 x.c1) 2 (x.rs.map fun r=>r.x.ptr)::ownR 69 1 (.slice x.a2 2 x.c2) 2 (x.rs.map Rd.va)::ownR 69 1 (.slice x.a3 2 x.c3) 2 (x.rs.map Rd.vb)::blk x.q (cfgO x.fl x.sh)::blk x.t zc9::x.rs.flatMap rdR))
def nodeR (x:Nd):Res:=joinR (ndL x)
structure NdOk (x:Nd):Prop where
 rs:RwOk x.rs 2
 bk:LgOk x.bk
 lp:x.bk.lp=newL 2
section
variable {B:Nat} {w0 w W W':World} {ss:List Res}
theorem zoj (r1 r2 r3:Res) (hd rows ss:List Res):(r1::r2::r3::(hd++(rows++ss))).Perm (hd++((rows++[r3,r2,r1])++ss)):=by
 have h1:(r1::r2::r3::(hd++(rows++ss))).Perm (r3::r2::r1::(hd++(rows++ss))):=(List.Perm.swap _ _ _).trans (((List.Perm.swap _ _ _).cons _).trans (List.Perm.swap _ _ _));refine h1.trans ?_;have h2:=List.perm_append_comm_assoc [r3,r2,r1] (hd++rows) ss;simp only [List.append_assoc,List.cons_append,List.nil_append] at h2⊢;exact h2
theorem Tryz.infoPi:(Tryz.prog.info? 142).map (fun i=>(i.zero,i.size,i.bytes))=some (some (.pointer none),1,8):=by kernel_rfl
theorem Tryz.infoSi:(Tryz.prog.info? 69).map (fun i=>(i.zero,i.size,i.bytes))=some (some (.slice none 0 0),1,24):=by kernel_rfl
theorem zaf {rs:List Res} (h:Own B w0 W rs) (k:Nat) {b:Nat} {T:TypeId} {vals:List Value} (e:rs[k]?=some (segR b T vals)) (i:Nat) {v:Value} (hv:vals[i]?=some v):W.cell? ⟨b,i,none⟩=some v∧W.frozen? ⟨b,i,none⟩=false:=by
 obtain ⟨-,q2,q3⟩:=zd1 (h.get k e);exact ⟨(q2 i (List.getElem?_eq_some_iff.1 hv).1).trans hv,q3 i⟩
theorem blk_at' {rs:List Res} (h:Own B w0 W rs) (k:Nat) {b:Nat} {T:TypeId} {cs:Array Value} (e:rs[k]?=some (blk b (.cells cs T (0,0)))) (i:Nat) {v:Value} (hv:cs[i]?=some v):W.cell? ⟨b,i,none⟩=some v∧W.frozen? ⟨b,i,none⟩=false:=by
 have hb:=h.blkAt k e;exact ⟨(zab hb i).trans hv,zac hb i⟩
theorem one_one {v:Value} (h:v.oneCell'=true): ∀u∈[v],u.oneCell'=true:=by intro u hu;simp at hu;subst hu;exact h
theorem zo0 {k:Nat} (h:k≤1000):k+1≤maxLen:=by unfold maxLen;omega
theorem zt4 {k:Nat} (h:k≤1000):(k+1)*24≤140737488355328:=by omega
theorem size2 {w:World} {o o':Obj}:((w.alloc o).alloc o').drew.heap.size=w.heap.size+2:=by simp
theorem news2 {w:World} {o:Obj} {v:Value} {T:TypeId}: ∀j u,[v][j]?=some u→((w.alloc o).alloc (.cells #[v] T (0,0))).drew.cell? ((⟨w.heap.size+1,0,none⟩:Addr).add j)=some u:=
 news_at (w:=((w.alloc o).alloc (.cells #[v] T (0,0))).drew) (cs:=#[v]) (T:=T) (zr6 (w:=w.alloc o) (by simp))
theorem zso {fl sh:Int} {q p t:Nat} {id:Int} {nt:Nat} (h:Own B w0 W (segR p 141 (ndCs fl sh id nt t nilS nilP nilP nilP nilP nilP nilS nilS nilS nilS)::blk q (cfgO fl sh)::blk t zc9::ss)):NdMk fl sh B w0 W p q id nt t 0 ss:=by
 refine ⟨[],none,none,none,0,0,0,⟨rfl,by simp⟩,?_⟩;exact ((h.row0 (E:=69) (sz:=1)).row0 (E:=69) (sz:=1)).swap.row0 (E:=142) (sz:=1) |>.perm (by
  refine List.Perm.trans (List.perm_middle (l₁:=[_,_,_])) (List.Perm.refl _))
theorem node_new (fl sh:Int) (g1:1≤fl) (g2:fl≤64) (g3:1≤sh) (g4:sh≤64) (id:Int) (nt:Nat) (h0:0≤id) (h2:id<4) (h:Own B w0 W ss):
  Calls Tryz.prog 32 #[.agg (cfgF fl sh),.int .i64 id,.pointer (some ⟨nt,0,none⟩)] W fun e w'=> ∃x:Nd,e= .returned (.tuple #[.pointer (some ⟨x.p,0,none⟩),.int .i64 0])∧x.id=id∧x.nt=nt∧x.fl=fl∧x.sh=sh∧NdOk x∧Own B w0 w' (nodeR x::ss):=by
 have H:=zq h;clear h;go_enter Tryz.func32,Tryz.ntmps32
 go_wp2_with fail
 have hb:=heap_alloc_new W (.cells (cfgF fl sh) 30);have H1:=zq (H.out.box (cfgO fl sh));generalize hq:W.heap.size=q at*;generalize W.alloc (.cells (cfgF fl sh) 30)=w1 at*;refine (cvalidF fl sh _ g1 g2 g3 g4).mono ?_;rintro e w2 ⟨rfl,hu⟩;have H2:=zq (H1.out.upd0 hu);have hr:w2.rangeAt q 0 (cfgF fl sh).toList:=zop hu (zon hb);have c0:w2.cell? ⟨q,0,none⟩=some (.int .i64 1):=hr 0 _ rfl;have HR:=zq hr;clear hu hb H1 H hr
 go_wp2_with fail
 refine (zjd _).mono ?_;rintro e w' ⟨rfl,rfl⟩
 go_wp2_with fail
 have d0:zl4 fl sh w2.drew q:=zra HR.out;have HC:=zq (zkd H2.out.drew);clear HR H2 c0
 go_region_held3 (fun w'=>zl4 fl sh w' q)
  (first | (with_reducible exact d0) | (with_reducible exact e0) | (with_reducible exact zq9 e0))
  (first | (go_at_call 81;refine HC.out.mono ?_;rintro e w3 ⟨t,rfl,hu3,h3⟩;have H3:=zq h3;have e0:=zrb hu3 d0;clear h3 hu3))
 go_wp2_with fail
 have H4:=zq (zso (zdb (T:=141) (cs:=(ndCs fl sh id nt t nilS nilP nilP nilP nilP nilP nilS nilS nilS nilS).toArray) ((H3.out.box _).perm (by exact List.Perm.cons _ (List.Perm.swap _ _ _))) rfl));clear H3 e0 d0 HC;generalize hp:w3.heap.size=p at*;generalize w3.alloc _=w4 at*;clear hp;obtain ⟨i0,hi,hz0,hz1,hz2⟩:=info_parts Tryz.infoPi;obtain ⟨j0,hj,hy0,hy1,hy2⟩:=info_parts Tryz.infoSi
 go_loopw [9] (fun n wr=> ∃k:Nat,k≤2∧n= .int .i64 k∧Hid (NdMk fl sh B w0 wr p q id nt t k ss)) (fun n _=>2-(intOf n).toNat)
 case atStart=>exact ⟨0,by omega,rfl,H4⟩
 case round=>
  clear H4;obtain ⟨k,hk,rfl,HM⟩:=hrel;obtain ⟨rs,a1,a2,a3,c1,c2,c3,hok,hown⟩:=HM.out;have HOK:=zq hok;have HO:=zq hown;obtain ⟨q0,-⟩:=blk_at' hown 4 (b:=q) (T:=30) (cs:=(cfgF fl sh)) rfl 0 (v:= .int .i64 1) rfl;obtain ⟨q3,-⟩:=blk_at' hown 4 (b:=q) (T:=30) (cs:=(cfgF fl sh)) rfl 3 (v:= .int .i64 4) rfl;clear hok hown HM;by_cases hlt:k<2
  ·have hkI:(k:Int)≤1:=by omega
   have HN:=zq (zym 1 k 4 (by omega) (by omega) (by omega) (by omega) (by omega) (by omega) HO.out)
   go_wp2_with fail
   refine HN.out.mono ?_;rintro e w5 ⟨x,rfl,hx,h5⟩;have HX:=zq hx;have H5:=zq h5;obtain ⟨p18,z18⟩:=zaf h5 1 rfl 18 rfl;have HW:=zq (zal ((h5.alloc (.cells #[x.ptr] 142)).get 2 rfl));clear hx h5 HN HO q0 q3
   go_wp2_with (at_builtin;refine wpList_append_lies _ rfl (.tmp 51) (.tmp 53) 132 rfl 0 142 i0 (.pointer none) 1 8 Tryz.underlying132 hi hz0 hz1 hz2 rfl (by decide) _ k _ rfl HW.out ⟨w5.heap.size,0,none⟩ 1 1 [x.ptr] rfl rfl ?c1 ?c2 (by decide) ?c3 ?c4 (Nat.zero_le _) _ rfl ?c6)
   case c1=>exact World.news_of_block (heap_alloc_new w5 _)
   case c2=>intro u hu;simp at hu;subst hu;rfl
   case c3=>unfold maxLen;omega
   case c4=>omega
   case c6=>
    intro g cap2 w6 hown hgrow hat hlt6;have h6:=(H5.out.alloc (.cells #[x.ptr] 142)).growAt 2 rfl hgrow (by simpa using hat) hown;have H6:=zq h6;obtain ⟨p18,z18⟩:=zaf h6 1 rfl 18 rfl;clear hown hgrow hat hlt6 h6 H5 HW;have hmk:=zhu
    go_wp2_with fail
    have H7:=zq (H6.out.putAt 1 rfl 18 (.slice (some ⟨g,0,none⟩) (k+1) cap2));clear H6 p18 z18;generalize w6.setCell ⟨p,18,none⟩ (.slice (some ⟨g,0,none⟩) (k+1) cap2)=w7 at*;have hd:=(((H7.out.box z17O).alloc (.cells #[.slice (some ⟨w7.heap.size,0,none⟩) 17 17] 69))).drew;obtain ⟨d26,-⟩:=zaf H7.out.drew 1 rfl 26 rfl;have HF1:Hid (∀o,(w7.alloc o).drew.cell? ⟨p,26,none⟩=some (.slice a2 k c2)):=zq (fun o=>zax (w:=w7) d26);have HF2:Hid (∀o o',((w7.alloc o).alloc o').drew.cell? ⟨p,26,none⟩=some (.slice a2 k c2)):=zq (fun o o'=>zax (zax (w:=w7) d26));have HD:=zq hd;have HNW:=zq (news2 (w:=w7) (o:=z17O) (v:= .slice (some ⟨w7.heap.size,0,none⟩) 17 17) (T:=69));have HON:=zq (one_one (v:= .slice (some ⟨w7.heap.size,0,none⟩) 17 17) rfl);have HMX:=zq (zo0 (k:=k) (by omega));have HM4:=zq (zt4 (k:=k) (by omega));have HW:=zq (zal (hd.get 4 rfl));clear hd;refine Held.wp_held [(p,26,[.slice a2 k c2])] [(4,0)] [10] [(6,true),(2,true)] (by kernel_rfl) (by kernel_rfl) ⟨⟨d26,trivial⟩,trivial⟩ ?_;simp only [Held.cutAt,Held.walk,List.take_succ_cons,List.take_zero,List.drop_succ_cons,List.drop_zero]
    go_wp2_with fail
    refine ⟨⟨⟨HF1.out _,trivial⟩,trivial⟩,?_⟩
    go_wp2_with (at_builtin;refine wpList_append_lies _ rfl (.tmp 61) (.tmp 63) 139 rfl 0 69 j0 (.slice none 0 0) 1 24 Tryz.underlying139 hj hy0 hy1 hy2 rfl (by decide) _ k _ rfl HW.out ⟨w7.heap.size+1,0,none⟩ 1 1 [.slice (some ⟨w7.heap.size,0,none⟩) 17 17] rfl rfl HNW.out HON.out (by decide) HMX.out HM4.out (Nat.zero_le _) (w7.heap.size+2) size2 ?_)
    intro g2 cap3 w8 hown hgrow hat hlt8;have h8:=HD.out.growAt 4 rfl hgrow (by simpa using hat) hown;have H8:=zq h8;obtain ⟨e26,z26⟩:=zaf h8 2 rfl 26 rfl;clear hown hgrow hat hlt8 h8 HD HW
    go_wp2_with fail
    refine ⟨⟨⟨e26,trivial⟩,trivial⟩,?_⟩
    go_wp2_with fail
    refine ⟨trivial,by rfl,⟨⟨rfl,.inl ⟨by kernel_rfl,rfl⟩⟩,trivial⟩,?_⟩
    go_wp2_with fail
    have H9:=zq (H8.out.putAt 2 rfl 26 (.slice (some ⟨g2,0,none⟩) (k+1) cap3));clear H8 HF1 HF2 HNW HON d26 e26 z26 H7;generalize w8.setCell ⟨p,26,none⟩ (.slice (some ⟨g2,0,none⟩) (k+1) cap3)=w9 at*;generalize w7.heap.size=ra at*;have hd:=((H9.out.box z17O).alloc (.cells #[.slice (some ⟨w9.heap.size,0,none⟩) 17 17] 69)).drew;obtain ⟨d27,-⟩:=zaf H9.out.drew 2 rfl 27 rfl;have HF1:Hid (∀o,(w9.alloc o).drew.cell? ⟨p,27,none⟩=some (.slice a3 k c3)):=zq (fun o=>zax (w:=w9) d27);have HD:=zq hd;have HNW:=zq (news2 (w:=w9) (o:=z17O) (v:= .slice (some ⟨w9.heap.size,0,none⟩) 17 17) (T:=69));have HON:=zq (one_one (v:= .slice (some ⟨w9.heap.size,0,none⟩) 17 17) rfl);have HW:=zq (zal (hd.get 6 rfl));clear hd;refine Held.wp_held [(p,27,[.slice a3 k c3])] [(4,0)] [10] [(6,true),(2,true)] (by kernel_rfl) (by kernel_rfl) ⟨⟨d27,trivial⟩,trivial⟩ ?_;simp only [Held.cutAt,Held.walk,List.take_succ_cons,List.take_zero,List.drop_succ_cons,List.drop_zero]
    go_wp2_with fail
    refine ⟨⟨⟨HF1.out _,trivial⟩,trivial⟩,?_⟩
    go_wp2_with (at_builtin;refine wpList_append_lies _ rfl (.tmp 71) (.tmp 73) 139 rfl 0 69 j0 (.slice none 0 0) 1 24 Tryz.underlying139 hj hy0 hy1 hy2 rfl (by decide) _ k _ rfl HW.out ⟨w9.heap.size+1,0,none⟩ 1 1 [.slice (some ⟨w9.heap.size,0,none⟩) 17 17] rfl rfl HNW.out HON.out (by decide) HMX.out HM4.out (Nat.zero_le _) (w9.heap.size+2) size2 ?_)
    intro g3 cap4 wa hown hgrow hat hlt8;have h8:=HD.out.growAt 6 rfl hgrow (by simpa using hat) hown;have H8:=zq h8;obtain ⟨e27,z27⟩:=zaf h8 3 rfl 27 rfl;clear hown hgrow hat hlt8 h8 HD HW
    go_wp2_with fail
    refine ⟨⟨⟨e27,trivial⟩,trivial⟩,?_⟩
    go_wp2_with fail
    refine ⟨trivial,by rfl,⟨⟨rfl,.inl ⟨by kernel_rfl,rfl⟩⟩,trivial⟩,?_⟩
    go_wp2_with fail
    have HZ:=zq (H8.out.putAt 3 rfl 27 (.slice (some ⟨g3,0,none⟩) (k+1) cap4));clear H8 HF1 HNW HON d27 e27 z27 H9
    go_roundw
    case rel=>
     refine ⟨k+1,by omega,by go_num,zq ⟨rs++[⟨x,ra,w9.heap.size⟩],some ⟨g,0,none⟩,some ⟨g2,0,none⟩,some ⟨g3,0,none⟩,cap2,cap3,cap4,HOK.out.add _ HX.out,?_⟩⟩;have h1:=HZ.out.perm (zoj _ _ _ [_,_,_,_,_,_] _ _);simp only [List.map_append,List.map_cons,List.map_nil,List.flatMap_append,List.flatMap_cons,List.flatMap_nil,List.append_nil];exact h1
    case measure=>simp [intOf];omega
  ·have hk2:k=2:=by omega
   have hkI:(1:Int)<(k:Int):=by omega
   obtain ⟨q1,-⟩:=blk_at' HO.out 4 (b:=q) (T:=30) (cs:=(cfgF fl sh)) rfl 1 (v:= .int .i64 2) rfl;subst hk2;have HC:=zq (prop_new HO.out);clear HO
   go_wp2_with fail
   refine HC.out.mono ?_;rintro e w5 ⟨tb,rfl,h5⟩;obtain ⟨p19,z19⟩:=zaf h5 1 rfl 19 rfl;have HP:=zq (h5.putAt 1 rfl 19 (ptrV tb));clear h5 HC q0 q1 q3
   go_upto_region 12 with fail
   clear p19 z19;generalize w5.setCell ⟨p,19,none⟩ (ptrV tb)=w5 at*;have HP1:=HP;clear HP;obtain ⟨q0,-⟩:=blk_at' HP1.out 5 (b:=q) (T:=30) (cs:=(cfgF fl sh)) rfl 0 (v:= .int .i64 1) rfl;have HC:=zq (zrc HP1.out);clear HP1
   go_wp2_with fail
   refine HC.out.mono ?_;rintro e w5 ⟨vt,vg,rfl,h5⟩;obtain ⟨p20,z20⟩:=zaf h5 3 rfl 20 rfl;have HP:=zq (h5.putAt 3 rfl 20 (ptrV vt));clear h5 HC q0
   go_upto_region 13 with fail
   clear p20 z20;generalize w5.setCell ⟨p,20,none⟩ (ptrV vt)=w5 at*;have HP2:=HP;clear HP;obtain ⟨q5,-⟩:=blk_at' HP2.out 7 (b:=q) (T:=30) (cs:=(cfgF fl sh)) rfl 5 (v:= .int .i64 fl) rfl;obtain ⟨q6,-⟩:=blk_at' HP2.out 7 (b:=q) (T:=30) (cs:=(cfgF fl sh)) rfl 6 (v:= .int .i64 sh) rfl;have HC:=zq (zki fl sh g1 g2 g3 g4 HP2.out);clear HP2
   go_wp2_with fail
   refine HC.out.mono ?_;rintro e w5 ⟨gd,rfl,h5⟩;obtain ⟨p21,z21⟩:=zaf h5 4 rfl 21 rfl;have HP:=zq (h5.putAt 4 rfl 21 (ptrV gd));clear h5 HC q5 q6
   go_upto_region 14 with fail
   clear p21 z21;generalize w5.setCell ⟨p,21,none⟩ (ptrV gd)=w5 at*;have HP3:=HP;clear HP;obtain ⟨q1,-⟩:=blk_at' HP3.out 8 (b:=q) (T:=30) (cs:=(cfgF fl sh)) rfl 1 (v:= .int .i64 2) rfl;have HC:=zq (zko 2 (by omega) (by omega) HP3.out);clear HP3
   go_wp2_with fail
   refine HC.out.mono ?_;rintro e w5 ⟨bk,rfl,hbk,hlp,h5⟩;have HBK:=zq hbk;have HLP:=zq hlp;clear hbk hlp;obtain ⟨p22,z22⟩:=zaf h5 9 rfl 22 rfl;have HP:=zq (h5.putAt 9 rfl 22 (ptrV bk.p));clear h5 HC q1
   go_upto_region 15 with fail
   clear p22 z22;generalize w5.setCell ⟨p,22,none⟩ (ptrV bk.p)=w5 at*;have HP4:=HP;clear HP;obtain ⟨q0,-⟩:=blk_at' HP4.out 13 (b:=q) (T:=30) (cs:=(cfgF fl sh)) rfl 0 (v:= .int .i64 1) rfl;have HC:=zq (zv9 HP4.out);clear HP4
   go_wp2_with fail
   refine HC.out.mono ?_;rintro e w5 ⟨mt,mg,rfl,h5⟩;obtain ⟨p23,z23⟩:=zaf h5 11 rfl 23 rfl;have HP:=zq (h5.putAt 11 rfl 23 (ptrV mt));clear h5 HC q0
   go_upto_region 16 with fail
   clear p23 z23;generalize w5.setCell ⟨p,23,none⟩ (ptrV mt)=w5 at*;have HP5:=HP;clear HP;obtain ⟨q0,-⟩:=blk_at' HP5.out 15 (b:=q) (T:=30) (cs:=(cfgF fl sh)) rfl 0 (v:= .int .i64 1) rfl;obtain ⟨p24,z24⟩:=zaf (HP5.out.alloc ptO) 11 rfl 24 rfl;have hmk:=zqf
   go_wp2_with fail
   refine (zjd _).mono ?_;rintro e w' ⟨rfl,rfl⟩;have HP6:=zq ((HP5.out.box ptO).putAt 12 rfl 24 (.slice (some ⟨w5.heap.size,0,none⟩) 4 4));clear HP5 q0
   go_upto_region 17 with fail
   clear p24 z24 hmk;generalize w5.heap.size=pt at*;generalize World.setCell _ ⟨p,24,none⟩ _=w6 at*;have HP7:=zq ((HP6.out.box bgO).putAt 13 rfl 25 (.slice (some ⟨w6.heap.size,0,none⟩) 2 2));obtain ⟨q0,-⟩:=blk_at' HP6.out 16 (b:=q) (T:=30) (cs:=(cfgF fl sh)) rfl 0 (v:= .int .i64 1) rfl;obtain ⟨p25,z25⟩:=zaf (HP6.out.alloc bgO) 12 rfl 25 rfl;have hmk:=zqc;clear HP6
   go_wp2_with fail
   go_ret2
   refine ⟨⟨p,q,id,nt,t,a1,a2,a3,c1,c2,c3,rs,tb,vt,vg,gd,bk,mt,mg,pt,w6.heap.size,fl,sh⟩,rfl,rfl,rfl,rfl,rfl,⟨HOK.out,HBK.out,HLP.out⟩,?_⟩;exact Own.shut (rs:=ndL ⟨p,q,id,nt,t,a1,a2,a3,c1,c2,c3,rs,tb,vt,vg,gd,bk,mt,mg,pt,w6.heap.size,fl,sh⟩) HP7.out
end
structure Peer where
 party:Int
 bad:Int
 till:Int
def zci (p:Peer):List Value:=[.int .i64 p.party,.int .i64 p.bad,.int .i64 p.till]
def wthn (c:Int):Int:=max 0 (min c 1048576)
def atB:List Peer→Int→Int→Int
 | [],_,_=> -1
 | p::ps,k,x=>if p.party=x then k else atB ps (k+1) x
def shutP:List Peer→Int→Int→Bool
 | [],_,_=>false
 | p::ps,x,c=>if p.party=x then decide (wthn c<p.till) else shutP ps x c
def bumpP (m t c x:Int):List Peer→List Peer
 | []=>[⟨x,1,0⟩]
 | p::ps=>if p.party=x then (if p.bad+1≤m then ⟨p.party,p.bad+1,p.till⟩ else ⟨p.party,0,wthn c+t⟩)::ps else p::bumpP m t c x ps
abbrev grO (m t:Int) (v:Value):Obj:= .cells #[.int .i64 m,.int .i64 t,v] 250 (0,0)
abbrev plR (v:Value) (ps:List Peer):Res:=ownR 272 3 v ps.length (ps.flatMap zci)
theorem zl9 {m t c x:Int}: ∀(ps:List Peer) (k:Int),0≤k→atB ps k x= -1→shutP ps x c=false∧bumpP m t c x ps=ps++[⟨x,1,0⟩]
 | [],k,_,_=>⟨rfl,rfl⟩
 | p::ps,k,hk,h=>by
  unfold atB at h;by_cases hp:p.party=x
  ·rw [if_pos hp] at h;omega
  ·rw [if_neg hp] at h
   obtain ⟨h1,h2⟩:=zl9 ps (k+1) (by omega) h;exact ⟨by unfold shutP;rw [if_neg hp];exact h1,by unfold bumpP;rw [if_neg hp,h2];rfl⟩
theorem zma {m t c x:Int}: ∀(ps:List Peer) (k:Int),0≤k→atB ps k x≠ -1→ ∃(i:Nat) (h:i<ps.length),atB ps k x=k+i∧shutP ps x c=decide (wthn c<ps[i].till)∧
  bumpP m t c x ps=ps.set i (if ps[i].bad+1≤m then ⟨ps[i].party,ps[i].bad+1,ps[i].till⟩ else ⟨ps[i].party,0,wthn c+t⟩)
 | [],k,_,h=>absurd rfl h
 | p::ps,k,hk,h=>by
  unfold atB at h⊢;by_cases hp:p.party=x
  ·refine ⟨0,by simp,by rw [if_pos hp];simp,by unfold shutP;rw [if_pos hp];rfl,by unfold bumpP;rw [if_pos hp];rfl⟩
  ·rw [if_neg hp] at h
   obtain ⟨i,hi,h1,h2,h3⟩:=zma (m:=m) (t:=t) (c:=c) ps (k+1) (by omega) h;refine ⟨i+1,by simp;omega,by rw [if_neg hp,h1];push_cast;omega,by unfold shutP;rw [if_neg hp,h2];rfl,by unfold bumpP;rw [if_neg hp,h3];rfl⟩
section
variable {B:Nat} {w0 w W:World} {ss:List Res} {g:Nat} {m t:Int} {v:Value} {ps:List Peer}
theorem pl_at {A:List Nat} (h:(plR v ps).At w A): ∃ao cap,v= .slice ao ps.length cap∧ps.length≤cap∧ ∀k (hk:k<ps.length),∃b,ao=some ⟨b,0,none⟩∧b<w.heap.size∧
  w.cell? ⟨b,k*3,none⟩=some (.int .i64 ps[k].party)∧w.cell? ⟨b,k*3+1,none⟩=some (.int .i64 ps[k].bad)∧w.cell? ⟨b,k*3+2,none⟩=some (.int .i64 ps[k].till)∧ ∀o,w.frozen? ⟨b,o,none⟩=false:=by
 rcases (zal h).2 with ⟨hv,hx⟩ | ⟨b,cap,cur,hv,-,hg,hnc,-⟩
 ·obtain ⟨ao,cap,e,hc,-⟩:=owns_reads (zal h)
  refine ⟨ao,cap,e,hc,fun k hk=> ?_⟩;exfalso;rw [hv] at e;simp only [Value.slice.injEq] at e;omega
 ·refine ⟨_,cap,hv,hnc,fun k hk=>⟨b,rfl,block_lt hg,?_⟩⟩
  subst hv;obtain ⟨-,q2,q3⟩:=zd1 (zjh h);have hl:(ps.flatMap zci).length=ps.length*3:=zdd (cells:=zci) (sz:=3) (fun _=>rfl) ps;have hj: ∀j,j<3→w.cell? ⟨b,k*3+j,none⟩=(zci ps[k])[j]?:=fun j hj=>by
   rw [q2 _ (by rw [hl];omega),zea zci 3 (fun _=>rfl) ps k j hk hj]
  exact ⟨hj 0 (by omega),hj 1 (by omega),hj 2 (by omega),q3⟩
theorem zid (c:Int) (w:World):Calls Tryz.prog 175 #[.int .i64 c] w fun e w'=>e= .returned (.int .i64 (wthn c))∧w=w':=by
 go_enter Tryz.func175,Tryz.ntmps175
 go_wp2
 all_goals
  go_ret
  exact ⟨zf6 (by simp [wthn];omega),rfl⟩
theorem zr0 (x:Int) (hn:ps.length≤100000) (h:Own B w0 W (blk g (grO m t v)::plR v ps::ss)):
  Calls Tryz.prog 174 #[.pointer (some ⟨g,0,none⟩),.int .i64 x] W fun e w'=>e= .returned (.int .i64 (atB ps 0 x))∧Upd [] W w':=by
 have hg:=h.blkAt 0 rfl;obtain ⟨ao,cap,rfl,hc,hat⟩:=pl_at (h.get 1 rfl);have HC:=zq hat;have h2:=zaa hg 2 rfl;clear hat h;go_enter Tryz.func174,Tryz.ntmps174
 go_wp2_with fail
 go_loopw [12] (fun i wr=> ∃k:Nat,k≤ps.length∧i= .int .i64 k∧Hid (atB ps 0 x=atB (ps.drop k) k x)∧Hid (Below W.heap.size W wr)) (fun i _=>ps.length-(intOf i).toNat)
 case atStart=>exact ⟨0,by omega,rfl,zq (by simp),zq (Below.refl _ _)⟩
 case round=>
  obtain ⟨k,hk,rfl,HE,HB⟩:=hrel;by_cases hlt:k<ps.length
  ·obtain ⟨b,rfl,hbs,d0,d1,d2,-⟩:=HC.out k hlt
   have q0:=(HB.out.cell (p:=⟨b,k*3,none⟩) hbs).trans d0;have q1:=(HB.out.cell (p:=⟨b,k*3+1,none⟩) hbs).trans d1;have q2:=(HB.out.cell (p:=⟨b,k*3+2,none⟩) hbs).trans d2;clear d0 d1 d2;have hkI:(k:Int)<(ps.length:Int):=by omega
   by_cases hx:ps[k].party=x
   ·have HX:=zq hx
    have hx':(ps[k].party==x)=true:=by simp [hx]
    clear hx
    go_wp2_with fail
    go_ret
    refine ⟨zf6 ?_,Upd.of_below (HB.out.alloc HB.out.size _)⟩;rw [HE.out,List.drop_eq_getElem_cons hlt,atB,if_pos HX.out]
   ·have HX:=zq hx
    have hx':(ps[k].party==x)=false:=by simp [hx]
    clear hx
    go_wp2_with fail
    go_roundw
    case rel=>exact ⟨k+1,by omega,by go_num,zq (by rw [HE.out,List.drop_eq_getElem_cons hlt,atB,if_neg HX.out];rfl),zq (HB.out.alloc HB.out.size _)⟩
    case measure=>simp [intOf];omega
  ·have hkI:decide ((k:Int)<(ps.length:Int))=false:=by simp;omega
   go_wp2_with fail
   go_ret
   refine ⟨zf6 ?_,Upd.of_below HB.out⟩;rw [HE.out,List.drop_of_length_le (by omega)];rfl
theorem shut_any (x c:Int) (hn:ps.length≤100000) (h:Own B w0 W (blk g (grO m t v)::plR v ps::ss)):
  Calls Tryz.prog 97 #[.pointer (some ⟨g,0,none⟩),.int .i64 x,.int .i64 c] W fun e w'=>e= .returned (.bool (shutP ps x c))∧Upd [] W w':=by
 have HA:=zq (zr0 x hn h);have HH:=zq h;by_cases hx:atB ps 0 x= -1
 ·rw [(zl9 (m:=m) (t:=t) ps 0 (by omega) hx).1]
  rw [hx] at HA;clear h hx;go_enter Tryz.func97,Tryz.ntmps97
  go_wp2_with fail
  refine HA.out.mono ?_;rintro e w1 ⟨rfl,hu⟩
  go_wp2_with fail
  go_quiet (fail)
  go_wp2_with fail
  go_ret
  exact ⟨rfl,hu.drewN _⟩
 ·obtain ⟨i,hi,h1,h2,-⟩:=zma (m:=m) (t:=t) (c:=c) ps 0 (by omega) hx
  rw [h2];have h3:atB ps 0 x=(i:Int):=by omega
  rw [h3] at HA;clear h hx h2 h1 h3;have hiI:(i:Int)<(ps.length:Int):=by omega
  have hi0:decide ((0:Int)≤(i:Int))=true:=by simp
  go_enter Tryz.func97,Tryz.ntmps97
  go_wp2_with fail
  refine HA.out.mono ?_;rintro e w1 ⟨rfl,hu⟩;have H1:=HH.out.upd0 hu;have hg:=H1.blkAt 0 rfl;obtain ⟨ao,cap,rfl,hc,hat⟩:=pl_at (H1.get 1 rfl);obtain ⟨b,rfl,hbs,d0,d1,d2,-⟩:=hat i hi;have c2:=zaa hg 2 rfl;clear hat HA hg H1;have HF:=zq (fun w=>zid c w)
  go_wp2_with fail
  go_quiet ((go_at_call 175;exact zap (HF.out _)))
  go_wp2_with fail
  go_ret
  exact ⟨rfl,hu.drewN _⟩
end
theorem Tryz.infoPeer:(Tryz.prog.info? 272).map (fun i=>(i.zero,i.size,i.bytes))=some (some (.agg #[.int .i64 0,.int .i64 0,.int .i64 0]),3,24):=by kernel_rfl
theorem pl_set: ∀(qs:List Peer) (k:Nat) (hk:k<qs.length) (u:Int),(qs.flatMap zci).set (k*3+1) (.int .i64 u)=(qs.set k ⟨qs[k].party,u,qs[k].till⟩).flatMap zci∧(qs.flatMap zci).set (k*3+2) (.int .i64 u)=(qs.set k ⟨qs[k].party,qs[k].bad,u⟩).flatMap zci
 | [],k,hk,_=>by simp at hk
 | q::qs,0,_,u=>by constructor<;>rfl
 | q::qs,k+1,hk,u=>by
  obtain ⟨h1,h2⟩:=pl_set qs k (by simpa using hk) u;have e1:(k+1)*3+1=(k*3+1)+1+1+1:=by omega
  have e2:(k+1)*3+2=(k*3+2)+1+1+1:=by omega
  constructor
  ·rw [e1]
   simp only [List.flatMap_cons,zci,List.cons_append,List.nil_append,List.set_cons_succ,List.getElem_cons_succ];exact congrArg _ (congrArg _ (congrArg _ h1))
  ·rw [e2]
   simp only [List.flatMap_cons,zci,List.cons_append,List.nil_append,List.set_cons_succ,List.getElem_cons_succ];exact congrArg _ (congrArg _ (congrArg _ h2))
section
variable {B:Nat} {w0 w W:World} {ss rs:List Res} {g:Nat} {m t:Int} {v:Value} {ps qs:List Peer}
theorem zwt {b cap k:Nat} (h:Own B w0 W (plR (.slice (some ⟨b,0,none⟩) qs.length cap) qs::rs)) (hk:k<qs.length) (u:Int):
  Own B w0 (W.setCell ⟨b,k*3+1,none⟩ (.int .i64 u)) (plR (.slice (some ⟨b,0,none⟩) qs.length cap) (qs.set k ⟨qs[k].party,u,qs[k].till⟩)::rs):=by
 have hs:=(zal h.head).stored (k*3+1) (.int .i64 u);rw [(pl_set qs k hk u).1] at hs;have:=h.grow hs.2 (.inl rfl) hs.1;unfold plR;rw [List.length_set];exact this
theorem zs5 {b cap k:Nat} (h:Own B w0 W (plR (.slice (some ⟨b,0,none⟩) qs.length cap) qs::rs)) (hk:k<qs.length) (u:Int):
  Own B w0 (W.setCell ⟨b,k*3+2,none⟩ (.int .i64 u)) (plR (.slice (some ⟨b,0,none⟩) qs.length cap) (qs.set k ⟨qs[k].party,qs[k].bad,u⟩)::rs):=by
 have hs:=(zal h.head).stored (k*3+2) (.int .i64 u);rw [(pl_set qs k hk u).2] at hs;have:=h.grow hs.2 (.inl rfl) hs.1;unfold plR;rw [List.length_set];exact this
theorem own_plbad' {b cap k n:Nat} (hn:qs.length=n) (h:Own B w0 W (plR (.slice (some ⟨b,0,none⟩) n cap) qs::rs)) (hk:k<qs.length) (u:Int):
  Own B w0 (W.setCell ⟨b,k*3+1,none⟩ (.int .i64 u)) (plR (.slice (some ⟨b,0,none⟩) n cap) (qs.set k ⟨qs[k].party,u,qs[k].till⟩)::rs):=by subst hn;exact zwt h hk u
theorem own_pltill' {b cap k n:Nat} (hn:qs.length=n) (h:Own B w0 W (plR (.slice (some ⟨b,0,none⟩) n cap) qs::rs)) (hk:k<qs.length) (u:Int):
  Own B w0 (W.setCell ⟨b,k*3+2,none⟩ (.int .i64 u)) (plR (.slice (some ⟨b,0,none⟩) n cap) (qs.set k ⟨qs[k].party,qs[k].bad,u⟩)::rs):=by subst hn;exact zs5 h hk u
theorem zjm {A:List Nat} {b n cap:Nat} (h:(plR (.slice (some ⟨b,0,none⟩) n cap) qs).At w A) (k:Nat) (hk:k<qs.length):b<w.heap.size∧w.cell? ⟨b,k*3,none⟩=some (.int .i64 qs[k].party)∧w.cell? ⟨b,k*3+1,none⟩=some (.int .i64 qs[k].bad)∧
  w.cell? ⟨b,k*3+2,none⟩=some (.int .i64 qs[k].till)∧ ∀o,w.frozen? ⟨b,o,none⟩=false:=by
 obtain ⟨ao,cap',e,-,hc⟩:=pl_at h;obtain ⟨b',hb,r⟩:=hc k hk;subst hb;simp only [Value.slice.injEq,Option.some.injEq,Addr.mk.injEq,and_true] at e;obtain ⟨rfl,-⟩:=e;exact r
theorem ztd {b n cap:Nat} {o:Obj} (h:Own B w0 W (blk g o::plR (.slice (some ⟨b,0,none⟩) n cap) qs::rs)):g≠b:=by
 have:=(List.pairwise_cons.1 h.apart).1 (plR (.slice (some ⟨b,0,none⟩) n cap) qs) (by simp) g (by simp [blk])
 simpa [plR,ownR,blkOf] using this
def BadP (B:Nat) (w0:World) (g:Nat) (m t:Int) (qs:List Peer) (ss:List Res) (e:Ending) (w':World):Prop:=
 ∃v' r,e= .returned (.bool r)∧Own B w0 w' (blk g (grO m t v')::plR v' qs::ss)
theorem gbad_new (x c:Int) (hm:1≤m) (hn:ps.length≤1000) (hx:atB ps 0 x= -1) (h:Own B w0 W (blk g (grO m t v)::plR v ps::ss)):
  Calls Tryz.prog 99 #[.pointer (some ⟨g,0,none⟩),.int .i64 x,.int .i64 c] W (BadP B w0 g m t (ps++[⟨x,1,0⟩]) ss):=by
 obtain ⟨i0,hi,hz0,hz1,hz2⟩:=info_parts Tryz.infoPeer;have HA:=zq (zr0 x (by omega) h);have HH:=zq h;rw [hx] at HA;clear h hx;go_enter Tryz.func99,Tryz.ntmps99
 go_wp2_with fail
 refine HA.out.mono ?_;rintro e w1 ⟨rfl,hu⟩;have H1:=zq (HH.out.upd0 hu);obtain ⟨ao,cap,rfl,hc,-⟩:=pl_at (H1.out.get 1 rfl);have c2:=zaa (H1.out.blkAt 0 rfl) 2 rfl;have f2:=zac (H1.out.blkAt 0 rfl) 2;have hd:=H1.out.alloc (.cells #[.int .i64 x,.int .i64 0,.int .i64 0] 272 (0,0));have HD:=zq hd;have HW:=zq (zal (hd.get 1 rfl));have HNW:Hid (∀j u,(zci ⟨x,0,0⟩)[j]?=some u→(w1.alloc (.cells #[.int .i64 x,.int .i64 0,.int .i64 0] 272 (0,0))).cell? ((⟨w1.heap.size,0,none⟩:Addr).add j)=some u):=zq (World.news_of_block (heap_alloc_new w1 (.cells #[.int .i64 x,.int .i64 0,.int .i64 0] 272 (0,0))));have HON:Hid (∀u∈zci ⟨x,0,0⟩,u.oneCell'=true):=zq (by intro u hu;simp [zci] at hu;rcases hu with rfl | rfl<;>rfl)
 have HMX:Hid (ps.length+1≤maxLen):=zq (by unfold maxLen;omega);have HM4:Hid ((ps.length+1)*24≤140737488355328):=zq (by omega);clear hd hu HA HH
 go_wp2_with (at_builtin;refine wpList_append_lies _ rfl (.tmp 23) (.tmp 26) 248 rfl 0 272 i0 (.agg #[.int .i64 0,.int .i64 0,.int .i64 0]) 3 24 Tryz.underlying248 hi hz0 hz1 hz2 rfl (by decide) _ ps.length _ rfl HW.out ⟨w1.heap.size,0,none⟩ 1 1 (zci ⟨x,0,0⟩) rfl rfl HNW.out HON.out (by decide) HMX.out HM4.out (Nat.zero_le _) _ rfl ?_)
 intro g9 cap9 w9 hown hgrow hat9 hlt9;have h6:=HD.out.growAt 1 rfl hgrow (by simpa using hat9) hown;have hql:(ps++[(⟨x,0,0⟩:Peer)]).length=ps.length+1:=by simp
 have hqk: ∀h,(ps++[(⟨x,0,0⟩:Peer)])[ps.length]'h=⟨x,0,0⟩:=by intro h;simp
 have hqs:(ps++[(⟨x,0,0⟩:Peer)]).set ps.length ⟨x,1,0⟩=ps++[⟨x,1,0⟩]:=by simp
 have h7:Own B w0 w9 (blk g (grO m t (.slice ao ps.length cap))::plR (.slice (some ⟨g9,0,none⟩) (ps.length+1) cap9) (ps++[(⟨x,0,0⟩:Peer)])::ss):=by
  have e1:(ps++[(⟨x,0,0⟩:Peer)]).flatMap zci=ps.flatMap zci++zci ⟨x,0,0⟩:=by rw [List.flatMap_append];simp
  unfold plR;rw [e1,hql];exact h6
 generalize ps++[(⟨x,0,0⟩:Peer)]=qs at*;have c2:=zaa (h7.blkAt 0 rfl) 2 rfl;have f2:=zac (h7.blkAt 0 rfl) 2;have H8:=zq (Own.storeTo h7 2 (.slice (some ⟨g9,0,none⟩) (ps.length+1) cap9) (o':=grO m t (.slice (some ⟨g9,0,none⟩) (ps.length+1) cap9)) rfl);clear hown hgrow hat9 hlt9 h6 HD HW HNW HON HM4 HMX h7 H1
 go_upto_region 5 with fail
 generalize World.setCell _ _ _=y1 at*;clear c2 f2;have c0:=zaa (H8.out.blkAt 0 rfl) 0 rfl;have c2:=zaa (H8.out.blkAt 0 rfl) 2 rfl;have hgb:=ztd H8.out;obtain ⟨hlt,d0,d1,d2,ff⟩:=zjm (H8.out.get 1 rfl) ps.length (by omega);have f1:=ff (ps.length*3+1);rw [hqk] at d1;clear ff;have H9:=zq (own_plbad' hql H8.out.swap (k:=ps.length) (by omega) 1);have hle:decide ((1:Int)≤m)=true:=by simpa using hm
 go_upto_region 7 with fail
 have hs:Hid (qs.set ps.length ⟨(qs[ps.length]'(by omega)).party,1,(qs[ps.length]'(by omega)).till⟩=ps++[⟨x,1,0⟩]):=zq (by rw [hqk];exact hqs);rw [hs.out] at H9;clear H8 d0 d1 d2 f1 hqs hqk hs c0 c2;generalize World.setCell _ _ _=y2 at*;have c0:=zaa (H9.out.blkAt 1 rfl) 0 rfl;obtain ⟨-,-,d1,-,-⟩:=zjm (H9.out.get 0 rfl) ps.length (by simp);simp only [List.getElem_append_right,Nat.le_refl,Nat.sub_self,List.getElem_cons_zero] at d1
 go_quiet (fail)
 go_wp2_with fail
 go_ret
 exact ⟨_,_,rfl,H9.out.swap.upd0 ((Upd.refl _ _).drewN _)⟩
theorem gbad_old (x c:Int) (hm:1≤m) (hm2:m≤64) (ht:1≤t) (ht2:t≤64) (hn:ps.length≤1000) (i:Nat) (hi:i<ps.length) (hx:atB ps 0 x=i) (hb0:0≤ps[i].bad) (hb1:ps[i].bad≤m) (h:Own B w0 W (blk g (grO m t v)::plR v ps::ss)):
  Calls Tryz.prog 99 #[.pointer (some ⟨g,0,none⟩),.int .i64 x,.int .i64 c] W (BadP B w0 g m t (ps.set i (if ps[i].bad+1≤m then ⟨ps[i].party,ps[i].bad+1,ps[i].till⟩ else ⟨ps[i].party,0,wthn c+t⟩)) ss):=by
 have HA:=zq (zr0 x (by omega) h);have HH:=zq h;rw [hx] at HA;clear h hx;have hiI:(i:Int)<(ps.length:Int):=by omega
 have h00:decide ((i:Int)<0)=false:=by simp
 have hw1:0≤wthn c:=by unfold wthn;omega
 have hw2:wthn c≤1048576:=by unfold wthn;omega
 have HF:=zq (fun w=>zid c w);generalize wthn c=wc at*;have HQ1:Hid (ps[i].bad+1≤m→ps.set i (if ps[i].bad+1≤m then ⟨ps[i].party,ps[i].bad+1,ps[i].till⟩ else ⟨ps[i].party,0,wc+t⟩)=ps.set i ⟨ps[i].party,ps[i].bad+1,ps[i].till⟩):=zq (fun h=>by rw [if_pos h]);have HQ2:Hid (¬ps[i].bad+1≤m→ps.set i (if ps[i].bad+1≤m then ⟨ps[i].party,ps[i].bad+1,ps[i].till⟩ else ⟨ps[i].party,0,wc+t⟩)=ps.set i ⟨ps[i].party,0,wc+t⟩):=zq (fun h=>by rw [if_neg h]);generalize ps.set i (if ps[i].bad+1≤m then ⟨ps[i].party,ps[i].bad+1,ps[i].till⟩ else ⟨ps[i].party,0,wc+t⟩)=qz at*;go_enter Tryz.func99,Tryz.ntmps99
 go_wp2_with fail
 refine HA.out.mono ?_;rintro e w1 ⟨rfl,hu⟩;have H1:=zq (HH.out.upd0 hu);obtain ⟨ao,cap,rfl,hc,hcc⟩:=pl_at (H1.out.get 1 rfl);obtain ⟨b,rfl,-⟩:=hcc i hi;obtain ⟨hlt,d0,d1,d2,ff⟩:=zjm (H1.out.get 1 rfl) i hi;have c2:=zaa (H1.out.blkAt 0 rfl) 2 rfl;have hgb:=ztd H1.out;have f1:=ff (i*3+1);have H2:=zq (own_plbad' rfl H1.out.swap hi (ps[i].bad+1));clear HA HH hu hcc ff hc
 go_upto_region 7 with fail
 clear c2 d0 d1 d2 f1 H1;generalize World.setCell _ _ _=y1 at*;have c0:=zaa (H2.out.blkAt 1 rfl) 0 rfl;have c1:=zaa (H2.out.blkAt 1 rfl) 1 rfl;obtain ⟨-,-,d1,d2,ff⟩:=zjm (H2.out.get 0 rfl) i (by simpa using hi);simp only [List.getElem_set_self] at d1 d2;have f1:=ff (i*3+1);have f2:=ff (i*3+2);clear ff;by_cases hle:ps[i].bad+1≤m
 ·have hle':decide (ps[i].bad+1≤m)=true:=by simpa using hle
  go_quiet (fail)
  go_wp2_with fail
  go_ret
  rw [HQ1.out hle];exact ⟨_,_,rfl,H2.out.swap.upd0 ((Upd.refl _ _).drewN _)⟩
 ·have hle':decide (ps[i].bad+1≤m)=false:=by simpa using hle
  have HS:Hid (∀k,Own B w0 (((y1.drewN k).setCell ⟨b,i*3+1,none⟩ (.int .i64 0)).setCell ⟨b,i*3+2,none⟩ (.int .i64 (wc+t))) (plR (.slice (some ⟨b,0,none⟩) ps.length cap) (ps.set i ⟨ps[i].party,0,wc+t⟩)::blk g (grO m t (.slice (some ⟨b,0,none⟩) ps.length cap))::ss)):=zq (fun k=>by
   have q1:=own_plbad' (k:=i) (by simp) (H2.out.upd0 ((Upd.refl _ _).drewN k)) (by simpa using hi) 0;have q2:=own_pltill' (k:=i) (by simp) q1 (by simpa using hi) (wc+t)
   simpa using q2)
  have HS2:Hid (∀k,Own B w0 (((y1.drewN k).setCell ⟨b,i*3+2,none⟩ (.int .i64 (wc+t))).setCell ⟨b,i*3+1,none⟩ (.int .i64 0)) (plR (.slice (some ⟨b,0,none⟩) ps.length cap) (ps.set i ⟨ps[i].party,0,wc+t⟩)::blk g (grO m t (.slice (some ⟨b,0,none⟩) ps.length cap))::ss)):=zq (fun k=>by
   have q1:=own_pltill' (k:=i) (by simp) (H2.out.upd0 ((Upd.refl _ _).drewN k)) (by simpa using hi) (wc+t);have q2:=own_plbad' (k:=i) (by simp) q1 (by simpa using hi) 0
   simpa using q2)
  clear H2
  go_quiet (fail)
  go_wp2_with fail
  have hwr:IntKind.i64.wrap (wc+t)=wc+t:=IntWalk.i64_in _ (by omega)
  go_region_with (go_at_call 175;refine (HF.out _).mono ?_;rintro e w' ⟨rfl,rfl⟩)
  all_goals
   go_wp2_with fail
   go_ret
   rw [HQ2.out hle];first
    | exact ⟨_,_,rfl,(HS.out _).swap.upd0 ((Upd.refl _ _).drewN _)⟩
    | exact ⟨_,_,rfl,(HS2.out _).swap.upd0 ((Upd.refl _ _).drewN _)⟩
    | exact ⟨_,_,rfl,(HS.out _).swap⟩
    | exact ⟨_,_,rfl,(HS2.out _).swap⟩
theorem gbad_any (x c:Int) (hm:1≤m) (hm2:m≤64) (ht:1≤t) (ht2:t≤64) (hn:ps.length≤1000) (hb: ∀p∈ps,0≤p.bad∧p.bad≤m) (h:Own B w0 W (blk g (grO m t v)::plR v ps::ss)):
  Calls Tryz.prog 99 #[.pointer (some ⟨g,0,none⟩),.int .i64 x,.int .i64 c] W (BadP B w0 g m t (bumpP m t c x ps) ss):=by
 by_cases hx:atB ps 0 x= -1
 ·rw [(zl9 (m:=m) (t:=t) (c:=c) ps 0 (by omega) hx).2]
  exact gbad_new x c hm hn hx h
 ·obtain ⟨i,hi,h1,-,h3⟩:=zma (m:=m) (t:=t) (c:=c) ps 0 (by omega) hx
  rw [h3];obtain ⟨b0,b1⟩:=hb _ (List.getElem_mem hi);exact gbad_old x c hm hm2 ht ht2 hn i hi (by omega) b0 b1 h
end
abbrev ndT (fl sh id:Int) (nt t:Nat) (v1 tb vt:Value) (gd:Nat) (bk mt pt bg v2 v3:Value) (st u bd sl sht fu:Int):List Value:=[.int .i64 1,.int .i64 2,.int .i64 2,.int .i64 4,.int .i64 64,.int .i64 fl,.int .i64 sh,.int .i64 8,.int .i64 1,.int .i64 2,.int .i64 12,.int .i64 8,.int .i64 6,.int .i64 2,.int .i64 6,
 .int .i64 id,.pointer (some ⟨nt,0,none⟩),.pointer (some ⟨t,0,none⟩),v1,tb,vt,.pointer (some ⟨gd,0,none⟩),bk,mt,pt,bg,v2,v3,.int .i64 0,.int .i64 0,.int .i64 (-1),.int .i64 0,.int .i64 st,.bool false,.slice none 0 0,.int .i64 u,.int .i64 bd,.int .i64 sl,.int .i64 sht,.int .i64 fu]
abbrev clkO (n:Int) (v:Value):Obj:= .cells #[.int .i64 n,v] 236 (0,0)
section
variable {B:Nat} {w0 w W:World} {ss:List Res} {p gd t nt nm:Nat} {fl sh id now st u bd sl sht fu:Int} {v1 tb vt bk mt pt bg v2 v3 cv gv:Value} {ps:List Peer}
theorem zf2 (hb:W.heap[t]?=some (clkO now cv)):Calls Tryz.prog 90 #[.pointer (some ⟨t,0,none⟩)] W fun e w'=>e= .returned (.int .i64 now)∧W=w':=by
 have c0:=zaa hb 0 rfl;clear hb;go_enter Tryz.func90,Tryz.ntmps90
 go_wp2_with fail
 go_ret
 exact ⟨rfl,rfl⟩
end
end Go.Proofs.YtannckelmojkoaaGreat
