/- Parts of the proof, one behind the other. -/
import Derived.Test.YtannckelmojkoaaGreatVwsB14
import Derived.IntWalk
import Derived.Deep.DeepCutAuto
import Derived.Deep.CutBlock
import Derived.Maps.AppendAt
import Derived.Test.YtannckelmojkoaaGreatRows
import Derived.Test.YtannckelmojkoaaGreatChecked
import Derived.JoinedOf
set_option maxHeartbeats 32000000
set_option maxRecDepth 100000
set_option linter.unusedVariables false
set_option linter.unusedSimpArgs false
namespace Go.Proofs.YtannckelmojkoaaGreat
open Go.RowKit Go.Heap
abbrev Nt:=List (Int×Bys)
def txt (b:Bys):ByteArray:=strOfNums (b.map fun c:Nat=>(c:Int))
def nkey (p:Int) (s:ByteArray):Value:= .agg #[.int .i64 p,.string s]
theorem zx8 {a b:Bys} (ha: ∀c∈a,c<256) (hb: ∀c∈b,c<256) (h:txt a=txt b):a=b:=by
 have h2:(txt a).data.toList=(txt b).data.toList:=by rw [h]
 unfold txt at h2;rw [strOfNums_data,strOfNums_data,List.map_map,List.map_map] at h2;clear h
 induction a generalizing b with
 | nil=>cases b with
  | nil=>rfl
  | cons y b=>simp at h2
 | cons x a ih=>cases b with
  | nil=>simp at h2
  | cons y b=>
   simp only [List.map_cons,List.cons.injEq,Function.comp] at h2;obtain ⟨h3,h4⟩:=h2;have hx:=ha x (by simp);have hy:=hb y (by simp);have e:x=y:=by
    have:=congrArg UInt8.toNat h3;simp only [Int.toNat_natCast,UInt8.toNat_ofNat'] at this;omega
   rw [e,ih (fun c hc=>ha c (by simp [hc])) (fun c hc=>hb c (by simp [hc])) h4]
theorem Tryz.ukey:Tryz.prog.underlying 194=some (.struct (Tryz.prog.fieldsOf 194)):=by kernel_rfl
theorem Tryz.umap:Tryz.prog.underlying 150=some (.map 194 3):=by kernel_rfl
theorem Tryz.pk1:Tryz.prog.underlying 3=some (.int .i64):=by kernel_rfl
theorem Tryz.pk2:Tryz.prog.underlying 9=some .string:=by kernel_rfl
theorem Tryz.kf:Tryz.prog.fieldsOf 194=#[(Tryz.prog.fieldsOf 194)[0]!,(Tryz.prog.fieldsOf 194)[1]!]:=by kernel_rfl
theorem Tryz.kf0 : ((Tryz.prog.fieldsOf 194)[0]!).name = "party" ∧ ((Tryz.prog.fieldsOf 194)[0]!).type = 3 ∧ ((Tryz.prog.fieldsOf 194)[0]!).offset = 0 := ⟨by kernel_rfl, by kernel_rfl, by kernel_rfl⟩
theorem Tryz.kf1 : ((Tryz.prog.fieldsOf 194)[1]!).name = "text" ∧ ((Tryz.prog.fieldsOf 194)[1]!).type = 9 ∧ ((Tryz.prog.fieldsOf 194)[1]!).offset = 1 := ⟨by kernel_rfl, by kernel_rfl, by kernel_rfl⟩
theorem zjs {w:World} {v:Value} {bs:Bys} (h:Byt w v bs):(convert 60 9 v).run Tryz.prog w= .ok (.string (txt bs)) w:=by
 have hs:Tryz.prog.underlying 60=some (.slice 5):=by kernel_rfl
 have he:Tryz.prog.underlying 5=some (.int .u8):=by kernel_rfl
 obtain ⟨⟨ao,cap,rfl,h1,h2,h3,h4,h5⟩,-⟩:=h;by_cases hz:bs.length=0
 ·have hb:bs=[]:=List.eq_nil_of_length_eq_zero hz
  subst hb;rw [run_convert_bytes_string w _ _ _ _ _ _ hs he Tryz.pk2];cases ao<;>simp [Conv.bytesToString,loadCells]
  all_goals rfl
 ·obtain ⟨b,o,rfl,hb,hc⟩:=h5 (by omega)
  refine run_convert_bytes_arg w _ _ hs he b o bs.length cap (bs.map fun c:Nat=>(c:Int)) (by simp) (fun i hi=> ?_) _ Tryz.pk2;rw [hc i (by omega)];simp [List.getD,hi]
abbrev noB (m:Nat):Obj:= .cells #[.map (some m)] 152 (0,0)
theorem zgv {α:Type} {b:Bys} {one:Rs→α×Rs} {a:Nat} {l:List α} {a':Nat} (h:zb3 b one a=some (l,a')):l.length≤256:=by
 unfold zb3 at h;split at h
 ·cases h
 ·simp only [Option.some.injEq,Prod.mk.injEq] at h
  rw [←h.1];exact zkz _ _ _
structure MsOk (m:Ms):Prop where
 r:m.rs.length≤256
 v:m.vs.length≤256
 c:m.cs.length≤256
 p:m.ps.length≤256
 f0:0≤m.fm
 f1:m.fm<1099511627776
theorem zsd {b:Bys} {m:Ms} (h:zew b=some m):MsOk m:=by
 unfold zew at h;split at h
 ·cases h
 unfold pm0 at h;split at h
 ·cases h
 unfold pm1 at h;split at h
 ·cases h
 rename_i hf
 unfold pm2 at h;split at h
 ·cases h
 unfold pm3 at h;split at h
 ·cases h
 unfold pm4 at h;split at h
 ·cases h
 unfold pm5 at h;split at h
 ·cases h
 unfold pm6 at h;split at h
 ·cases h
 rename_i hr
 unfold pm7 at h;split at h
 ·cases h
 rename_i hv
 unfold pm8 at h;split at h
 ·cases h
 rename_i hc
 unfold pm9 at h;split at h
 ·cases h
 rename_i hp
 split at h
 ·simp only [Option.some.injEq] at h
  subst h;have h1:=(zds hf).1;unfold topN at h1;exact ⟨zgv hr,zgv hv,zgv hc,zgv hp,by simp,by simp;omega⟩
 ·cases h
section
variable {B:Nat} {w0 W:World} {ss:List Res}
theorem mm_at {m:Mm} (h:Own B w0 W (mmR m ss)) (hm:MsOk m.ms):MmAt W m:=by
 obtain ⟨D5,⟨b1,-⟩,-,-⟩:=h.get 5 rfl;obtain ⟨D4,⟨v1,-⟩,-,-⟩:=h.get 4 rfl;obtain ⟨D3,⟨c3,-⟩,-,-⟩:=h.get 3 rfl;obtain ⟨D2,⟨c1,-⟩,-,-⟩:=h.get 2 rfl;obtain ⟨D1,⟨p3,-⟩,-,-⟩:=h.get 1 rfl;obtain ⟨D0,⟨p1,-⟩,-,-⟩:=h.get 0 rfl;have hr:=hm.r;have hv:=hm.v;have hc:=hm.c;have hp:=hm.p;simp only [Mm.ms,List.length_map] at hr hv hc hp;have ctw: ∀ {c:Ct} {D:List Nat},CtIn W c D→CtW W c:=fun h=>⟨h.b.1,h.bn,h.v.1,h.vn⟩;exact ⟨b1.1,by omega,v1.1,by omega,⟨c1.1,fun c hc=>ctw (c3 c hc)⟩,by omega,⟨p1.1,fun p hp=>⟨(p3 p hp).v.1,(p3 p hp).vn,⟨(p3 p hp).c.1,fun c hc=>ctw ((p3 p hp).cs c hc)⟩,(p3 p hp).cn⟩⟩,by omega⟩
end
section
variable {B:Nat} {w0 w W W':World} {ss:List Res}
theorem zqv (fl sh:Int) (g1:1≤fl) (g2:fl≤64) (g3:1≤sh) (g4:sh≤64) (h:Own B w0 W ss):Calls Tryz.prog 85 #[.int .i64 fl,.int .i64 sh] W fun e w'=> ∃p,e= .returned (.tuple #[.pointer (some ⟨p,0,none⟩),.int .i64 0])∧Own B w0 w' (blk p (.cells #[.int .i64 fl,.int .i64 sh,.slice none 0 0] 250 (0,0))::ss):=by
 have H:=zq h;clear h;go_enter Tryz.func85,Tryz.ntmps85
 go_wp2_with fail
 go_ret2
 exact ⟨_,rfl,H.out.box _⟩
end
abbrev tabO:Obj:= .cells #[.int .i64 1,.int .i64 2,.slice none 0 0] 244 (0,0)
abbrev mtO (g:Nat):Obj:= .cells #[.slice (some ⟨g,0,none⟩) 2 2] 254 (0,0)
abbrev mgO:Obj:= .cells (madeCells #[.complex .f64 0 0] 2) 269 (0,0)
abbrev bgO:Obj:= .cells (madeCells #[.int .i64 0,.int .i64 0,.int .i64 0,.int .i64 0,.int .i64 0,.int .i64 0,.int .i64 0,.slice none 0 0,.slice none 0 0,.slice none 0 0,.slice none 0 0] 22) 262 (0,0)
abbrev z17O:Obj:= .cells (madeCells #[.int .i64 0] 17) 3 (0,0)
abbrev ndCs (fl sh id:Int) (nt t:Nat) (v1 tb vt gd bk mt pt bg v2 v3:Value):List Value:=[.int .i64 1,.int .i64 2,.int .i64 2,.int .i64 4,.int .i64 64,.int .i64 fl,.int .i64 sh,.int .i64 8,.int .i64 1,.int .i64 2,.int .i64 12,.int .i64 8,.int .i64 6,.int .i64 2,.int .i64 6,
 .int .i64 id,.pointer (some ⟨nt,0,none⟩),.pointer (some ⟨t,0,none⟩),v1,tb,vt,gd,bk,mt,pt,bg,v2,v3,.int .i64 0,.int .i64 0,.int .i64 (-1),.int .i64 0,.int .i64 0,.bool false,.slice none 0 0,.int .i64 0,.int .i64 0,.int .i64 0,.int .i64 0,.int .i64 0]
abbrev ptrV (p:Nat):Value:= .pointer (some ⟨p,0,none⟩)
abbrev nilS:Value:= .slice none 0 0
abbrev nilP:Value:= .pointer none
structure Rd where
 x:Ins
 a:Nat
 b:Nat
abbrev Rd.va (r:Rd):Value:= .slice (some ⟨r.a,0,none⟩) 17 17
abbrev Rd.vb (r:Rd):Value:= .slice (some ⟨r.b,0,none⟩) 17 17
def rdR (r:Rd):List Res:=[instR r.x,blk r.a z17O,blk r.b z17O]
def RwOk (rs:List Rd) (k:Nat):Prop:=rs.length=k∧ ∀(j:Nat) (r:Rd),rs[j]?=some r→r.x.st=newI 1 (j:Int) 4
theorem RwOk.add {rs:List Rd} {k:Nat} (h:RwOk rs k) (r:Rd) (hr:r.x.st=newI 1 (k:Int) 4):RwOk (rs++[r]) (k+1):=by
 obtain ⟨h1,h2⟩:=h;refine ⟨by simp [h1],fun j q hq=> ?_⟩;rw [List.getElem?_append] at hq;split at hq
 ·exact h2 j q hq
 ·have hj:j=k:=by
   have:=(List.getElem?_eq_some_iff.1 hq).1;simp at this;omega
  subst hj;rw [h1] at hq;simp at hq;subst hq;exact hr
structure Nd where
 p:Nat
 q:Nat
 id:Int
 nt:Nat
 t:Nat
 a1:Option Addr
 a2:Option Addr
 a3:Option Addr
 c1:Nat
 c2:Nat
 c3:Nat
 rs:List Rd
 tb:Nat
 vt:Nat
 vg:Nat
 gd:Nat
 bk:Lg
 mt:Nat
 mg:Nat
 pt:Nat
 bg:Nat
 fl:Int
 sh:Int
abbrev Nd.cs (x:Nd):List Value:=ndCs x.fl x.sh x.id x.nt x.t (.slice x.a1 2 x.c1) (ptrV x.tb) (ptrV x.vt) (ptrV x.gd) (ptrV x.bk.p) (ptrV x.mt) (.slice (some ⟨x.pt,0,none⟩) 4 4) (.slice (some ⟨x.bg,0,none⟩) 2 2) (.slice x.a2 2 x.c2) (.slice x.a3 2 x.c3)
section
variable {B:Nat} {w0 w W W':World} {ss:List Res}
theorem zvt (r1 r2 r3:Res) (hd rows ss:List Res):(r1::r2::r3::(hd++(rows++ss))).Perm (hd++((rows++[r3,r2,r1])++ss)):=by
 have h1:(r1::r2::r3::(hd++(rows++ss))).Perm (r3::r2::r1::(hd++(rows++ss))):=(List.Perm.swap _ _ _).trans (((List.Perm.swap _ _ _).cons _).trans (List.Perm.swap _ _ _));refine h1.trans ?_;have h2:=List.perm_append_comm_assoc [r3,r2,r1] (hd++rows) ss;simp only [List.append_assoc,List.cons_append,List.nil_append] at h2⊢;exact h2
theorem Tryz.infoPi:(Tryz.prog.info? 142).map (fun i=>(i.zero,i.size,i.bytes))=some (some (.pointer none),1,8):=by kernel_rfl
theorem Tryz.infoSi:(Tryz.prog.info? 69).map (fun i=>(i.zero,i.size,i.bytes))=some (some (.slice none 0 0),1,24):=by kernel_rfl
theorem zdz {rs:List Res} (h:Own B w0 W rs) (k:Nat) {b:Nat} {T:TypeId} {vals:List Value} (e:rs[k]?=some (segR b T vals)) (i:Nat) {v:Value} (hv:vals[i]?=some v):W.cell? ⟨b,i,none⟩=some v∧W.frozen? ⟨b,i,none⟩=false:=by
 obtain ⟨-,q2,q3⟩:=zez (h.get k e);exact ⟨(q2 i (List.getElem?_eq_some_iff.1 hv).1).trans hv,q3 i⟩
theorem blk_at' {rs:List Res} (h:Own B w0 W rs) (k:Nat) {b:Nat} {T:TypeId} {cs:Array Value} (e:rs[k]?=some (blk b (.cells cs T (0,0)))) (i:Nat) {v:Value} (hv:cs[i]?=some v):W.cell? ⟨b,i,none⟩=some v∧W.frozen? ⟨b,i,none⟩=false:=by
 have hb:=h.blkAt k e;exact ⟨(zac hb i).trans hv,zab hb i⟩
theorem one_one {v:Value} (h:v.oneCell'=true): ∀u∈[v],u.oneCell'=true:=by intro u hu;simp at hu;subst hu;exact h
theorem zwa {k:Nat} (h:k≤1000):k+1≤maxLen:=by unfold maxLen;omega
theorem small_24 {k:Nat} (h:k≤1000):(k+1)*24≤140737488355328:=by omega
theorem size2 {w:World} {o o':Obj}:((w.alloc o).alloc o').drew.heap.size=w.heap.size+2:=by simp
theorem news2 {w:World} {o:Obj} {v:Value} {T:TypeId}: ∀j u,[v][j]?=some u→((w.alloc o).alloc (.cells #[v] T (0,0))).drew.cell? ((⟨w.heap.size+1,0,none⟩:Addr).add j)=some u:=
 news_at (w:=((w.alloc o).alloc (.cells #[v] T (0,0))).drew) (cs:=#[v]) (T:=T) (zq7 (w:=w.alloc o) (by simp))
end
structure Peer where
 party:Int
 bad:Int
 till:Int
def zck (p:Peer):List Value:=[.int .i64 p.party,.int .i64 p.bad,.int .i64 p.till]
def wthn (c:Int):Int:=max 0 (min c 1048576)
def atB:List Peer→Int→Int→Int
 | [],_,_=> -1
 | p::ps,k,x=>if p.party=x then k else atB ps (k+1) x
def shutP:List Peer→Int→Int→Bool
 | [],_,_=>false
 | p::ps,x,c=>if p.party=x then decide (wthn c<p.till) else shutP ps x c
def bumpP (m t c x:Int):List Peer→List Peer
 | []=>[⟨x,1,0⟩]
 | p::ps=>if p.party=x then (if p.bad+1≤m then ⟨p.party,p.bad+1,p.till⟩ else ⟨p.party,0,wthn c+t⟩)::ps else p::bumpP m t c x ps
abbrev grO (m t:Int) (v:Value):Obj:= .cells #[.int .i64 m,.int .i64 t,v] 250 (0,0)
abbrev plR (v:Value) (ps:List Peer):Res:=ownR 272 3 v ps.length (ps.flatMap zck)
theorem zlo {m t c x:Int}: ∀(ps:List Peer) (k:Int),0≤k→atB ps k x= -1→shutP ps x c=false∧bumpP m t c x ps=ps++[⟨x,1,0⟩]
 | [],k,_,_=>⟨rfl,rfl⟩
 | p::ps,k,hk,h=>by
  unfold atB at h;by_cases hp:p.party=x
  ·rw [if_pos hp] at h;omega
  ·rw [if_neg hp] at h
   obtain ⟨h1,h2⟩:=zlo ps (k+1) (by omega) h;exact ⟨by unfold shutP;rw [if_neg hp];exact h1,by unfold bumpP;rw [if_neg hp,h2];rfl⟩
theorem zlp {m t c x:Int}: ∀(ps:List Peer) (k:Int),0≤k→atB ps k x≠ -1→ ∃(i:Nat) (h:i<ps.length),atB ps k x=k+i∧shutP ps x c=decide (wthn c<ps[i].till)∧
  bumpP m t c x ps=ps.set i (if ps[i].bad+1≤m then ⟨ps[i].party,ps[i].bad+1,ps[i].till⟩ else ⟨ps[i].party,0,wthn c+t⟩)
 | [],k,_,h=>absurd rfl h
 | p::ps,k,hk,h=>by
  unfold atB at h⊢;by_cases hp:p.party=x
  ·refine ⟨0,by simp,by rw [if_pos hp];simp,by unfold shutP;rw [if_pos hp];rfl,by unfold bumpP;rw [if_pos hp];rfl⟩
  ·rw [if_neg hp] at h
   obtain ⟨i,hi,h1,h2,h3⟩:=zlp (m:=m) (t:=t) (c:=c) ps (k+1) (by omega) h;refine ⟨i+1,by simp;omega,by rw [if_neg hp,h1];push_cast;omega,by unfold shutP;rw [if_neg hp,h2];rfl,by unfold bumpP;rw [if_neg hp,h3];rfl⟩
section
variable {B:Nat} {w0 w W:World} {ss:List Res} {g:Nat} {m t:Int} {v:Value} {ps:List Peer}
theorem pl_at {A:List Nat} (h:(plR v ps).At w A): ∃ao cap,v= .slice ao ps.length cap∧ps.length≤cap∧ ∀k (hk:k<ps.length),∃b,ao=some ⟨b,0,none⟩∧b<w.heap.size∧
  w.cell? ⟨b,k*3,none⟩=some (.int .i64 ps[k].party)∧w.cell? ⟨b,k*3+1,none⟩=some (.int .i64 ps[k].bad)∧w.cell? ⟨b,k*3+2,none⟩=some (.int .i64 ps[k].till)∧ ∀o,w.frozen? ⟨b,o,none⟩=false:=by
 rcases (zam h).2 with ⟨hv,hx⟩ | ⟨b,cap,cur,hv,-,hg,hnc,-⟩
 ·obtain ⟨ao,cap,e,hc,-⟩:=owns_reads (zam h)
  refine ⟨ao,cap,e,hc,fun k hk=> ?_⟩;exfalso;rw [hv] at e;simp only [Value.slice.injEq] at e;omega
 ·refine ⟨_,cap,hv,hnc,fun k hk=>⟨b,rfl,block_lt hg,?_⟩⟩
  subst hv;obtain ⟨-,q2,q3⟩:=zez (zmg h);have hl:(ps.flatMap zck).length=ps.length*3:=zc9 (cells:=zck) (sz:=3) (fun _=>rfl) ps;have hj: ∀j,j<3→w.cell? ⟨b,k*3+j,none⟩=(zck ps[k])[j]?:=fun j hj=>by
   rw [q2 _ (by rw [hl];omega),zd4 zck 3 (fun _=>rfl) ps k j hk hj]
  exact ⟨hj 0 (by omega),hj 1 (by omega),hj 2 (by omega),q3⟩
theorem zia (c:Int) (w:World):Calls Tryz.prog 175 #[.int .i64 c] w fun e w'=>e= .returned (.int .i64 (wthn c))∧w=w':=by
 go_enter Tryz.func175,Tryz.ntmps175
 go_wp2
 all_goals
  go_ret
  exact ⟨zgb (by simp [wthn];omega),rfl⟩
theorem zq1 (x:Int) (hn:ps.length≤100000) (h:Own B w0 W (blk g (grO m t v)::plR v ps::ss)):
  Calls Tryz.prog 174 #[.pointer (some ⟨g,0,none⟩),.int .i64 x] W fun e w'=>e= .returned (.int .i64 (atB ps 0 x))∧Upd [] W w':=by
 have hg:=h.blkAt 0 rfl;obtain ⟨ao,cap,rfl,hc,hat⟩:=pl_at (h.get 1 rfl);have HC:=zq hat;have h2:=zaa hg 2 rfl;clear hat h;go_enter Tryz.func174,Tryz.ntmps174
 go_wp2_with fail
 go_loopw [12] (fun i wr=> ∃k:Nat,k≤ps.length∧i= .int .i64 k∧Hid (atB ps 0 x=atB (ps.drop k) k x)∧Hid (Below W.heap.size W wr)) (fun i _=>ps.length-(intOf i).toNat)
 case atStart=>exact ⟨0,by omega,rfl,zq (by simp),zq (Below.refl _ _)⟩
 case round=>
  obtain ⟨k,hk,rfl,HE,HB⟩:=hrel;by_cases hlt:k<ps.length
  ·obtain ⟨b,rfl,hbs,d0,d1,d2,-⟩:=HC.out k hlt
   have q0:=(HB.out.cell (p:=⟨b,k*3,none⟩) hbs).trans d0;have q1:=(HB.out.cell (p:=⟨b,k*3+1,none⟩) hbs).trans d1;have q2:=(HB.out.cell (p:=⟨b,k*3+2,none⟩) hbs).trans d2;clear d0 d1 d2;have hkI:(k:Int)<(ps.length:Int):=by omega
   by_cases hx:ps[k].party=x
   ·have HX:=zq hx
    have hx':(ps[k].party==x)=true:=by simp [hx]
    clear hx
    go_wp2_with fail
    go_ret
    refine ⟨zgb ?_,Upd.of_below (HB.out.alloc HB.out.size _)⟩;rw [HE.out,List.drop_eq_getElem_cons hlt,atB,if_pos HX.out]
   ·have HX:=zq hx
    have hx':(ps[k].party==x)=false:=by simp [hx]
    clear hx
    go_wp2_with fail
    go_roundw
    case rel=>exact ⟨k+1,by omega,by go_num,zq (by rw [HE.out,List.drop_eq_getElem_cons hlt,atB,if_neg HX.out];rfl),zq (HB.out.alloc HB.out.size _)⟩
    case measure=>simp [intOf];omega
  ·have hkI:decide ((k:Int)<(ps.length:Int))=false:=by simp;omega
   go_wp2_with fail
   go_ret
   refine ⟨zgb ?_,Upd.of_below HB.out⟩;rw [HE.out,List.drop_of_length_le (by omega)];rfl
theorem shut_any (x c:Int) (hn:ps.length≤100000) (h:Own B w0 W (blk g (grO m t v)::plR v ps::ss)):
  Calls Tryz.prog 97 #[.pointer (some ⟨g,0,none⟩),.int .i64 x,.int .i64 c] W fun e w'=>e= .returned (.bool (shutP ps x c))∧Upd [] W w':=by
 have HA:=zq (zq1 x hn h);have HH:=zq h;by_cases hx:atB ps 0 x= -1
 ·rw [(zlo (m:=m) (t:=t) ps 0 (by omega) hx).1]
  rw [hx] at HA;clear h hx;go_enter Tryz.func97,Tryz.ntmps97
  go_wp2_with fail
  refine HA.out.mono ?_;rintro e w1 ⟨rfl,hu⟩
  go_wp2_with fail
  go_quiet (fail)
  go_wp2_with fail
  go_ret
  exact ⟨rfl,hu.drewN _⟩
 ·obtain ⟨i,hi,h1,h2,-⟩:=zlp (m:=m) (t:=t) (c:=c) ps 0 (by omega) hx
  rw [h2];have h3:atB ps 0 x=(i:Int):=by omega
  rw [h3] at HA;clear h hx h2 h1 h3;have hiI:(i:Int)<(ps.length:Int):=by omega
  have hi0:decide ((0:Int)≤(i:Int))=true:=by simp
  go_enter Tryz.func97,Tryz.ntmps97
  go_wp2_with fail
  refine HA.out.mono ?_;rintro e w1 ⟨rfl,hu⟩;have H1:=HH.out.upd0 hu;have hg:=H1.blkAt 0 rfl;obtain ⟨ao,cap,rfl,hc,hat⟩:=pl_at (H1.get 1 rfl);obtain ⟨b,rfl,hbs,d0,d1,d2,-⟩:=hat i hi;have c2:=zaa hg 2 rfl;clear hat HA hg H1;have HF:=zq (fun w=>zia c w)
  go_wp2_with fail
  go_quiet ((go_at_call 175;exact zb7 (HF.out _)))
  go_wp2_with fail
  go_ret
  exact ⟨rfl,hu.drewN _⟩
end
theorem Tryz.infoPeer:(Tryz.prog.info? 272).map (fun i=>(i.zero,i.size,i.bytes))=some (some (.agg #[.int .i64 0,.int .i64 0,.int .i64 0]),3,24):=by kernel_rfl
theorem zz8: ∀(qs:List Peer) (k:Nat) (hk:k<qs.length) (u:Int),(qs.flatMap zck).set (k*3+1) (.int .i64 u)=(qs.set k ⟨qs[k].party,u,qs[k].till⟩).flatMap zck∧(qs.flatMap zck).set (k*3+2) (.int .i64 u)=(qs.set k ⟨qs[k].party,qs[k].bad,u⟩).flatMap zck
 | [],k,hk,_=>by simp at hk
 | q::qs,0,_,u=>by constructor<;>rfl
 | q::qs,k+1,hk,u=>by
  obtain ⟨h1,h2⟩:=zz8 qs k (by simpa using hk) u;have e1:(k+1)*3+1=(k*3+1)+1+1+1:=by omega
  have e2:(k+1)*3+2=(k*3+2)+1+1+1:=by omega
  constructor
  ·rw [e1]
   simp only [List.flatMap_cons,zck,List.cons_append,List.nil_append,List.set_cons_succ,List.getElem_cons_succ];exact congrArg _ (congrArg _ (congrArg _ h1))
  ·rw [e2]
   simp only [List.flatMap_cons,zck,List.cons_append,List.nil_append,List.set_cons_succ,List.getElem_cons_succ];exact congrArg _ (congrArg _ (congrArg _ h2))
section
variable {B:Nat} {w0 w W:World} {ss rs:List Res} {g:Nat} {m t:Int} {v:Value} {ps qs:List Peer}
theorem zvm {b cap k:Nat} (h:Own B w0 W (plR (.slice (some ⟨b,0,none⟩) qs.length cap) qs::rs)) (hk:k<qs.length) (u:Int):
  Own B w0 (W.setCell ⟨b,k*3+1,none⟩ (.int .i64 u)) (plR (.slice (some ⟨b,0,none⟩) qs.length cap) (qs.set k ⟨qs[k].party,u,qs[k].till⟩)::rs):=by
 have hs:=(zam h.head).stored (k*3+1) (.int .i64 u);rw [(zz8 qs k hk u).1] at hs;have:=h.grow hs.2 (.inl rfl) hs.1;unfold plR;rw [List.length_set];exact this
theorem zsa {b cap k:Nat} (h:Own B w0 W (plR (.slice (some ⟨b,0,none⟩) qs.length cap) qs::rs)) (hk:k<qs.length) (u:Int):
  Own B w0 (W.setCell ⟨b,k*3+2,none⟩ (.int .i64 u)) (plR (.slice (some ⟨b,0,none⟩) qs.length cap) (qs.set k ⟨qs[k].party,qs[k].bad,u⟩)::rs):=by
 have hs:=(zam h.head).stored (k*3+2) (.int .i64 u);rw [(zz8 qs k hk u).2] at hs;have:=h.grow hs.2 (.inl rfl) hs.1;unfold plR;rw [List.length_set];exact this
theorem own_plbad' {b cap k n:Nat} (hn:qs.length=n) (h:Own B w0 W (plR (.slice (some ⟨b,0,none⟩) n cap) qs::rs)) (hk:k<qs.length) (u:Int):
  Own B w0 (W.setCell ⟨b,k*3+1,none⟩ (.int .i64 u)) (plR (.slice (some ⟨b,0,none⟩) n cap) (qs.set k ⟨qs[k].party,u,qs[k].till⟩)::rs):=by subst hn;exact zvm h hk u
theorem own_pltill' {b cap k n:Nat} (hn:qs.length=n) (h:Own B w0 W (plR (.slice (some ⟨b,0,none⟩) n cap) qs::rs)) (hk:k<qs.length) (u:Int):
  Own B w0 (W.setCell ⟨b,k*3+2,none⟩ (.int .i64 u)) (plR (.slice (some ⟨b,0,none⟩) n cap) (qs.set k ⟨qs[k].party,qs[k].bad,u⟩)::rs):=by subst hn;exact zsa h hk u
theorem zjk {A:List Nat} {b n cap:Nat} (h:(plR (.slice (some ⟨b,0,none⟩) n cap) qs).At w A) (k:Nat) (hk:k<qs.length):b<w.heap.size∧w.cell? ⟨b,k*3,none⟩=some (.int .i64 qs[k].party)∧w.cell? ⟨b,k*3+1,none⟩=some (.int .i64 qs[k].bad)∧
  w.cell? ⟨b,k*3+2,none⟩=some (.int .i64 qs[k].till)∧ ∀o,w.frozen? ⟨b,o,none⟩=false:=by
 obtain ⟨ao,cap',e,-,hc⟩:=pl_at h;obtain ⟨b',hb,r⟩:=hc k hk;subst hb;simp only [Value.slice.injEq,Option.some.injEq,Addr.mk.injEq,and_true] at e;obtain ⟨rfl,-⟩:=e;exact r
theorem zsg {b n cap:Nat} {o:Obj} (h:Own B w0 W (blk g o::plR (.slice (some ⟨b,0,none⟩) n cap) qs::rs)):g≠b:=by
 have:=(List.pairwise_cons.1 h.apart).1 (plR (.slice (some ⟨b,0,none⟩) n cap) qs) (by simp) g (by simp [blk])
 simpa [plR,ownR,blkOf] using this
def BadP (B:Nat) (w0:World) (g:Nat) (m t:Int) (qs:List Peer) (ss:List Res) (e:Ending) (w':World):Prop:=
 ∃v' r,e= .returned (.bool r)∧Own B w0 w' (blk g (grO m t v')::plR v' qs::ss)
theorem zy1 (x c:Int) (hm:1≤m) (hn:ps.length≤1000) (hx:atB ps 0 x= -1) (h:Own B w0 W (blk g (grO m t v)::plR v ps::ss)):
  Calls Tryz.prog 99 #[.pointer (some ⟨g,0,none⟩),.int .i64 x,.int .i64 c] W (BadP B w0 g m t (ps++[⟨x,1,0⟩]) ss):=by
 obtain ⟨i0,hi,hz0,hz1,hz2⟩:=info_parts Tryz.infoPeer;have HA:=zq (zq1 x (by omega) h);have HH:=zq h;rw [hx] at HA;clear h hx;go_enter Tryz.func99,Tryz.ntmps99
 go_wp2_with fail
 refine HA.out.mono ?_;rintro e w1 ⟨rfl,hu⟩;have H1:=zq (HH.out.upd0 hu);obtain ⟨ao,cap,rfl,hc,-⟩:=pl_at (H1.out.get 1 rfl);have c2:=zaa (H1.out.blkAt 0 rfl) 2 rfl;have f2:=zab (H1.out.blkAt 0 rfl) 2;have hd:=H1.out.alloc (.cells #[.int .i64 x,.int .i64 0,.int .i64 0] 272 (0,0));have HD:=zq hd;have HW:=zq (zam (hd.get 1 rfl));have HNW:Hid (∀j u,(zck ⟨x,0,0⟩)[j]?=some u→(w1.alloc (.cells #[.int .i64 x,.int .i64 0,.int .i64 0] 272 (0,0))).cell? ((⟨w1.heap.size,0,none⟩:Addr).add j)=some u):=zq (World.news_of_block (heap_alloc_new w1 (.cells #[.int .i64 x,.int .i64 0,.int .i64 0] 272 (0,0))));have HON:Hid (∀u∈zck ⟨x,0,0⟩,u.oneCell'=true):=zq (by intro u hu;simp [zck] at hu;rcases hu with rfl | rfl<;>rfl)
 have HMX:Hid (ps.length+1≤maxLen):=zq (by unfold maxLen;omega);have HM4:Hid ((ps.length+1)*24≤140737488355328):=zq (by omega);clear hd hu HA HH
 go_wp2_with (at_builtin;refine wpList_append_lies _ rfl (.tmp 23) (.tmp 26) 248 rfl 0 272 i0 (.agg #[.int .i64 0,.int .i64 0,.int .i64 0]) 3 24 Tryz.underlying248 hi hz0 hz1 hz2 rfl (by decide) _ ps.length _ rfl HW.out ⟨w1.heap.size,0,none⟩ 1 1 (zck ⟨x,0,0⟩) rfl rfl HNW.out HON.out (by decide) HMX.out HM4.out (Nat.zero_le _) _ rfl ?_)
 intro g9 cap9 w9 hown hgrow hat9 hlt9;have h6:=HD.out.growAt 1 rfl hgrow (by simpa using hat9) hown;have hql:(ps++[(⟨x,0,0⟩:Peer)]).length=ps.length+1:=by simp
 have hqk: ∀h,(ps++[(⟨x,0,0⟩:Peer)])[ps.length]'h=⟨x,0,0⟩:=by intro h;simp
 have hqs:(ps++[(⟨x,0,0⟩:Peer)]).set ps.length ⟨x,1,0⟩=ps++[⟨x,1,0⟩]:=by simp
 have h7:Own B w0 w9 (blk g (grO m t (.slice ao ps.length cap))::plR (.slice (some ⟨g9,0,none⟩) (ps.length+1) cap9) (ps++[(⟨x,0,0⟩:Peer)])::ss):=by
  have e1:(ps++[(⟨x,0,0⟩:Peer)]).flatMap zck=ps.flatMap zck++zck ⟨x,0,0⟩:=by rw [List.flatMap_append];simp
  unfold plR;rw [e1,hql];exact h6
 generalize ps++[(⟨x,0,0⟩:Peer)]=qs at*;have c2:=zaa (h7.blkAt 0 rfl) 2 rfl;have f2:=zab (h7.blkAt 0 rfl) 2;have H8:=zq (Own.storeTo h7 2 (.slice (some ⟨g9,0,none⟩) (ps.length+1) cap9) (o':=grO m t (.slice (some ⟨g9,0,none⟩) (ps.length+1) cap9)) rfl);clear hown hgrow hat9 hlt9 h6 HD HW HNW HON HM4 HMX h7 H1
 go_upto_region 5 with fail
 generalize World.setCell _ _ _=y1 at*;clear c2 f2;have c0:=zaa (H8.out.blkAt 0 rfl) 0 rfl;have c2:=zaa (H8.out.blkAt 0 rfl) 2 rfl;have hgb:=zsg H8.out;obtain ⟨hlt,d0,d1,d2,ff⟩:=zjk (H8.out.get 1 rfl) ps.length (by omega);have f1:=ff (ps.length*3+1);rw [hqk] at d1;clear ff;have H9:=zq (own_plbad' hql H8.out.swap (k:=ps.length) (by omega) 1);have hle:decide ((1:Int)≤m)=true:=by simpa using hm
 go_upto_region 7 with fail
 have hs:Hid (qs.set ps.length ⟨(qs[ps.length]'(by omega)).party,1,(qs[ps.length]'(by omega)).till⟩=ps++[⟨x,1,0⟩]):=zq (by rw [hqk];exact hqs);rw [hs.out] at H9;clear H8 d0 d1 d2 f1 hqs hqk hs c0 c2;generalize World.setCell _ _ _=y2 at*;have c0:=zaa (H9.out.blkAt 1 rfl) 0 rfl;obtain ⟨-,-,d1,-,-⟩:=zjk (H9.out.get 0 rfl) ps.length (by simp);simp only [List.getElem_append_right,Nat.le_refl,Nat.sub_self,List.getElem_cons_zero] at d1
 go_quiet (fail)
 go_wp2_with fail
 go_ret
 exact ⟨_,_,rfl,H9.out.swap.upd0 ((Upd.refl _ _).drewN _)⟩
theorem zy2 (x c:Int) (hm:1≤m) (hm2:m≤64) (ht:1≤t) (ht2:t≤64) (hn:ps.length≤1000) (i:Nat) (hi:i<ps.length) (hx:atB ps 0 x=i) (hb0:0≤ps[i].bad) (hb1:ps[i].bad≤m) (h:Own B w0 W (blk g (grO m t v)::plR v ps::ss)):
  Calls Tryz.prog 99 #[.pointer (some ⟨g,0,none⟩),.int .i64 x,.int .i64 c] W (BadP B w0 g m t (ps.set i (if ps[i].bad+1≤m then ⟨ps[i].party,ps[i].bad+1,ps[i].till⟩ else ⟨ps[i].party,0,wthn c+t⟩)) ss):=by
 have HA:=zq (zq1 x (by omega) h);have HH:=zq h;rw [hx] at HA;clear h hx;have hiI:(i:Int)<(ps.length:Int):=by omega
 have h00:decide ((i:Int)<0)=false:=by simp
 have hw1:0≤wthn c:=by unfold wthn;omega
 have hw2:wthn c≤1048576:=by unfold wthn;omega
 have HF:=zq (fun w=>zia c w);generalize wthn c=wc at*;have HQ1:Hid (ps[i].bad+1≤m→ps.set i (if ps[i].bad+1≤m then ⟨ps[i].party,ps[i].bad+1,ps[i].till⟩ else ⟨ps[i].party,0,wc+t⟩)=ps.set i ⟨ps[i].party,ps[i].bad+1,ps[i].till⟩):=zq (fun h=>by rw [if_pos h]);have HQ2:Hid (¬ps[i].bad+1≤m→ps.set i (if ps[i].bad+1≤m then ⟨ps[i].party,ps[i].bad+1,ps[i].till⟩ else ⟨ps[i].party,0,wc+t⟩)=ps.set i ⟨ps[i].party,0,wc+t⟩):=zq (fun h=>by rw [if_neg h]);generalize ps.set i (if ps[i].bad+1≤m then ⟨ps[i].party,ps[i].bad+1,ps[i].till⟩ else ⟨ps[i].party,0,wc+t⟩)=qz at*;go_enter Tryz.func99,Tryz.ntmps99
 go_wp2_with fail
 refine HA.out.mono ?_;rintro e w1 ⟨rfl,hu⟩;have H1:=zq (HH.out.upd0 hu);obtain ⟨ao,cap,rfl,hc,hcc⟩:=pl_at (H1.out.get 1 rfl);obtain ⟨b,rfl,-⟩:=hcc i hi;obtain ⟨hlt,d0,d1,d2,ff⟩:=zjk (H1.out.get 1 rfl) i hi;have c2:=zaa (H1.out.blkAt 0 rfl) 2 rfl;have hgb:=zsg H1.out;have f1:=ff (i*3+1);have H2:=zq (own_plbad' rfl H1.out.swap hi (ps[i].bad+1));clear HA HH hu hcc ff hc
 go_upto_region 7 with fail
 clear c2 d0 d1 d2 f1 H1;generalize World.setCell _ _ _=y1 at*;have c0:=zaa (H2.out.blkAt 1 rfl) 0 rfl;have c1:=zaa (H2.out.blkAt 1 rfl) 1 rfl;obtain ⟨-,-,d1,d2,ff⟩:=zjk (H2.out.get 0 rfl) i (by simpa using hi);simp only [List.getElem_set_self] at d1 d2;have f1:=ff (i*3+1);have f2:=ff (i*3+2);clear ff;by_cases hle:ps[i].bad+1≤m
 ·have hle':decide (ps[i].bad+1≤m)=true:=by simpa using hle
  go_quiet (fail)
  go_wp2_with fail
  go_ret
  rw [HQ1.out hle];exact ⟨_,_,rfl,H2.out.swap.upd0 ((Upd.refl _ _).drewN _)⟩
 ·have hle':decide (ps[i].bad+1≤m)=false:=by simpa using hle
  have HS:Hid (∀k,Own B w0 (((y1.drewN k).setCell ⟨b,i*3+1,none⟩ (.int .i64 0)).setCell ⟨b,i*3+2,none⟩ (.int .i64 (wc+t))) (plR (.slice (some ⟨b,0,none⟩) ps.length cap) (ps.set i ⟨ps[i].party,0,wc+t⟩)::blk g (grO m t (.slice (some ⟨b,0,none⟩) ps.length cap))::ss)):=zq (fun k=>by
   have q1:=own_plbad' (k:=i) (by simp) (H2.out.upd0 ((Upd.refl _ _).drewN k)) (by simpa using hi) 0;have q2:=own_pltill' (k:=i) (by simp) q1 (by simpa using hi) (wc+t)
   simpa using q2)
  have HS2:Hid (∀k,Own B w0 (((y1.drewN k).setCell ⟨b,i*3+2,none⟩ (.int .i64 (wc+t))).setCell ⟨b,i*3+1,none⟩ (.int .i64 0)) (plR (.slice (some ⟨b,0,none⟩) ps.length cap) (ps.set i ⟨ps[i].party,0,wc+t⟩)::blk g (grO m t (.slice (some ⟨b,0,none⟩) ps.length cap))::ss)):=zq (fun k=>by
   have q1:=own_pltill' (k:=i) (by simp) (H2.out.upd0 ((Upd.refl _ _).drewN k)) (by simpa using hi) (wc+t);have q2:=own_plbad' (k:=i) (by simp) q1 (by simpa using hi) 0
   simpa using q2)
  clear H2
  go_quiet (fail)
  go_wp2_with fail
  have hwr:IntKind.i64.wrap (wc+t)=wc+t:=IntWalk.i64_in _ (by omega)
  go_region_with (go_at_call 175;refine (HF.out _).mono ?_;rintro e w' ⟨rfl,rfl⟩)
  all_goals
   go_wp2_with fail
   go_ret
   rw [HQ2.out hle];first
    | exact ⟨_,_,rfl,(HS.out _).swap.upd0 ((Upd.refl _ _).drewN _)⟩
    | exact ⟨_,_,rfl,(HS2.out _).swap.upd0 ((Upd.refl _ _).drewN _)⟩
    | exact ⟨_,_,rfl,(HS.out _).swap⟩
    | exact ⟨_,_,rfl,(HS2.out _).swap⟩
theorem zy0 (x c:Int) (hm:1≤m) (hm2:m≤64) (ht:1≤t) (ht2:t≤64) (hn:ps.length≤1000) (hb: ∀p∈ps,0≤p.bad∧p.bad≤m) (h:Own B w0 W (blk g (grO m t v)::plR v ps::ss)):
  Calls Tryz.prog 99 #[.pointer (some ⟨g,0,none⟩),.int .i64 x,.int .i64 c] W (BadP B w0 g m t (bumpP m t c x ps) ss):=by
 by_cases hx:atB ps 0 x= -1
 ·rw [(zlo (m:=m) (t:=t) (c:=c) ps 0 (by omega) hx).2]
  exact zy1 x c hm hn hx h
 ·obtain ⟨i,hi,h1,-,h3⟩:=zlp (m:=m) (t:=t) (c:=c) ps 0 (by omega) hx
  rw [h3];obtain ⟨b0,b1⟩:=hb _ (List.getElem_mem hi);exact zy2 x c hm hm2 ht ht2 hn i hi (by omega) b0 b1 h
end
abbrev ndT (fl sh id:Int) (nt t:Nat) (v1 tb vt:Value) (gd:Nat) (bk mt pt bg v2 v3:Value) (st u bd sl sht fu:Int):List Value:=[.int .i64 1,.int .i64 2,.int .i64 2,.int .i64 4,.int .i64 64,.int .i64 fl,.int .i64 sh,.int .i64 8,.int .i64 1,.int .i64 2,.int .i64 12,.int .i64 8,.int .i64 6,.int .i64 2,.int .i64 6,
 .int .i64 id,.pointer (some ⟨nt,0,none⟩),.pointer (some ⟨t,0,none⟩),v1,tb,vt,.pointer (some ⟨gd,0,none⟩),bk,mt,pt,bg,v2,v3,.int .i64 0,.int .i64 0,.int .i64 (-1),.int .i64 0,.int .i64 st,.bool false,.slice none 0 0,.int .i64 u,.int .i64 bd,.int .i64 sl,.int .i64 sht,.int .i64 fu]
abbrev clkO (n:Int) (v:Value):Obj:= .cells #[.int .i64 n,v] 236 (0,0)
section
variable {B:Nat} {w0 w W:World} {ss:List Res} {p gd t nt nm:Nat} {fl sh id now st u bd sl sht fu:Int} {v1 tb vt bk mt pt bg v2 v3 cv gv:Value} {ps:List Peer}
theorem now_any (hb:W.heap[t]?=some (clkO now cv)):Calls Tryz.prog 90 #[.pointer (some ⟨t,0,none⟩)] W fun e w'=>e= .returned (.int .i64 now)∧W=w':=by
 have c0:=zaa hb 0 rfl;clear hb;go_enter Tryz.func90,Tryz.ntmps90
 go_wp2_with fail
 go_ret
 exact ⟨rfl,rfl⟩
end
theorem zsl (f:Nat) (view inst:Int) (w:World) (g1:1≤f) (g2:f≤4):Calls Tryz.prog 142 #[.int .i64 f,.int .i64 view,.int .i64 inst] w fun e w'=>e= .returned (.int .i64 (zan f view inst))∧w=w':=by
 have hM:=zq (fun w=>zkj (f:Int) w (by omega) (by omega));have hN:=zq (fun w=>za0 (f:Int) w (by omega) (by omega));cases h1:decide (view<0) with
 | true=>
  have hv:zan f view inst= -1:=by
   unfold zan;simp only [decide_eq_false_iff_not,decide_eq_true_eq] at h1;rw [if_neg (by omega)]
  rw [hv];clear hv;go_enter Tryz.func142,Tryz.ntmps142
  go_wp2_with fail
  refine (hM.out _).mono ?_;rintro e w' ⟨rfl,rfl⟩
  go_wp2_with fail
  go_ret
  exact ⟨rfl,rfl⟩
 | false=>
  cases h2:decide ((12:Int)<view) with
  | true=>
   have hv:zan f view inst= -1:=by
    unfold zan;simp only [decide_eq_false_iff_not,decide_eq_true_eq] at h1 h2;rw [if_neg (by omega)]
   rw [hv];clear hv;go_enter Tryz.func142,Tryz.ntmps142
   go_wp2_with fail
   refine (hM.out _).mono ?_;rintro e w' ⟨rfl,rfl⟩
   go_wp2_with fail
   go_ret
   exact ⟨rfl,rfl⟩
  | false=>
   cases h3:decide (inst<0) with
   | true=>
    have hv:zan f view inst= -1:=by
     unfold zan;simp only [decide_eq_false_iff_not,decide_eq_true_eq] at h1 h2 h3;rw [if_neg (by omega)]
    rw [hv];clear hv;go_enter Tryz.func142,Tryz.ntmps142
    go_wp2_with fail
    refine (hM.out _).mono ?_;rintro e w' ⟨rfl,rfl⟩
    go_wp2_with fail
    go_ret
    exact ⟨rfl,rfl⟩
   | false=>
    cases h4:decide ((f:Int)<inst) with
    | true=>
     have hv:zan f view inst= -1:=by
      unfold zan;simp only [decide_eq_false_iff_not,decide_eq_true_eq] at h1 h2 h3 h4;rw [if_neg (by omega)]
     rw [hv];clear hv;go_enter Tryz.func142,Tryz.ntmps142
     go_wp2_with fail
     refine (hM.out _).mono ?_;rintro e w' ⟨rfl,rfl⟩
     go_wp2_with fail
     go_ret
     exact ⟨rfl,rfl⟩
    | false=>
     have hv:zan f view inst=(view+inst).tmod (3*(f:Int)+1):=by
      unfold zan;simp only [decide_eq_false_iff_not] at h1 h2 h3 h4;rw [if_pos ⟨by omega,by omega,by omega,by omega⟩,Int.tmod_eq_emod_of_nonneg (by omega)]
     have hz:(3*(f:Int)+1==0)=false:=by simp;omega
     have hz':decide (3*(f:Int)+1=0)=false:=by simp;omega
     have hlo: -9223372036854775808≤view+inst∧view+inst≤9223372036854775807:=by simp only [decide_eq_false_iff_not] at h1 h2 h3 h4;omega
     rw [hv];clear hv;go_enter Tryz.func142,Tryz.ntmps142
     go_wp2_with fail
     refine (hM.out _).mono ?_;rintro e w' ⟨rfl,rfl⟩
     go_wp2_with fail
     refine (hN.out _).mono ?_;rintro e w' ⟨rfl,rfl⟩
     go_wp2_with fail
     go_ret
     exact ⟨rfl,rfl⟩
section
variable {B:Nat} {w0 w W:World} {ss:List Res} {p gd t nt tbb:Nat} {fl sh id now st u bd sl sht fu:Int} {v1 tb vt bk mt pt bg v2 v3 cv:Value}
end
section
variable {B:Nat} {w0 w W:World} {ss:List Res} {p gd t nt ia ic i:Nat} {fl sh id now st u bd sl sht fu num:Int} {tb vt bk mt pt bg v2 v3 q0 q1:Value}
abbrev inR (ia ic:Nat) (q0 q1:Value):Res:=ownR 142 1 (.slice (some ⟨ia,0,none⟩) 2 ic) 2 [q0,q1]
abbrev nqL (p gd nt t ia ic:Nat) (fl sh id:Int) (tb vt bk mt pt bg v2 v3:Value) (st u bd sl sht fu:Int) (q0 q1:Value) (ss:List Res):List Res:=
 segR p 141 (ndT fl sh id nt t (.slice (some ⟨ia,0,none⟩) 2 ic) tb vt gd bk mt pt bg v2 v3 st u bd sl sht fu)::inR ia ic q0 q1::ss
end
theorem zkw {P:Program} {f:FuncId} {args:Array Value} {w:World} {n:Nat} {v:Value} (h:Calls P f args (w.drewN n) fun e w'=>e= .returned v∧ ∃m,w'=(w.drewN n).drewN m):Calls P f args (w.drewN n) fun e w''=>e= .returned v∧ ∃m,w''=w.drewN m:=
 h.mono fun _ _ ⟨he,m,hm⟩=>⟨he,n+m,by rw [hm];simp [World.drewN,Nat.add_assoc]⟩
section
variable {B:Nat} {w0 w W:World} {ss:List Res} {p gd t nt ia ic i tbb:Nat} {fl sh id now st u bd sl sht fu num:Int} {tb vt bk mt pt bg v2 v3 q0 q1:Value}
end
section
variable {B:Nat} {w0 w W:World} {ss:List Res} {p gd t nt ia ic i0 i1 tbb bgb:Nat} {fl sh id now st u bd sl sht fu num:Int} {tb vt bk mt pt bg v2 v3 q0 q1:Value}
def TwoI (B:Nat) (w0 W:World) (i0 i1:Nat) (rest:List Res):Prop:= ∃x0 x1:Ins,x0.i=i0∧x1.i=i1∧x0.st=newI 1 0 4∧x1.st=newI 1 1 4∧Own B w0 W (instR x0::instR x1::rest)
theorem TwoI.upd0 {W':World} {rest:List Res} (h:TwoI B w0 W i0 i1 rest) (hu:Upd [] W W'):TwoI B w0 W' i0 i1 rest:=let ⟨x0,x1,a,b,c,d,e⟩:=h;⟨x0,x1,a,b,c,d,e.upd0 hu⟩
theorem TwoI.own {rest:List Res} (h:TwoI B w0 W i0 i1 rest):Own B w0 W rest:=let ⟨_,_,_,_,_,_,e⟩:=h;e.drop.drop
abbrev pI (i:Nat):Value:= .pointer (some ⟨i,0,none⟩)
abbrev qqL (p gd nt t ia ic i0 i1:Nat) (fl sh id:Int) (tb vt bk mt pt bg v2 v3:Value) (st u bd sl sht fu:Int) (ss:List Res):List Res:=nqL p gd nt t ia ic fl sh id tb vt bk mt pt bg v2 v3 st u bd sl sht fu (pI i0) (pI i1) ss
end
end Go.Proofs.YtannckelmojkoaaGreat
namespace Go.Heap
open Go Go.RowKit
section
variable {B:Nat} {w0 w W W':World} {rs:List Res} {E sz n m:Nat} {v v':Value} {xs ys:List Value}
theorem zmj (h:w.ownsRow B E sz v n xs) (k:Nat):k∈blkOf v↔v.ownBlock=some k:=by
 rcases h.2 with ⟨rfl,_⟩ | ⟨g,cap,cur,rfl,_⟩
 ·simp [blkOf,Value.ownBlock]
 ·simp only [blkOf,Value.ownBlock,List.mem_singleton,Option.some.injEq]
  exact eq_comm
theorem Own.growAny (h:Own B w0 W (ownR E sz v n xs::rs)) (hg:W.grownBy W' v.ownBlock) (hat:v'.ownBlock=v.ownBlock∨v'.ownBlock=some W.heap.size) (ho:W'.ownsRow 0 E sz v' m ys):Own B w0 W' (ownR E sz v' m ys::rs):=by
 have hown:=zam h.head;have hu:Upd (blkOf v) W W':=(Upd.refl _ _).grown hg (fun k hk=> .inl ((zmj hown k).2 hk));refine h.step (r':=ownR E sz v' m ys) hu ⟨[],⟨ho,rfl⟩,by simp,fun k hk=>Nat.lt_of_lt_of_le (h.lt k hk) hu.size⟩ (fun k hk=> ?_);have h1:=(zmj ho k).1 hk;rcases hat with hat | hat
 ·exact .inl ((zmj hown k).2 (hat.symm.trans h1))
 ·rw [hat] at h1
  simp only [Option.some.injEq] at h1;exact .inr (by omega)
theorem zd6 {P:Program} {ops:Array Oper} {rest:List Oper} {o:Oper} {a:Act} {Q:Exit→Act→World→Prop} (hgd:o.guard=none) (s x:Operand) (t:TypeId)
  (ho:o.op= .call {callee:= .builtin .append,args:=#[s,x],argTypes:=#[t,t]})
  (e:TypeId) (i:TypeInfo) (z:Value) (size bytes:Nat) (ht:P.underlying t=some (.slice e)) (hi:P.info? e=some i) (hz:i.zero=some z)
  (hsize:i.size=size) (hby:i.bytes=bytes) (hzs:z.cells.size=size) (hsz:0<size)
  (v:Value) (n:Nat) (xs:List Value) (hs:a.eval s=v) (hw:Own B w0 W (ownR e size v n xs::rs))
  (u:Value) (m:Nat) (ys:List Value) (hx:a.eval x=u) (hr:Reads W u size m ys) (h1: ∀u∈ys,u.oneCell'=true) (h63:n+m≤maxLen) (hbytes:(n+m)*bytes≤140737488355328)
  (h: ∀v' w',Own B w0 w' (ownR e size v' (n+m) (xs++ys)::rs)→wpList P ops Q rest (a.put o.dst v') w'):wpList P ops Q (o::rest) a W:=by
 obtain ⟨ao,cap,rfl,hl1,hl2,hl3,hl4,hl5⟩:=hr;cases ao with
 | none=>
  obtain ⟨rfl,rfl⟩:=hl4 rfl;have:ys=[]:=List.eq_nil_of_length_eq_zero (by simpa using hl3);subst this;exact wpList_append_own_none hgd s x t ho 0 e i size ht hi v n xs hs (zam hw.head) hx (h _ _ (by simpa using hw))
 | some ad=>
  have hnews: ∀j u,ys[j]?=some u→W.cell? (ad.add j)=some u:=by
   intro j u hj;have hlt:=(List.getElem?_eq_some_iff.1 hj).1;have hn:0<m:=by
    rcases Nat.eq_zero_or_pos m with h0 | h0
    ·subst h0;omega
    ·exact h0
   obtain ⟨b,o,hab,hb,hc⟩:=hl5 hn;simp only [Option.some.injEq] at hab;subst hab;have:(⟨b,o,none⟩:Addr).add j=⟨b,o+j,none⟩:=by unfold Addr.add;split<;>simp_all
   rw [this,hc j (by omega)];exact hj
  refine wpList_append_own_at W hgd s x t ho 0 e i z size bytes ht hi hz hsize hby hzs hsz v n xs hs (zam hw.head) ad m cap ys hx hl3 hnews h1 h63 hbytes (Nat.zero_le _) ?_;intro v' w' hown hgrow _ hat;exact h v' w' (hw.growAny hgrow hat hown)
end
end Go.Heap
namespace Go.Proofs.YtannckelmojkoaaGreat
open Go.ChangeShapes Go.WideShapes Go.ChangeAt Go.RowKit Go.Heap
def Ints (w:World) (v:Value) (zs:List Int):Prop:=Reads w v 1 zs.length (zs.map fun z=> .int .i64 z)
theorem Ints.upd {M:List Nat} {w w':World} {v:Value} {zs:List Int} (h:Ints w v zs) (hu:Upd M w w') (hm: ∀b∈blkOf v,b∉M):Ints w' v zs:=Reads.upd h hu hm
theorem Ints.at {w:World} {ao:Option Addr} {n cap:Nat} {zs:List Int} (h:Ints w (.slice ao n cap) zs) (k:Nat) (hk:k<zs.length):
  n=zs.length∧ ∃b o,ao=some ⟨b,o,none⟩∧b<w.heap.size∧w.cell? ⟨b,o+k,none⟩=some (.int .i64 zs[k]):=by
 obtain ⟨ao',cap',hv,h1,h2,h3,h4,h5⟩:=h;simp only [Value.slice.injEq] at hv;obtain ⟨rfl,rfl,rfl⟩:=hv;obtain ⟨b,o,rfl,hb,hc⟩:=h5 (by omega);exact ⟨rfl,b,o,rfl,hb,by rw [hc k (by omega)];simp [hk]⟩
end Go.Proofs.YtannckelmojkoaaGreat
namespace Go.Proofs.YtannckelmojkoaaGreat
open Go.RowKit Go.Heap
section
variable {B:Nat} {w0 w W:World} {ss:List Res}
def NQ (B:Nat) (w0 W:World) (p nt nm:Nat) (fl sh now bd sht:Int) (ps:List Peer) (ss:List Res):Prop:=
 ∃(gd t ia ic i0 i1 tbb bgb mgb mtb:Nat) (vt bk pt v2 v3 cv gv:Value) (st:Int) (rest:List Res),0≤st∧st≤now∧
  TwoI B w0 W i0 i1 (qqL p gd nt t ia ic i0 i1 fl sh 0 (pI tbb) vt bk (pI mtb) pt (.slice (some ⟨bgb,0,none⟩) 2 2) v2 v3 st 0 bd 0 sht 0 (blk tbb tabO::blk bgb bgO::blk t (clkO now cv)::blk mgb mgO::blk mtb (mtO mgb)::blk gd (grO fl sh gv)::plR gv ps::blk nt (noB nm)::blk nm (.map #[] 0)::(rest++ss)))
end
section
variable {B:Nat} {w0 w W:World} {ss:List Res} {p nt nm:Nat} {fl sh now bd sht:Int} {ps:List Peer}
theorem NQ.upd0 {W':World} (h:NQ B w0 W p nt nm fl sh now bd sht ps ss) (hu:Upd [] W W'):NQ B w0 W' p nt nm fl sh now bd sht ps ss:=by
 obtain ⟨gd,t,ia,ic,i0,i1,tbb,bgb,mgb,mtb,vt,bk,pt,v2,v3,cv,gv,st,rest,hs0,hs1,x0,x1,e0,e1,s0,s1,ho⟩:=h;exact ⟨gd,t,ia,ic,i0,i1,tbb,bgb,mgb,mtb,vt,bk,pt,v2,v3,cv,gv,st,rest,hs0,hs1,x0,x1,e0,e1,s0,s1,ho.upd0 hu⟩
end
end Go.Proofs.YtannckelmojkoaaGreat
namespace Go.Proofs.YtannckelmojkoaaGreat.Ov
open Go
theorem laid:laidOutB Tryz.pinned.checked.prog=true:=by kernel_rfl
theorem maps:mapsRowed Tryz.pinned.checked.prog=true:=by kernel_rfl
theorem stops:(Tryz.pinned.checked.prog.stops==[])=true:=by kernel_rfl
theorem stopKnobs:(Tryz.pinned.checked.prog.stopKnobs==[])=true:=by kernel_rfl
theorem heard:Tryz.pinned.checked.prog.stopsHeard=true:=by kernel_rfl
theorem lifts:Tryz.pinned.checked.prog.liftsFinal=false:=by kernel_rfl
theorem make:(Tryz.pinned.checked.prog.make==some Make.cut)=true:=by kernel_rfl
theorem plain:Tryz.pinned.checked.prog.plainKeys=false:=by kernel_rfl
theorem enter:Tryz.pinned.checked.prog.mayEnter=true:=by kernel_rfl
theorem band {a b:Bool} (ha:a=true) (hb:b=true):(a&&b)=true:=by rw [ha,hb];rfl
end Go.Proofs.YtannckelmojkoaaGreat.Ov
