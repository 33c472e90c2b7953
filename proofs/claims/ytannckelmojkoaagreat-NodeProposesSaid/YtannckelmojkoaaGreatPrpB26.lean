/- Parts of the proof, one behind the other. -/
import Derived.Test.YtannckelmojkoaaGreatPrpB25
import Derived.Laws.ComplexArith
import Derived.Great.Walk
set_option maxHeartbeats 32000000
set_option maxRecDepth 100000
set_option linter.unusedVariables false
set_option linter.unusedSimpArgs false
namespace Go.Heap
open Ieee
theorem fl_lp:double.leastPlace= -1074:=by decide
theorem fl_bin:double.binade=4503599627370496:=by decide
theorem fl_inf:double.infRung=9218868437227405312:=by decide
theorem fl_sw:double.signWeight=9223372036854775808:=by decide
theorem fl_word (r:Nat):double.word false r=r:=by unfold Format.word;rw [if_neg Bool.false_ne_true]
theorem zui {n:Nat} (h0:n≠0) (hn:n<9007199254740992):n.log2≤52:=by
 have:=(Nat.log2_lt (k:=53) h0).2 hn;omega
theorem zy0 (way:Toward) (neg:Bool) (n d:Nat) (hd:d≤(n*2^d).log2+2):way.cut neg (n*2^d) d=n:=by
 unfold Toward.cut;rw [Nat.min_eq_left hd,Nat.one_shiftLeft];have hp:0<2^d:=Nat.two_pow_pos _;have h1:n*2^d/2^d=n:=Nat.mul_div_cancel _ hp;have h2:n*2^d%2^d=0:=Nat.mul_mod_left _ _;simp only [h1,h2];cases way<;>simp<;>omega
theorem zjz {n:Nat} (h0:n≠0) (k:Nat):(n*2^k).log2=n.log2+k:=by
 have h1:2^n.log2≤n:=Nat.log2_self_le h0;have h2:n<2^(n.log2+1):=Nat.lt_log2_self;have hz:n*2^k≠0:=Nat.mul_ne_zero h0 (Nat.pos_iff_ne_zero.1 (Nat.two_pow_pos k));refine Nat.le_antisymm ?_ ?_
 ·have:(n*2^k).log2<n.log2+k+1:=(Nat.log2_lt hz).2 (by
   rw [show n.log2+k+1=(n.log2+1)+k by omega,Nat.pow_add];exact Nat.mul_lt_mul_of_pos_right h2 (Nat.two_pow_pos k))
  omega
 ·refine (Nat.le_log2 hz).2 ?_
  rw [Nat.pow_add];exact Nat.mul_le_mul_right _ h1
def fw (n:Nat):Nat:=if n=0 then 0 else (n.log2+1022)*4503599627370496+n*2^(52-n.log2)
theorem zxn {n:Nat} (h0:n≠0) (hn:n<9007199254740992):4503599627370496≤n*2^(52-n.log2)∧n*2^(52-n.log2)<9007199254740992:=by
 have hl:=zui h0 hn;have h1:2^n.log2≤n:=Nat.log2_self_le h0;have h2:n<2^(n.log2+1):=Nat.lt_log2_self;have e1:4503599627370496=2^n.log2*2^(52-n.log2):=by rw [←Nat.pow_add,show n.log2+(52-n.log2)=52 by omega]
 have e2:9007199254740992=2^(n.log2+1)*2^(52-n.log2):=by rw [←Nat.pow_add,show n.log2+1+(52-n.log2)=53 by omega]
 rw [e1,e2];exact ⟨Nat.mul_le_mul_right _ h1,Nat.mul_lt_mul_of_pos_right h2 (Nat.two_pow_pos _)⟩
theorem zxo {n:Nat} (hn:n<9007199254740992) (k:Nat):double.nearest false (n*2^k) (-(k:Int))=fw n:=by
 unfold fw;by_cases h0:n=0
 ·subst h0;rw [Nat.zero_mul,if_pos rfl];unfold Format.nearest;rw [if_pos rfl];rfl
 ·rw [if_neg h0]
  have hl:=zui h0 hn;have hz:n*2^k≠0:=Nat.mul_ne_zero h0 (Nat.pos_iff_ne_zero.1 (Nat.two_pow_pos k));obtain ⟨k1,k2⟩:=zxn h0 hn;have hlm:=zjz h0 k;have hlast:max (-(k:Int)+((n*2^k).log2:Nat)-(double.fractionBits:Nat)) double.leastPlace=(n.log2:Int)-52:=by
   rw [hlm,fl_lp,show (double.fractionBits:Nat)=52 from rfl];omega
  unfold Format.nearest;rw [if_neg hz];simp only [hlast];have hkept:Toward.even.cut false ((n*2^k)<<<(-(k:Int)-((n.log2:Int)-52)).toNat) ((n.log2:Int)-52- -(k:Int)).toNat=n*2^(52-n.log2):=by
   by_cases hc:k≤52-n.log2
   ·rw [show ((n.log2:Int)-52- -(k:Int)).toNat=0 by omega,show (-(k:Int)-((n.log2:Int)-52)).toNat=52-n.log2-k by omega,Nat.shiftLeft_eq,Nat.mul_assoc,←Nat.pow_add,show k+(52-n.log2-k)=52-n.log2 by omega]
    have:=zy0 .even false (n*2^(52-n.log2)) 0 (by omega)
    simpa using this
   ·rw [show (-(k:Int)-((n.log2:Int)-52)).toNat=0 by omega,show ((n.log2:Int)-52- -(k:Int)).toNat=k+n.log2-52 by omega,Nat.shiftLeft_zero]
    have e:n*2^k=n*2^(52-n.log2)*2^(k+n.log2-52):=by rw [Nat.mul_assoc,←Nat.pow_add];congr 2;omega
    have hb:k+n.log2-52≤(n*2^(52-n.log2)*2^(k+n.log2-52)).log2+2:=by rw [←e,hlm];omega
    rw [e];exact zy0 _ _ _ _ hb
  rw [hkept,fl_word,fl_lp,show ((n.log2:Int)-52- -1074).toNat=n.log2+1022 by omega,fl_bin,fl_inf];generalize n*2^(52-n.log2)=q at*;generalize n.log2=L at*;exact Nat.min_eq_left (by omega)
theorem zxp {n:Nat} (h0:n≠0) (hn:n<9007199254740992):double.read (fw n)= .number false (n*2^(52-n.log2)) (-((52-n.log2:Nat):Int)):=by
 have hl:=zui h0 hn;obtain ⟨k1,k2⟩:=zxn h0 hn;unfold fw;rw [if_neg h0];generalize hk:n*2^(52-n.log2)=q at*;generalize n.log2=L at*;unfold Format.read;simp only [fl_sw,fl_bin,fl_inf,fl_lp];have hm:((L+1022)*4503599627370496+q)%4503599627370496=q-4503599627370496:=by omega
 have hd:((L+1022)*4503599627370496+q)/4503599627370496=L+1023:=by omega
 rw [Nat.mod_eq_of_lt (by omega),Nat.div_eq_of_lt (by omega),if_neg (by omega),if_pos (by omega),hm,hd];have e1:4503599627370496+(q-4503599627370496)=q:=by omega
 have e2:(-1074+((L+1023-1:Nat):Int))= -((52-L:Nat):Int):=by omega
 rw [e1,e2];rfl
theorem zqi:double.read (fw 0)= .number false 0 (-1074):=by decide
theorem zxm {n:Nat} (hn:n<9007199254740992): ∃k:Nat,double.read (fw n)= .number false (n*2^k) (-(k:Int)):=by
 by_cases h0:n=0
 ·subst h0;obtain ⟨k,hk⟩: ∃k:Nat,k=1074:=⟨_,rfl⟩;exact ⟨k,by rw [Nat.zero_mul,zqi,hk];rfl⟩
 ·exact ⟨_,zxp h0 hn⟩
theorem fl_add {a b:Nat} (h:a+b<9007199254740992):double.add (fw a) (fw b)=some (fw (a+b)):=by
 obtain ⟨i,hi⟩:=zxm (n:=a) (by omega);obtain ⟨j,hj⟩:=zxm (n:=b) (by omega);unfold Format.add;rw [hi,hj];unfold Datum.sum;simp only [Option.map_some];have hs: ∀(m k:Nat),signed false m k=((m*2^k:Nat):Int):=fun m k=>by unfold signed;rw [if_neg (by simp),Nat.shiftLeft_eq]
 have key: ∀i j:Nat,j≤i→(signed false (a*2^i) (-(i:Int)-min (-(i:Int)) (-(j:Int))).toNat+signed false (b*2^j) (-(j:Int)-min (-(i:Int)) (-(j:Int))).toNat)=(((a+b)*2^i:Nat):Int)∧min (-(i:Int)) (-(j:Int))= -(i:Int):=by
  intro i j hij;have hm:min (-(i:Int)) (-(j:Int))= -(i:Int):=by omega
  refine ⟨?_,hm⟩;rw [hm,hs,hs,show (-(i:Int)- -(i:Int)).toNat=0 by omega,show (-(j:Int)- -(i:Int)).toNat=i-j by omega,Nat.mul_assoc b,←Nat.pow_add,show j+(i-j)=i by omega,Nat.pow_zero,Nat.mul_one,Nat.add_mul];exact (Int.natCast_add _ _).symm
 have fin: ∀k:Nat,double.write (.number (if (((a+b)*2^k:Nat):Int)=0 then (false&&false) else decide ((((a+b)*2^k:Nat):Int)<0)) (((a+b)*2^k:Nat):Int).natAbs (-(k:Int)))=fw (a+b):=by
  intro k;have hf:(if (((a+b)*2^k:Nat):Int)=0 then (false&&false) else decide ((((a+b)*2^k:Nat):Int)<0))=false:=by
   split
   ·rfl
   ·simp only [decide_eq_false_iff_not];omega
  rw [hf,Int.natAbs_natCast];exact zxo (by omega) k
 by_cases hij:j≤i
 ·obtain ⟨e1,e2⟩:=key i j hij
  rw [e1,e2,fin]
 ·have e:=key j i (by omega)
  have: ∀i j:Nat,i≤j→(signed false (a*2^i) (-(i:Int)-min (-(i:Int)) (-(j:Int))).toNat+signed false (b*2^j) (-(j:Int)-min (-(i:Int)) (-(j:Int))).toNat)=(((a+b)*2^j:Nat):Int)∧min (-(i:Int)) (-(j:Int))= -(j:Int):=by
   intro i j hij;have hm:min (-(i:Int)) (-(j:Int))= -(j:Int):=by omega
   refine ⟨?_,hm⟩;rw [hm,hs,hs,show (-(j:Int)- -(j:Int)).toNat=0 by omega,show (-(i:Int)- -(j:Int)).toNat=j-i by omega,Nat.mul_assoc a,←Nat.pow_add,show i+(j-i)=j by omega,Nat.pow_zero,Nat.mul_one,Nat.add_mul];exact (Int.natCast_add _ _).symm
  obtain ⟨e1,e2⟩:=this i j (by omega);rw [e1,e2,fin]
theorem fl_int {n:Nat} (hn:n<9007199254740992):(double.read (fw n)).toInt .zero=some (n:Int):=by
 by_cases h0:n=0
 ·subst h0;rw [zqi];decide
 ·rw [zxp h0 hn]
  have hl:=zui h0 hn;unfold Datum.toInt Datum.integral;simp only;rw [show (-((52-n.log2:Nat):Int)).toNat=0 by omega,show (- -((52-n.log2:Nat):Int)).toNat=52-n.log2 by omega,Nat.shiftLeft_zero,zy0 _ _ _ _ (by rw [zjz h0];omega)];unfold signed;simp
end Go.Heap
namespace Go
open Go.Heap
theorem ze0 {n:Nat} (hn:n<9007199254740992):FloatKind.f64.nearest (n:Int)=fw n:=by
 unfold FloatKind.nearest FloatKind.encode;rw [show decide ((n:Int)<0)=false by simp,Int.natAbs_natCast];have:=zxo hn 0;rw [Nat.pow_zero,Nat.mul_one] at this;exact this
theorem fl_sum {a b:Int} (ha:0≤a) (hb:0≤b) (h:a+b<9007199254740992):floatBits .add .f64 (FloatKind.f64.nearest a) (FloatKind.f64.nearest b)=some (FloatKind.f64.nearest (a+b)):=by
 obtain ⟨a,rfl⟩:=Int.eq_ofNat_of_zero_le ha;obtain ⟨b,rfl⟩:=Int.eq_ofNat_of_zero_le hb;rw [ze0 (by omega),ze0 (by omega),←Int.natCast_add,ze0 (by omega)];exact fl_add (by omega)
theorem fl_csum {a b c d:Int} (ha:0≤a) (hb:0≤b) (hc:0≤c) (hd:0≤d) (h1:a+c<9007199254740992) (h2:b+d<9007199254740992):cSumBits .add .f64 (FloatKind.f64.nearest a) (FloatKind.f64.nearest b) (FloatKind.f64.nearest c) (FloatKind.f64.nearest d)=some (FloatKind.f64.nearest (a+c),FloatKind.f64.nearest (b+d)):=by
 unfold cSumBits;rw [fl_sum ha hc h1,fl_sum hb hd h2];rfl
theorem zqj {a:Int} (ha:0≤a) (h:a<9007199254740992):floatToIntVal .f64 (FloatKind.f64.nearest a) .i64=some a:=by
 obtain ⟨a,rfl⟩:=Int.eq_ofNat_of_zero_le ha;rw [ze0 (by omega)];unfold floatToIntVal FloatKind.decode;rw [show FloatKind.f64.format=Ieee.double from rfl,fl_int (by omega)];simp only;rw [if_pos ⟨by rw [show IntKind.i64.min= -9223372036854775808 by decide];omega,by rw [show IntKind.i64.max=9223372036854775807 by decide];omega⟩]
end Go
namespace Go.Proofs.YtannckelmojkoaaGreat
open Go.RowKit Go.Heap
def zup (k:Nat) (t:Int) (z:List (Int×Int)):List (Int×Int):=if 0≤t∧t≤1048576 then z.modify k fun z=>(z.1+1,z.2+t) else z
section
variable {B:Nat} {w0 w W W':World} {ss rs:List Res} {x:Np} {s s':Ns} {l l':Nt} {m g cap:Nat} {z:List (Int×Int)}
end
end Go.Proofs.YtannckelmojkoaaGreat
namespace Go.Proofs.YtannckelmojkoaaGreat
open Go.RowKit Go.Heap
def zuq (s:Ns) (k:Nat) (rs:List Rq):List (Int×Int):=rs.foldl (fun z r=>match za8 s.tab r with | some t=>zup k (s.now-t) z | none=>z) s.mt
theorem zur (k:Nat) (t:Int) (s:Ns):zy6 k t s= {s with mt:=zup k t s.mt}:=by
 unfold zy6 zup;split<;>rfl
theorem zoq (k:Nat) (s:Ns) (r:Rq):zlr k s r= {s with mt:=match za8 s.tab r with | some t=>zup k (s.now-t) s.mt | none=>s.mt}:=by
 unfold zlr;cases za8 s.tab r with
 | none=>rfl
 | some t=>exact zur _ _ _
theorem zqv (k:Nat) (rs:List Rq) (s:Ns):zqu k s rs= {s with mt:=zuq s k rs}:=by
 unfold zqu zuq
 induction rs generalizing s with
 | nil=>rfl
 | cons r rs ih=>rw [List.foldl_cons,ih,zoq,List.foldl_cons]
theorem zug (p:NSt) (e:En): ∃o l',zhk p e=({p.1 with out:=p.1.out++o,tab:=ztd p.1.tab e.rq.client e.rq.time},l')∧o.length≤1∧l'.length≤p.2.length+1:=by
 obtain ⟨s,l⟩:=p;have hl:=zgf (l:=l) (m:=repM s.id e.rq.client e.rq.time e.res);unfold zhk;simp only;rw [znw];generalize sealP l (repM s.id e.rq.client e.rq.time e.res)=sp at*;obtain ⟨o,l2⟩:=sp;cases o with
 | none=>exact ⟨[],l2,by simp only [List.append_nil],by simp,hl⟩
 | some b=>exact ⟨[_],l2,rfl,by simp,hl⟩
theorem zoo (es:List En): ∀p:NSt,∃o l' t',es.foldl zhk p=({p.1 with out:=p.1.out++o,tab:=t'},l')∧o.length≤es.length∧l'.length≤p.2.length+es.length:=by
 induction es with
 | nil=>intro p;exact ⟨[],p.2,p.1.tab,by simp,by simp,by simp⟩
 | cons e es ih=>
  intro p;obtain ⟨o,l',h1,h2,h3⟩:=zug p e;obtain ⟨o2,l2,t2,k1,k2,k3⟩:=ih (zhk p e);rw [h1] at k1 k3;simp only at k1 k3;refine ⟨o++o2,l2,t2,?_,by rw [List.length_append,List.length_cons];omega,by rw [List.length_cons];omega⟩;rw [List.foldl_cons,h1,k1,List.append_assoc]
structure RunG (s0:Ns) (l0:Nt) (m:Nat) (p:NSt):Prop where
 go:runGo 16 (s0,l0)=runGo m p
 fuel:16≤(m:Int)+p.1.run
 ln:(p.2.length:Int)≤800000000+4*p.1.run
 on:(p.1.out.length:Int)≤800000000+4*p.1.run
theorem zhc (s:Ns) (l:Nt): ∃o l' t',zhb (s,l)=({s with run:=s.run+1,bk:=(runL s.bk (runC s).rs).1,out:=s.out++o,tab:=t'},l')∧o.length≤(runC s).rs.length∧l'.length≤l.length+(runC s).rs.length:=by
 rw [znx];obtain ⟨o,l',t',h1,h2,h3⟩:=zoo (runL s.bk (runC s).rs).2 ({s with run:=s.run+1,bk:=(runL s.bk (runC s).rs).1},l);have h4:(runL s.bk (runC s).rs).2.length≤(runC s).rs.length:=zkv _ _;exact ⟨o,l',t',h1,by omega,by simp only at h3;omega⟩
theorem RunG.step {s0 s:Ns} {l0 l:Nt} {m:Nat} (h:RunG s0 l0 m (s,l)) (h0:s.run<doneI (insAt s 0)) (h1:s.run+1≤16) (hb:(runC s).rs.length≤4): ∃m',m=m'+1∧RunG s0 l0 m' (zhb (s,l)):=by
 obtain ⟨g1,g2,g4,g5⟩:=h;simp only at g2 g4 g5;obtain ⟨n,rfl⟩: ∃n,m=n+1:=⟨m-1,by omega⟩;obtain ⟨o,l',t',e1,e2,e3⟩:=zhc s l;refine ⟨n,rfl,by rw [g1,zkn h0],?_,?_,?_⟩
 ·rw [e1];simp only;omega
 ·rw [e1];simp only;omega
 ·rw [e1];simp only [List.length_append];omega
theorem zt7 {P:Program} {e:TypeId} {z:Value} {n b:Nat} {cs:Array Value} (hi:(P.info? e).map (fun i=>(i.zero,i.size,i.bytes))=some (some z,n,b)) (h0:0<n) (h1:n≤2^24) (hc:cs.size=n):P.builtSlice e 1 [(0,.agg cs)]=some cs:=by
 obtain ⟨i,e1,e2,e3,e4⟩:=info_parts hi;unfold Program.builtSlice;simp only [e1,e2,e3,Nat.one_mul];rw [if_neg (by omega)];obtain ⟨r,hr,hs,hk⟩:=Great.fill_dense h0 [Value.agg cs] 0 ((Array.range n).map (z.cells[· %z.cells.size]!)) (by intro v hv;simp at hv;subst hv;exact hc) (by simp);simp only [List.zipIdx_cons,List.zipIdx_nil,List.map_cons,List.map_nil] at hr;rw [hr];congr 1
 refine Array.ext_getElem? (fun k=> ?_);rw [hk k];by_cases hlt:k<n
 ·rw [if_pos ⟨by omega,by simpa using hlt⟩]
  have d1:k/n=0:=Nat.div_eq_of_lt hlt;have d2:k%n=k:=Nat.mod_eq_of_lt hlt;simp [d1,d2,Value.cells]
 ·rw [if_neg (by simp;omega),Array.getElem?_eq_none (by simp;omega),Array.getElem?_eq_none (by omega)]
theorem zhp {P:Program} {ops:Array Oper} {rest:List Oper} {o:Oper} {a:Act} {w:World} {Q:Exit→Act→World→Prop} (hg:o.guard=none) (t e:TypeId) (x:Operand) (ho:o.op= .buildSlice t 1 #[(0,x)])
  {z:Value} {n b:Nat} (hu:P.underlying t=some (.slice e)) (hi:(P.info? e).map (fun i=>(i.zero,i.size,i.bytes))=some (some z,n,b)) (h0:0<n) (h1:n≤2^24) (cs:Array Value) (hc:cs.size=n) (hx:a.eval x= .agg cs)
  (h:wpList P ops Q rest (a.put o.dst (.slice (some ⟨w.heap.size,0,none⟩) 1 1)) (w.alloc (.cells cs e))):wpList P ops Q (o::rest) a w:=by
 refine Great.wpList_buildSliceTo hg t e 1 #[(0,x)] ho _ rfl _ rfl hu cs ?_ h;have e1:(#[(0,x)].map fun (i,x)=>(i,a.eval x)).toList=[(0,a.eval x)]:=by simp
 rw [e1,hx];exact zt7 hi h0 h1 hc
theorem flat_in' {α β:Type} (g:α→List β) (n:Nat): ∀(l:List α) (_: ∀a∈l,(g a).length=n) (k j:Nat) (hk:k<l.length),j<n→(l.flatMap g)[k*n+j]?=(g l[k])[j]?
 | [],_,k,j,hk,_=>by simp at hk
 | a::l,hg,0,j,hk,hj=>by
  rw [List.flatMap_cons,List.getElem?_append_left (by rw [hg a (by simp)];omega)];simp
 | a::l,hg,k+1,j,hk,hj=>by
  have ha:=hg a (by simp);rw [List.flatMap_cons,List.getElem?_append_right (by rw [ha,Nat.succ_mul];omega),ha];rw [show (k+1)*n+j-n=k*n+j by rw [Nat.succ_mul];omega];rw [flat_in' g n l (fun b hb=>hg b (by simp [hb])) k j (by simpa using hk) hj];simp
theorem znv {α:Type} {w:World} {b o n:Nat} {g:α→List Value} {l:List α} (hc: ∀j,j<l.length*n→w.cell? ⟨b,o+j,none⟩=(l.flatMap g)[j]?) (hg: ∀a∈l,(g a).length=n) (k:Nat) (hk:k<l.length):w.rangeAt b (o+k*n) (g l[k]):=fun j v hj=>by
 have hjn:j<n:=by rw [←hg _ (List.getElem_mem hk)];exact (List.getElem?_eq_some_iff.1 hj).1
 have h1:(k+1)*n≤l.length*n:=Nat.mul_le_mul_right _ hk;rw [Nat.succ_mul] at h1;rw [Nat.add_assoc,hc (k*n+j) (by omega),flat_in' g n l hg k j hk hjn];exact hj
theorem by13 {l:List Bool} (h:l.length=13): ∃b0 b1 b2 b3 b4 b5 b6 b7 b8 b9 b10 b11 b12,l=[b0,b1,b2,b3,b4,b5,b6,b7,b8,b9,b10,b11,b12]:=by
 match l,h with
 | [b0,b1,b2,b3,b4,b5,b6,b7,b8,b9,b10,b11,b12],_=>exact ⟨b0,b1,b2,b3,b4,b5,b6,b7,b8,b9,b10,b11,b12,rfl⟩
abbrev tdLit (r:Rq) (b0 b1 b2 b3 b4 b5 b6 b7 b8 b9 b10 b11 b12:Bool) (rd:Bool) (sn:Int):Array Value:=#[.int .i64 r.client,.int .i64 r.time,.int .i64 r.kind,.int .i64 r.key,.int .i64 r.val,.int .i64 r.sl,.bool b0,.bool b1,.bool b2,.bool b3,.bool b4,.bool b5,.bool b6,.bool b7,.bool b8,.bool b9,.bool b10,.bool b11,.bool b12,.bool rd,.int .i64 sn]
theorem td_lit {t:Td} (h:t.by_.length=13): ∃b0 b1 b2 b3 b4 b5 b6 b7 b8 b9 b10 b11 b12,tdC t=(tdLit t.r b0 b1 b2 b3 b4 b5 b6 b7 b8 b9 b10 b11 b12 t.ready t.since).toList:=by
 obtain ⟨b0,b1,b2,b3,b4,b5,b6,b7,b8,b9,b10,b11,b12,e⟩:=by13 h;exact ⟨b0,b1,b2,b3,b4,b5,b6,b7,b8,b9,b10,b11,b12,by unfold tdC;rw [e];rfl⟩
theorem Tryz.infoTold:(Tryz.prog.info? 314).map (fun i=>(i.zero,i.size,i.bytes))=some (some (.agg #[.int .i64 0,.int .i64 0,.int .i64 0,.int .i64 0,.int .i64 0,.int .i64 0,.bool false,.bool false,.bool false,.bool false,.bool false,.bool false,.bool false,.bool false,.bool false,.bool false,.bool false,.bool false,.bool false,.bool false,.int .i64 0]),21,72):=by kernel_rfl
section
variable {B:Nat} {w0 W:World} {ss:List Res} {tb f:Nat} {cl:Int} {v:Value} {l:List Td}
abbrev tdZ:Array Value:=#[.int .i64 0,.int .i64 0,.int .i64 0,.int .i64 0,.int .i64 0,.int .i64 0,.bool false,.bool false,.bool false,.bool false,.bool false,.bool false,.bool false,.bool false,.bool false,.bool false,.bool false,.bool false,.bool false,.bool false,.int .i64 0]
structure TdCs (t:Td) (cs:List Value):Prop where
 n:cs.length=21
 one: ∀v∈cs,v.oneCell'=true
 c0:cs[0]?=some (.int .i64 t.r.client)
 c1:cs[1]?=some (.int .i64 t.r.time)
theorem td_cs {t:Td} (h:t.by_.length=13):TdCs t (tdC t):=by
 obtain ⟨b0,b1,b2,b3,b4,b5,b6,b7,b8,b9,b10,b11,b12,e⟩:=td_lit h;rw [e];refine ⟨rfl,fun v hv=> ?_,rfl,rfl⟩;simp only [tdLit,List.mem_cons,List.not_mem_nil,or_false] at hv;rcases hv with rfl | rfl | rfl | rfl | rfl | rfl | rfl | rfl | rfl | rfl | rfl | rfl | rfl | rfl | rfl | rfl | rfl | rfl | rfl | rfl | rfl<;>rfl
end
end Go.Proofs.YtannckelmojkoaaGreat
namespace Go.Proofs.YtannckelmojkoaaGreat
open Go.RowKit Go.Heap
theorem zdp (p:NSt) (m:Ms): ∃o:List (Int×Bys),sendS p m=({p.1 with out:=p.1.out++o},(sendS p m).2)∧o.length≤3*p.1.c.f+1∧(sendS p m).2.length≤p.2.length+1:=by
 have h:=zgf (l:=p.2) (m:=zjr m p.1.id);unfold sendS;generalize sealP p.2 (zjr m p.1.id)=q at*;obtain ⟨o,l2⟩:=q;cases o with
 | none=>exact ⟨[],by simp only [List.append_nil],by simp,h⟩
 | some b=>exact ⟨_,rfl,by rw [List.length_map];exact zh2 _ _,h⟩
theorem zyn (v:Value) (rs:List Rq):batR v rs=redR v 6 rs.length (rs.flatMap zaf):=rfl
section
variable {B:Nat} {w0 w W W':World} {ss rs:List Res} {x:Np} {s s':Ns} {l l':Nt} {k i:Nat} {vb:Value} {bs:List Rq}
theorem nd_vote (h:NdIs B w0 W x s l (batR vb bs::ss)) (hk:k<s.c.f+1) (hi:x.is[k]?=some i) (hb:bs.length≤4) (kind seq node sl:Int):
  Calls Tryz.prog 236 #[ptrV i,.int .i64 kind,.int .i64 seq,.int .i64 node,.int .i64 sl,vb] W fun e w'=>e= .returned (.bool (voteB (insAt s k) kind seq node))∧NdIs B w0 w' x (zbp s k (voteI (insAt s k) kind seq node sl bs)) l (batR vb bs::ss):=by
 have hk':k<s.ins.length:=by rw [h.ok.ins];exact hk
 obtain ⟨r,hs,-⟩:=h.side;have hbt:=zcn (hs.get 0 rfl);obtain ⟨j,rr,hj,ha,g⟩:=h.inst k hk';rw [hi] at hj;cases hj
 rw [zbc s k hk'];refine (ai_vote ha kind seq node sl vb bs hbt (by omega)).mono ?_;rintro e w' ⟨he,h2⟩;exact ⟨he,g w' _ _ (znd hb) h2⟩
theorem nd_pre (h:NdIs B w0 W x s l (batR vb bs::ss)) (hk:k<s.c.f+1) (hi:x.is[k]?=some i) (hb:bs.length≤4) (seq:Int):
  Calls Tryz.prog 159 #[ptrV i,.int .i64 seq,vb] W fun e w'=>e= .returned (.bool (preB (insAt s k) seq))∧NdIs B w0 w' x (zbp s k (preI (insAt s k) seq bs)) l (batR vb bs::ss):=by
 have hk':k<s.ins.length:=by rw [h.ok.ins];exact hk
 obtain ⟨r,hs,-⟩:=h.side;have hbt:=zcn (hs.get 0 rfl);obtain ⟨j,rr,hj,ha,g⟩:=h.inst k hk';rw [hi] at hj;cases hj
 rw [zbc s k hk'];refine (ai_pre ha seq vb bs hbt (by omega)).mono ?_;rintro e w' ⟨he,h2⟩;exact ⟨he,g w' _ _ (zq5 hb) h2⟩
structure ToldC (r:Option Cp) (c:Ct):Prop where
 cp:c.cp=r.getD noCp
 vb: ∃a k,c.vb= .slice a c.rs.length k
 vv: ∃a k,c.vv= .slice a c.vs.length k
 vn:c.vs.length≤100000
theorem told_c {r:Option Cp} {c:Ct} (h:Told W W' r c):ToldC r c:=by
 obtain ⟨h1,⟨-,h2⟩,⟨a1,k1,e1,-⟩,⟨a2,k2,e2,-⟩,-,-⟩:=h;exact ⟨h1,⟨a1,k1,e1⟩,⟨a2,k2,e2⟩,h2⟩
theorem zo0 (h:NdIs B w0 W x s l ss) (hk:k<s.c.f+1) (hi:x.is[k]?=some i) (seq:Int):
  Calls Tryz.prog 255 #[ptrV i,.int .i64 seq] W fun e w'=> ∃c:Ct,e= .returned (.tuple #[ctAgg c,.bool (prepI (insAt s k) seq).isSome])∧ToldC (prepI (insAt s k) seq) c∧NdIs B w0 w' x (zbp s k (zbi (insAt s k) seq)) l (batR c.vb c.rs::redR c.vv 2 c.vs.length (zan c.vs)::ss):=by
 have hk':k<s.ins.length:=by rw [h.ok.ins];exact hk
 have hsm:=(h.ok.insk k hk').2.2.2;obtain ⟨j,rr,hj,ha,g⟩:=h.inst k hk';rw [hi] at hj;cases hj
 rw [zbc s k hk'];refine (zlg ha seq).mono ?_;rintro e w' ⟨c,he,hc,h2⟩;obtain ⟨y,y1,y2,y3⟩:=h2;exact ⟨c,he,told_c hc,g w' _ (_::_::ss) (zfv hsm) ⟨y,y1,y2,y3.rot'.swap.rot⟩⟩
theorem zri (h:NdIs B w0 W x s l ss) (hk:k<s.c.f+1) (hi:x.is[k]?=some i) (seq:Int):
  Calls Tryz.prog 256 #[ptrV i,.int .i64 seq] W fun e w'=> ∃c:Ct,e= .returned (.tuple #[ctAgg c,.bool (commI (insAt s k) seq).isSome])∧ToldC (commI (insAt s k) seq) c∧NdIs B w0 w' x (zbp s k (zbk (insAt s k) seq)) l (batR c.vb c.rs::redR c.vv 2 c.vs.length (zan c.vs)::ss):=by
 have hk':k<s.ins.length:=by rw [h.ok.ins];exact hk
 have hsm:=(h.ok.insk k hk').2.2.2;obtain ⟨j,rr,hj,ha,g⟩:=h.inst k hk';rw [hi] at hj;cases hj
 rw [zbc s k hk'];refine (zof ha seq).mono ?_;rintro e w' ⟨c,he,hc,h2⟩;obtain ⟨y,y1,y2,y3⟩:=h2;exact ⟨c,he,told_c hc,g w' _ (_::_::ss) (zgs hsm) ⟨y,y1,y2,y3.rot'.swap.rot⟩⟩
theorem zvd (h:NdIs B w0 W x s l ss) (hk:k<s.c.f+1) (hi:x.is[k]?=some i) (seq:Int):
  Calls Tryz.prog 220 #[ptrV i,.int .i64 seq] W fun e w'=> ∃a c,e= .returned (.tuple #[.slice a (zbl (insAt s k) seq).1.length c,.bool (zbl (insAt s k) seq).2])∧NdIs B w0 w' x s l (batR (.slice a (zbl (insAt s k) seq).1.length c) (zbl (insAt s k) seq).1::ss):=by
 have hk':k<s.ins.length:=by rw [h.ok.ins];exact hk
 obtain ⟨j,rr,hj,ha,g⟩:=h.inst k hk';rw [hi] at hj;cases hj
 rw [zbc s k hk'];refine (zt2 ha seq).mono ?_;rintro e w' ⟨u,he,hu,hb,hn⟩;obtain ⟨a,c,rfl⟩: ∃a c,u= .slice a (zbl s.ins[k] seq).1.length c:=let ⟨a,c,e,_⟩:=hb;⟨a,c,e⟩;obtain ⟨r,hs,hback⟩:=h.side;refine ⟨a,c,he,hback w' (_::ss) ?_⟩;exact own_bat (hs.upd0 hu) hb (fun q hq=> .inr ⟨Nat.le_trans hs.below.size (hn q (zdr hq)),fun hm=>by have:=hs.lt q hm;have:=hn q (zdr hq);omega⟩)
theorem nd_next (h:NdIs B w0 W x s l ss) (hk:k<s.c.f+1) (hi:x.is[k]?=some i):Calls Tryz.prog 154 #[ptrV i] W fun e w'=>e= .returned (.int .i64 (nextI (insAt s k)))∧Upd [] W w':=by
 have hk':k<s.ins.length:=by rw [h.ok.ins];exact hk
 obtain ⟨j,rr,hj,ha,-⟩:=h.ask k hk';rw [hi] at hj;cases hj
 rw [zbc s k hk'];exact ai_next ha
theorem nd_used (h:NdIs B w0 W x s l ss) (hk:k<s.c.f+1) (hi:x.is[k]?=some i) (r:Rq):Calls Tryz.prog 158 #[ptrV i,rqAgg r] W fun e w'=>e= .returned (.bool (usedI (insAt s k) r))∧Upd [] W w':=by
 have hk':k<s.ins.length:=by rw [h.ok.ins];exact hk
 obtain ⟨j,rr,hj,ha,-⟩:=h.ask k hk';rw [hi] at hj;cases hj
 rw [zbc s k hk'];exact ai_used ha r
end
end Go.Proofs.YtannckelmojkoaaGreat
namespace Go.Proofs.YtannckelmojkoaaGreat
open Go.RowKit Go.Heap
theorem ztf: ∀l:List Td,(∀t∈l,0≤t.r.client∧t.r.client<4)→l.length≤l.countP (fun t=>t.r.client==0)+l.countP (fun t=>t.r.client==1)+l.countP (fun t=>t.r.client==2)+l.countP (fun t=>t.r.client==3)
 | [],_=>by simp
 | t::l,h=>by
  have ih:=ztf l (fun t ht=>h t (by simp [ht]));obtain ⟨h1,h2⟩:=h t (by simp);simp only [List.countP_cons,List.length_cons];rcases (by omega:t.r.client=0∨t.r.client=1∨t.r.client=2∨t.r.client=3) with e | e | e | e<;>rw [e]<;>simp<;>omega
theorem zhf {cl:Int} {l:List Td} (h:TabOk cl l) (hc:cl≤4):l.length≤16:=by
 have:=ztf l (fun t ht=>by have:=h.c t ht;omega);have h0:=h.n 0;have h1:=h.n 1;have h2:=h.n 2;have h3:=h.n 3;omega
theorem zph {cl:Int} {l:List Td} {r:Rq} {t:Int} (h:TabOk cl l) (e:za8 l r=some t):0≤t∧t≤1048576:=by
 unfold za8 at e;cases hg:l[tabK l r]? with
 | none=>rw [hg] at e;simp at e
 | some q=>
  rw [hg] at e;simp only at e;split at e
  ·simp only [Option.some.injEq] at e
   have:=h.c q (List.mem_of_getElem? hg);subst e;exact ⟨this.2.2.2.1,this.2.2.2.2⟩
  ·simp at e
section
variable {B:Nat} {w0 w W W':World} {ss rs:List Res} {x:Np} {s s':Ns} {l l':Nt}
end
end Go.Proofs.YtannckelmojkoaaGreat
namespace Go.Proofs.YtannckelmojkoaaGreat
open Go.RowKit Go.Heap
theorem zkq (l:List (List Int)) (k j:Nat) (v:Int):(setRow l k j v).length=l.length:=by simp [setRow]
theorem zkr {l:List (List Int)} {k j:Nat} {v:Int} {n:Nat} (h: ∀r∈l,r.length=n): ∀r∈setRow l k j v,r.length=n:=by
 intro r hr;unfold setRow at hr;obtain ⟨i,hi,rfl⟩:=List.getElem_of_mem hr;have hi:i<l.length:=by simpa using hi
 rw [List.getElem_modify];split
 ·rw [List.length_set];exact h _ (List.getElem_mem hi)
 ·exact h _ (List.getElem_mem hi)
theorem zty {bs:List Nat} {l:List (List Int)} {k j:Nat} {v:Int} {c:Nat} (hk:k<l.length) (hb:bs[k]?=some c):(bs.zip l).set k (c,(l[k]).set j v)=bs.zip (setRow l k j v):=by
 obtain ⟨hb1,hb2⟩:=List.getElem?_eq_some_iff.1 hb;refine List.ext_getElem (by simp [setRow]) (fun i h1 h2=> ?_);unfold setRow at h2⊢;rw [List.getElem_set,List.getElem_zip,List.getElem_zip,List.getElem_modify];split
 ·rename_i e;subst e;rw [hb2]
 ·rfl
theorem zx0 {B:Nat} {w0 W:World} {ss:List Res} {b:Nat} {bs:List Nat} {l:List (List Int)} (h:Own B w0 W (nrL b bs l++ss)) (hl:bs.length=l.length) (k:Nat) (hk:k<l.length):
  ∃c,bs[k]?=some c∧W.cell? ⟨b,k,none⟩=some (nrV c)∧(∀j,W.frozen? ⟨c,j,none⟩=false)∧(∀j (hj:j<l[k].length),W.cell? ⟨c,j,none⟩=some (.int .i64 l[k][j]))∧
   ∀j v,Own B w0 (W.setCell ⟨c,j,none⟩ (.int .i64 v)) (nrL b bs (setRow l k j v)++ss):=by
 have hkb:k<bs.length:=by omega
 have hkz:k<(bs.zip l).length:=by simp;omega
 have h1:Own B w0 W (nrR (bs.zip l)[k]::([segR b 69 (bs.map nrV)]++(((bs.zip l).eraseIdx k).map nrR++ss))):=Own.pick (hd:=[segR b 69 (bs.map nrV)]) (f:=nrR) (l:=bs.zip l) (ss:=ss) h k hkz;have e:(bs.zip l)[k]=(bs[k],l[k]):=by simp
 rw [e] at h1;obtain ⟨-,q2,q3⟩:=zdu h1.head;refine ⟨bs[k],by simp [hkb],?_,q3,fun j hj=> ?_,fun j v=> ?_⟩
 ·have:=(zdu (h.get 0 rfl)).2.1 k (by simp;omega)
  rw [this];simp [hkb]
 ·rw [q2 j (by simp [intC];exact hj)];simp [intC,hj]
 ·have h2:=h1.put j (.int .i64 v)
  have e2:(intC l[k]).set j (.int .i64 v)=intC (l[k].set j v):=by unfold intC;rw [List.map_set]
  rw [e2] at h2;have h3:=Own.unpick (hd:=[segR b 69 (bs.map nrV)]) (f:=nrR) (x:=(bs[k],l[k].set j v)) (ss:=ss) (l:=bs.zip l) k hkz h2;rw [zty hk (by simp [hkb])] at h3;exact h3
section
variable {B:Nat} {w0 w W W':World} {ss rs:List Res} {x:Np} {s s':Ns} {l l':Nt} {k i:Nat} {vb:Value} {bs:List Rq}
theorem NdIs.comRow (h:NdIs B w0 W x s l ss) (hk:k<s.c.f+1): ∃c,W.cell? ⟨x.co,k,none⟩=some (nrV c)∧(∀j,W.frozen? ⟨c,j,none⟩=false)∧(∀j,j<17→W.cell? ⟨c,j,none⟩=some (.int .i64 (rowAt s.com k j)))∧
  ∀j v,NdIs B w0 (W.setCell ⟨c,j,none⟩ (.int .i64 v)) x {s with com:=setRow s.com k j v} l ss:=by
 have hok:=h.ok;obtain ⟨v,rr,c,d,g⟩:=h.lens 11 (by omega) (by omega);have hkl:k<s.com.length:=by rw [hok.com];exact hk
 obtain ⟨q,h1,h2,h3,h4,h5⟩:=zx0 (Own.open (rs:=nrL x.co x.cos s.com) d) (by rw [c.cos,hok.com]) k hkl;have hlen:=hok.com2 _ (List.getElem_mem hkl);refine ⟨q,h2,h3,fun j hj=> ?_,fun j u=> ?_⟩
 ·rw [h4 j (by omega)]
  unfold rowAt;simp [List.getD_eq_getElem?_getD,hkl,hlen,hj]
 ·exact g _ {s with com:=setRow s.com k j u} v ss (joinR (nrL x.co x.cos (setRow s.com k j u))) {hok with com:=by simp only [zkq];exact hok.com,com2:=zkr hok.com2} {c with} rfl (Own.shut (rs:=nrL x.co x.cos (setRow s.com k j u)) (h5 j u))
theorem NdIs.preRow (h:NdIs B w0 W x s l ss) (hk:k<s.c.f+1): ∃c,W.cell? ⟨x.pr,k,none⟩=some (nrV c)∧(∀j,W.frozen? ⟨c,j,none⟩=false)∧(∀j,j<17→W.cell? ⟨c,j,none⟩=some (.int .i64 (rowAt s.pre k j)))∧
  ∀j v,NdIs B w0 (W.setCell ⟨c,j,none⟩ (.int .i64 v)) x {s with pre:=setRow s.pre k j v} l ss:=by
 have hok:=h.ok;obtain ⟨v,rr,c,d,g⟩:=h.lens 10 (by omega) (by omega);have hkl:k<s.pre.length:=by rw [hok.pre];exact hk
 obtain ⟨q,h1,h2,h3,h4,h5⟩:=zx0 (Own.open (rs:=nrL x.pr x.prs s.pre) d) (by rw [c.prs,hok.pre]) k hkl;have hlen:=hok.pre2 _ (List.getElem_mem hkl);refine ⟨q,h2,h3,fun j hj=> ?_,fun j u=> ?_⟩
 ·rw [h4 j (by omega)]
  unfold rowAt;simp [List.getD_eq_getElem?_getD,hkl,hlen,hj]
 ·exact g _ {s with pre:=setRow s.pre k j u} v ss (joinR (nrL x.pr x.prs (setRow s.pre k j u))) {hok with pre:=by simp only [zkq];exact hok.pre,pre2:=zkr hok.pre2} {c with} rfl (Own.shut (rs:=nrL x.pr x.prs (setRow s.pre k j u)) (h5 j u))
abbrev batMm (kind view inst seq:Int) (v:Value) (rs:List Rq):Mm:=⟨kind,0,view,inst,seq,0,v,rs,.slice none 0 0,[],.slice none 0 0,[],.slice none 0 0,[]⟩
theorem znj {kind view inst seq:Int} {v:Value} {bs:List Rq} (h:Own B w0 W (batR v bs::rs)):Own B w0 W (mmR (batMm kind view inst seq v bs) (batR v bs::rs)):=by
 have h0:Own B w0 W (redR v 6 bs.length (bs.flatMap zaf)::batR v bs::rs):=h.copy (by rw [zyn];exact List.mem_cons_self) rfl;have h1:=zfl 2 h0;have h2:Own B w0 W (ctsR []::_):=h1.mkCts (by simp);have h3:=zfl 5 h2;have h4:Own B w0 W (ptsR []::_):=h3.mkPts (by simp);exact zfl 4 h4
theorem zlk {kind view inst seq:Int} {v:Value} {bs:List Rq} (hb:bs.length≤4):MmOk (batMm kind view inst seq v bs):=⟨by simp;omega,by simp,by simp,by simp⟩
theorem zh0 {a1:Option Addr} {c1:Nat} {kind seq:Int} (h:NdIs B w0 W x s l (batR (.slice a1 bs.length c1) bs::ss)) (hk:k<s.c.f+1) (hb:bs.length≤4) (hn:l.length≤900000000) (ho:s.out.length≤900000000):
  Calls Tryz.prog 221 #[ptrV x.p,.int .i64 kind,.int .i64 k,.int .i64 seq,.slice a1 bs.length c1] W fun e w'=>e= .returned (.tuple #[])∧NdIs B w0 w' x (zch kind k seq bs (s,l)).1 (zch kind k seq bs (s,l)).2 (batR (.slice a1 bs.length c1) bs::ss):=by
 have hcap:=h.caps.1;obtain ⟨i,hi,-⟩:=h.iAt hk;obtain ⟨fin,hfin⟩: ∃fin,fin=zch kind k seq bs (s,l):=⟨_,rfl⟩;have HFIN:Hid (fin=(zbp (sendS (s,l) (balM' kind s.view k seq bs)).1 k (voteI (insAt (sendS (s,l) (balM' kind s.view k seq bs)).1 k) kind seq (sendS (s,l) (balM' kind s.view k seq bs)).1.id (sendN (s,l) (balM' kind s.view k seq bs)) bs),(sendS (s,l) (balM' kind s.view k seq bs)).2)):=zq (by rw [hfin];rfl);rw [←hfin];have HSE:=zq (ziu (m:=batMm kind s.view k seq (.slice a1 bs.length c1) bs) (h.onSide (ss':=mmR (batMm kind s.view k seq (.slice a1 bs.length c1) bs) (batR (.slice a1 bs.length c1) bs::ss)) (fun r hr=>znj (rs:=ss++[r]) hr)) (zlk hb) hn ho);have c29:=h.cell 29 rfl (by decide);rw [show (batMm kind s.view k seq (.slice a1 bs.length c1) bs).ms=balM' kind s.view k seq bs from rfl] at HSE;obtain ⟨o,hso,-,-⟩:=zdp (s,l) (balM' kind s.view k seq bs);generalize sendS (s,l) (balM' kind s.view k seq bs)=p1 at*;generalize sendN (s,l) (balM' kind s.view k seq bs)=sn at*;obtain ⟨s1,l1⟩:=p1;simp only [Prod.mk.injEq] at hso;have hcf:s1.c.f=s.c.f:=by rw [hso.1]
 simp only at HSE HFIN;have HI:=zq hi;have hk0:(0:Int)≤(k:Int):=by omega
 have hkI:(k:Int)<(s1.c.f:Int)+1:=by omega
 have hcI:(s1.c.f:Int)+1≤(x.ic:Int):=by omega
 clear h hfin hso hi;go_enter Tryz.func221,Tryz.ntmps221
 go_wp2_with fail
 refine HSE.out.mono ?_;rintro e w2 ⟨rfl,h2⟩;have h3:NdIs B w0 w2 x s1 l1 (batR (.slice a1 bs.length c1) bs::ss):=h2.drop.drop.drop.drop.drop.drop;have d18:=h3.drew.cell 18 rfl (by decide);have d15:=h3.drew.cell 15 rfl (by decide);have di:=h3.drew.instAt k HI.out;have HV:=zq (nd_vote h3.drew (by omega) HI.out hb kind seq s1.id sn);clear h2 h3 HSE c29
 go_upto_region 1 with fail
 refine Mix.wp_text2 (by kernel_rfl) (by kernel_rfl) ?_
 go_wp2_with fail
 with_reducible refine HV.out.mono ?_
 rintro e w4 ⟨rfl,h4⟩;have HF:Hid (NdIs B w0 w4 x fin.1 fin.2 (batR (.slice a1 bs.length c1) bs::ss)):=zq (by rw [HFIN.out];exact h4);clear h4 HV d18 d15 di HFIN
 go_wp2_with fail
 refine ⟨by rfl,?_⟩
 go_wp2_with fail
 refine bodyPost_end (results_none rfl _ _ _) rfl ?_;exact ⟨rfl,HF.out⟩
end
end Go.Proofs.YtannckelmojkoaaGreat
namespace Go.Proofs.YtannckelmojkoaaGreat
open Go.RowKit Go.Heap
structure KeepN (a b:Ns):Prop where
 c:b.c=a.c
 id:b.id=a.id
 now:b.now=a.now
 vo:b.vo=a.vo
 gd:b.gd=a.gd
 pts:b.pts=a.pts
 view:b.view=a.view
 voted:b.voted=a.voted
 used:b.used=a.used
 bad:b.bad=a.bad
 stale:b.stale=a.stale
 shut:b.shut=a.shut
 full:b.full=a.full
theorem KeepN.refl (a:Ns):KeepN a a:=by constructor<;>rfl
theorem KeepN.trans {a b d:Ns} (h:KeepN a b) (g:KeepN b d):KeepN a d:=⟨g.c.trans h.c,g.id.trans h.id,g.now.trans h.now,g.vo.trans h.vo,g.gd.trans h.gd,g.pts.trans h.pts,g.view.trans h.view,g.voted.trans h.voted,g.used.trans h.used,g.bad.trans h.bad,g.stale.trans h.stale,g.shut.trans h.shut,g.full.trans h.full⟩
structure Grow (n:Nat) (p q:NSt):Prop where
 out:q.1.out.length≤p.1.out.length+n
 nt:q.2.length≤p.2.length+n
 k:KeepN p.1 q.1
theorem Grow.refl (p:NSt):Grow 0 p p:=⟨Nat.le_refl _,Nat.le_refl _,.refl _⟩
theorem Grow.trans {n m:Nat} {p q r:NSt} (h:Grow n p q) (g:Grow m q r):Grow (n+m) p r:=
 ⟨by have:=h.out;have:=g.out;omega,by have:=h.nt;have:=g.nt;omega,h.k.trans g.k⟩
theorem Grow.mono {n m:Nat} {p q:NSt} (h:Grow n p q) (hm:n≤m):Grow m p q:=⟨by have:=h.out;omega,by have:=h.nt;omega,h.k⟩
theorem znc (p:NSt) (m:Ms) (hf:p.1.c.f≤4):Grow 13 p (sendS p m):=by
 obtain ⟨o,e,h1,h2⟩:=zdp p m;refine ⟨?_,by omega,by rw [e];constructor<;>rfl⟩
 rw [e];simp only [List.length_append];omega
theorem zfi (kind:Int) (k:Nat) (seq:Int) (rs:List Rq) (p:NSt) (hf:p.1.c.f≤4):Grow 13 p (zch kind k seq rs p):=by
 obtain ⟨h1,h2,h3⟩:=znc p (balM' kind p.1.view k seq rs) hf;exact ⟨h1,h2,h3.trans (by constructor<;>rfl)⟩
theorem zos (p:NSt) (h4:(runC p.1).rs.length≤4):Grow 4 p (zhb p):=by
 obtain ⟨s,l⟩:=p;obtain ⟨o,l',t',e,h1,h2⟩:=zhc s l;simp only at h4;rw [e];exact ⟨by simp only [List.length_append];omega,by simp only;omega,by constructor<;>rfl⟩
theorem zo8 {st:In} {seq:Int} (h:prepI st seq=none):zbi st seq=st:=by
 unfold zbi;rw [h];split<;>simp_all
theorem zqc {st:In} {seq:Int} (h:commI st seq=none):zbk st seq=st:=by
 unfold zbk;rw [h];split<;>simp_all
theorem pl_seq {st:In} {seq:Int} {p:Pl} (h:plAt st seq=some p):1≤seq∧seq≤16:=by
 unfold plAt idx at h;split at h
 ·assumption
 ·simp at h
theorem prep_seq {st:In} {seq:Int} {c:Cp} (h:prepI st seq=some c):1≤seq∧seq≤16:=by
 unfold prepI at h;cases hp:plAt st seq with
 | none=>rw [hp] at h;simp at h
 | some p=>exact pl_seq hp
theorem zjw {α:Type} (p:α→Bool) (g:α→α) (hg: ∀a,p (g a)=true): ∀(l:List α) (k:Nat) (a:α),l[k]?=some a→p a=false→l.countP p+1≤(l.modify k g).countP p
 | [],k,a,h,_=>by simp at h
 | b::l,0,a,h,ha=>by
  simp only [List.getElem?_cons_zero,Option.some.injEq] at h;subst h;simp only [List.modify_zero_cons,List.countP_cons,ha,hg];simp
 | b::l,k+1,a,h,ha=>by
  simp only [List.modify_succ_cons,List.countP_cons];have:=zjw p g hg l k a (by simpa using h) ha;omega
theorem zqb {st:In} {seq:Int} {c:Cp} (h:commI st seq=some c):st.l.countP (·.done)+1≤(zbk st seq).l.countP (·.done):=by
 have h':=h;unfold commI at h';unfold zbk;cases hi:idx seq with
 | none=>unfold plAt at h';rw [hi] at h';simp at h'
 | some k=>
  rw [h];have hp:plAt st seq=st.l[k]?:=by unfold plAt;rw [hi];rfl
  rw [hp] at h';cases hq:st.l[k]? with
  | none=>rw [hq] at h';simp at h'
  | some p=>
   rw [hq] at h';simp only at h';split at h'
   ·simp at h'
   ·rename_i hd
    exact zjw (·.done) (fun p=> {p with done:=true,dw:=c}) (fun _=>rfl) _ _ _ hq (by simpa using hd)
theorem zs1 {s:Ns} {k:Nat} {st:In} (h:k<s.ins.length):insAt (zbp s k st) k=st:=by unfold insAt zbp;simp [List.getD_eq_getElem?_getD,h]
theorem zfp {s:Ns} {k:Nat} (h:k<s.ins.length):zbp s k (insAt s k)=s:=by
 rw [zbc s k h];unfold zbp;rw [set_self]
def look1 (k:Nat) (seq:Int) (p:NSt):NSt:=match prepI (insAt p.1 k) seq with
 | some c=>zch 5 k seq c.rs ({zbp p.1 k (zbi (insAt p.1 k) seq) with com:=setRow p.1.com k seq.toNat (p.1.view+1)},p.2)
 | none=>p
def look2 (k:Nat) (seq:Int) (p:NSt):NSt:=match commI (insAt p.1 k) seq with
 | some c=>doneS k c.rs (zbp p.1 k (zbk (insAt p.1 k) seq),p.2)
 | none=>p
theorem zra (k:Nat) (seq:Int) (p:NSt):lookS k seq p=look2 k seq (look1 k seq p):=rfl
theorem zj1 (k:Nat) (seq:Int) (p:NSt) (hf:p.1.c.f≤4):Grow 13 p (look1 k seq p):=by
 unfold look1;split
 ·have:=zfi 5 k seq (by assumption:Cp).rs ({zbp p.1 k (zbi (insAt p.1 k) seq) with com:=setRow p.1.com k seq.toNat (p.1.view+1)},p.2) hf
  exact ⟨this.out,this.nt,KeepN.trans (by constructor<;>rfl) this.k⟩
 ·exact (Grow.refl p).mono (by omega)
section
variable {B:Nat} {w0 w W W':World} {ss rs:List Res} {x:Np} {s s':Ns} {l l':Nt} {k i:Nat} {vb:Value} {bs:List Rq}
def CmtC (B:Nat) (w0:World) (x:Np):Prop:= ∀ {W:World} {s:Ns} {l:Nt} {k:Nat} {ao:Option Addr} {bcap:Nat} {bs:List Rq} {ss:List Res},NdIs B w0 W x s l (batR (.slice ao bs.length bcap) bs::ss)→k<s.c.f+1→bs.length≤4→(s.mt.getD k (0,0)).1+bs.length≤4*((s.ins.getD k noIn).l.countP (·.done):Nat)→l.length≤800000000→s.out.length≤800000000→
  Calls Tryz.prog 241 #[ptrV x.p,.int .i64 k,.slice ao bs.length bcap] W fun e w'=>e= .returned (.tuple #[])∧NdIs B w0 w' x (doneS k bs (s,l)).1 (doneS k bs (s,l)).2 (batR (.slice ao bs.length bcap) bs::ss)
theorem zrm {seq:Int} (HQ:commI (insAt (look1 k seq (s,l)).1 k) seq=none∨CmtC B w0 x) (h:NdIs B w0 W x s l ss) (hk:k<s.c.f+1) (hn:l.length≤700000000) (ho:s.out.length≤700000000):
  Calls Tryz.prog 222 #[ptrV x.p,.int .i64 k,.int .i64 seq] W fun e w'=>e= .returned (.tuple #[])∧NdIs B w0 w' x (lookS k seq (s,l)).1 (lookS k seq (s,l)).2 ss:=by
 have hcap:=h.caps;have hkc:=h.caps.2.2.2.2.1;have hki:k<s.ins.length:=by rw [h.ok.ins];exact hk
 obtain ⟨i,hi,-⟩:=h.iAt hk;have HI:=zq hi;have HSM:Hid (InSm (insAt s k)):=zq (by rw [zbc s k hki];exact (h.ok.insk k hki).2.2.2);have HV:=zq (And.intro h.ok.view0 h.ok.view1);have HG:=zq (zj1 k seq (s,l) h.ok.c.f2);rw [zra];obtain ⟨p1,hp1⟩: ∃p1,p1=look1 k seq (s,l):=⟨_,rfl⟩;obtain ⟨fin,hfin⟩: ∃fin,fin=look2 k seq p1:=⟨_,rfl⟩;rw [←hp1] at HG HQ⊢;rw [←hfin];have HQ:=zq HQ;have HP1:=zq hp1;have HFIN:=zq hfin;have H0:=zq h;have c18:=h.cell 18 rfl (by decide);have ci:=h.instAt k hi;have HPR:=zq (zo0 h hk hi seq);obtain ⟨ok,hok⟩: ∃ok,ok=(prepI (insAt s k) seq).isSome:=⟨_,rfl⟩;rw [←hok] at HPR;have HOK:=zq hok;clear hok;have hk0:(0:Int)≤(k:Int):=by omega
 have hkI:(k:Int)<(s.c.f:Int)+1:=by omega
 have hcI:(s.c.f:Int)+1≤(x.ic:Int):=by omega
 have hcK:(s.c.f:Int)+1≤(x.cok:Int):=by omega
 clear h hp1 hfin hi hcap;go_enter Tryz.func222,Tryz.ntmps222
 go_wp2_with fail
 with_reducible refine HPR.out.mono ?_
 rintro e w2 ⟨c,rfl,hc,h2⟩;obtain ⟨a1,k1,e1⟩:=hc.vb;obtain ⟨a2,k2,e2⟩:=hc.vv;have HCP:=zq hc.cp;have HCN:=zq hc.vn;clear hc HPR c18 ci;obtain ⟨view,inst,sq,vb,vv,bs,vs⟩:=c;simp only at e1 e2 HCN;subst e1 e2;have H3:=zq (h2.box (ctO view inst sq (.slice a1 bs.length k1) (.slice a2 vs.length k2)));clear h2
 go_upto_if 22 with fail
 generalize w2.heap.size=e0 at*;generalize w2.alloc _=w3 at*
 go_cut [] (fun wx=>Hid (NdIs B w0 wx x p1.1 p1.2 ss))
 case first=>
  cases ok with
  | false=>
   have hpr:prepI (insAt s k) seq=none:=by have:=HOK.out;cases h:prepI (insAt s k) seq with | none=>rfl | some c=>rw [h] at this;simp at this
   have HF:Hid (NdIs B w0 w3 x p1.1 p1.2 ss):=zq (by
    have h4:=H3.out.drop.drop.drop;rw [zo8 hpr,zfp hki] at h4;rw [HP1.out];unfold look1;simp only;rw [hpr];exact h4)
   clear H3 HCP HP1 hpr HOK
   go_wp2_with fail
   go_meet
   exact HF
  | true=>
   obtain ⟨c0,hpr⟩: ∃c0,prepI (insAt s k) seq=some c0:=Option.isSome_iff_exists.1 HOK.out.symm;obtain ⟨q1,q2⟩:=prep_seq hpr;obtain ⟨sn,hsn⟩: ∃sn:Nat,seq=sn:=⟨seq.toNat,by omega⟩;have hrs:bs=c0.rs:=by have:=HCP.out;rw [hpr] at this;exact congrArg Cp.rs this
   have hb4:bs.length≤4:=by rw [hrs];exact zse HSM.out hpr
   have HE:Hid (p1=zch 5 k seq bs ({zbp s k (zbi (insAt s k) seq) with com:=setRow s.com k seq.toNat (s.view+1)},l)):=zq (by rw [HP1.out];unfold look1;simp only;rw [hpr,hrs]);clear hrs hpr HP1 HCP HOK;subst hsn;rw [Int.toNat_natCast] at HE;obtain ⟨q,y1,z1,y2,hput⟩:=H3.out.comRow (k:=k) hk;have hsn0:(0:Int)≤(sn:Int):=by omega
   have hsnI:(sn:Int)<17:=by omega
   have c27:w3.cell? ⟨x.p,27,none⟩=some (slI x.co (s.c.f+1) x.cok):=H3.out.cell 27 rfl (by decide);have c29:w3.cell? ⟨x.p,29,none⟩=some (.int .i64 s.view):=H3.out.cell 29 rfl (by decide);have hvw:IntKind.i64.wrap (s.view+1)=s.view+1:=IntWalk.i64_in _ (by have:=HV.out;omega);have y3:w3.drew.cell? ⟨q,sn,none⟩=some (.int .i64 (rowAt s.com k sn)):=y2 sn (by omega);have z3:w3.drew.frozen? ⟨q,sn,none⟩=false:=z1 sn;obtain ⟨s2,hs2⟩: ∃s2:Ns,s2= {zbp s k (zbi (insAt s k) sn) with com:=setRow s.com k sn (s.view+1)}:=⟨_,rfl⟩;rw [←hs2] at HE;have H4:Hid (NdIs B w0 (w3.setCell ⟨q,sn,none⟩ (.int .i64 (s.view+1))).drew x s2 l (blk e0 (ctO view inst sq (.slice a1 bs.length k1) (.slice a2 vs.length k2))::batR (.slice a1 bs.length k1) bs::redR (.slice a2 vs.length k2) 2 vs.length (zan vs)::ss)):=zq (by rw [hs2];exact (hput sn (s.view+1)).drew);have hk2:k<s2.c.f+1:=by rw [hs2];exact hk
   have ho2:s2.out.length≤900000000:=by rw [hs2];exact Nat.le_trans ho (by omega)
   clear hs2;have y1':w3.cell? ⟨x.co,k,none⟩=some (nrV q):=y1;clear hput z1 y2 y1 H3
   go_wp2_with fail
   go_region
   all_goals
    generalize World.drew (World.setCell _ _ _)=w4 at*;obtain ⟨r4,hs4,-⟩:=H4.out.side;have y4:=zaa (hs4.blkAt 0 rfl) 3 rfl;have HB:=zq (zh0 (kind:=5) (seq:=sn) (H4.out.perm (.swap _ _ _)) hk2 hb4 (by omega) ho2);rw [←HE.out] at HB;clear hs4 H4 HE y1' y3 z3 c27 c29
    go_wp2_with fail
    with_reducible refine HB.out.mono ?_
    rintro e w5 ⟨rfl,h5⟩;have HF:=zq h5.drop.drop.drop;clear h5 HB y4
    go_wp2_with fail
    go_meet
    exact HF
 case rest=>
  have H1:=hcut;clear hcut H3 H0 HCP HOK HP1 HSM HCN;obtain ⟨g1,g2,g3⟩:=HG.out;have g3:=g3.c;obtain ⟨s1,l1⟩:=p1;simp only at g1 g2 g3 H1 HFIN;have hk1:k<s1.c.f+1:=by rw [g3];exact hk
  have hki1:k<s1.ins.length:=by rw [H1.out.ok.ins];exact hk1
  have d18:wc.cell? ⟨x.p,18,none⟩=some (slI x.ib (s.c.f+1) x.ic):=by have:=H1.out.cell 18 rfl (by decide);rw [g3] at this;exact this
  have di:=H1.out.instAt k HI.out;have HCM:=zq (zri H1.out hk1 HI.out seq);have HSM1:Hid (InSm (insAt s1 k)):=zq (by rw [zbc s1 k hki1];exact (H1.out.ok.insk k hki1).2.2.2);obtain ⟨ok2,hok2⟩: ∃ok2,ok2=(commI (insAt s1 k) seq).isSome:=⟨_,rfl⟩;rw [←hok2] at HCM;have HOK2:=zq hok2;have HMT:Hid ((s1.mt.getD k (0,0)).1≤4*((insAt s1 k).l.countP (·.done):Nat)):=zq (by
   have hml:k<s1.mt.length:=by rw [H1.out.ok.mt];exact hk1
   have:=(H1.out.ok.mtn k hml hki1).2.1;rw [zbc s1 k hki1]
   simpa [List.getD_eq_getElem?_getD,hml] using this)
  have HCF:=zq g3;clear hok2 H1 g3
  go_wp2_with fail
  with_reducible refine HCM.out.mono ?_
  rintro e w6 ⟨c,rfl,hc,h6⟩;obtain ⟨a1,k1,e1⟩:=hc.vb;obtain ⟨a2,k2,e2⟩:=hc.vv;have HCP:=zq hc.cp;clear hc HCM d18 di;obtain ⟨view,inst,sq,vb,vv,bs,vs⟩:=c;simp only at e1 e2;subst e1 e2;have H7:=zq (h6.box (ctO view inst sq (.slice a1 bs.length k1) (.slice a2 vs.length k2)));clear h6
  go_upto_if 55 with fail
  generalize w6.heap.size=e1 at*;generalize w6.alloc _=w7 at*;cases ok2 with
  | false=>
   have hcm:commI (insAt s1 k) seq=none:=by have:=HOK2.out;cases h:commI (insAt s1 k) seq with | none=>rfl | some c=>rw [h] at this;simp at this
   have HF:Hid (NdIs B w0 w7 x fin.1 fin.2 ss):=zq (by
    have h4:=H7.out.drop.drop.drop;rw [zqc hcm,zfp hki1] at h4;rw [HFIN.out];unfold look2;simp only;rw [hcm];exact h4)
   clear H7 HCP HFIN hcm HOK2 HMT HCF HSM1
   go_wp2_with fail
   refine bodyPost_end (results_none rfl _ _ _) rfl ?_;exact ⟨rfl,HF.out⟩
  | true=>
   obtain ⟨c0,hcm⟩: ∃c0,commI (insAt s1 k) seq=some c0:=Option.isSome_iff_exists.1 HOK2.out.symm;have HCC:CmtC B w0 x:=by
    rcases HQ.out with hq | hq
    ·exact absurd (hq.symm.trans hcm) (by simp)
    ·exact hq
   have hrs:bs=c0.rs:=by have:=HCP.out;rw [hcm] at this;exact congrArg Cp.rs this
   have hb4:bs.length≤4:=by rw [hrs];exact zxe HSM1.out hcm
   have HE:Hid (fin=doneS k bs (zbp s1 k (zbk (insAt s1 k) seq),l1)):=zq (by rw [HFIN.out];unfold look2;simp only;rw [hcm,hrs]);have hdn:=zqb hcm;have hmt:=HMT.out;obtain ⟨r7,hs7,-⟩:=H7.out.side;have y4:=zaa (hs7.blkAt 0 rfl) 3 rfl;have HC:=zq (HCC (k:=k) (H7.out.perm (.swap _ _ _)) (by exact hk1) hb4 (by
    have e:(zbp s1 k (zbk (insAt s1 k) seq)).ins.getD k noIn=zbk (insAt s1 k) seq:=zs1 hki1;rw [e];show (s1.mt.getD k (0,0)).1+_≤_;omega) (by omega) (by show s1.out.length≤_;omega))
   rw [←HE.out] at HC;clear HCC hs7 H7 HE hdn hmt HMT hcm hrs HCP HFIN HOK2 HSM1 HCF
   go_wp2_with fail
   with_reducible refine HC.out.mono ?_
   rintro e w8 ⟨rfl,h8⟩;have HF:=zq h8.drop.drop.drop;clear h8 HC y4
   go_wp2_with fail
   refine bodyPost_end (results_none rfl _ _ _) rfl ?_;exact ⟨rfl,HF.out⟩
end
end Go.Proofs.YtannckelmojkoaaGreat
namespace Go.Proofs.YtannckelmojkoaaGreat
open Go.RowKit Go.Heap
theorem preI_no {st:In} {seq:Int} {rs:List Rq} (h:preB st seq=false):preI st seq rs=st:=by
 unfold preI;split
 ·rfl
 ·rw [h];rfl
section
variable {B:Nat} {w0 w W W':World} {ss rs:List Res} {x:Np} {s s':Ns} {l l':Nt} {k i:Nat}
def zi7 (k:Nat) (seq:Int) (p:NSt):Prop:=commI (insAt (look1 k seq (zch 4 k seq (zbl (insAt p.1 k) seq).1 p)).1 k) seq=none
theorem zl1 {seq:Int} (HQ:zi7 k seq (s,l)∨CmtC B w0 x) (h:NdIs B w0 W x s l ss) (hk:k<s.c.f+1) (hn:l.length≤600000000) (ho:s.out.length≤600000000):
  Calls Tryz.prog 161 #[ptrV x.p,.int .i64 k,.int .i64 seq] W fun e w'=>e= .returned (.tuple #[])∧NdIs B w0 w' x (zcz k seq (s,l)).1 (zcz k seq (s,l)).2 ss:=by
 have hcap:=h.caps.1;have hki:k<s.ins.length:=by rw [h.ok.ins];exact hk
 obtain ⟨i,hi,-⟩:=h.iAt hk;have HSM:Hid ((zbl (insAt s k) seq).1.length≤4):=zq (zm3 (by rw [zbc s k hki];exact (h.ok.insk k hki).2.2.2) seq);obtain ⟨fin,hfin⟩: ∃fin,fin=zcz k seq (s,l):=⟨_,rfl⟩;have HFIN:Hid (fin=lookS k seq (zch 4 k seq (zbl (insAt s k) seq).1 (s,l))):=zq (by rw [hfin];rfl);rw [←hfin];have HQ:Hid (commI (insAt (look1 k seq (zch 4 k seq (zbl (insAt s k) seq).1 (s,l))).1 k) seq=none∨CmtC B w0 x):=zq HQ;have HG:=zq (zfi 4 k seq (zbl (insAt s k) seq).1 (s,l) h.ok.c.f2);have c18:=h.cell 18 rfl (by decide);have ci:=h.instAt k hi;have HCH:=zq (zvd h hk hi seq);have HK:=zq hk;have hk0:(0:Int)≤(k:Int):=by omega
 have hkI:(k:Int)<(s.c.f:Int)+1:=by omega
 have hcI:(s.c.f:Int)+1≤(x.ic:Int):=by omega
 generalize (zbl (insAt s k) seq).1=bs at*;generalize (zbl (insAt s k) seq).2=is at*;clear h hfin hi hcap;go_enter Tryz.func161,Tryz.ntmps161
 go_wp2_with fail
 with_reducible refine HCH.out.mono ?_
 rintro e w2 ⟨a1,c1,rfl,h2⟩;have HB:=zq (zh0 (kind:=4) (seq:=seq) h2 HK.out HSM.out (by omega) (by omega));clear h2 HCH c18 ci
 go_wp2_with fail
 with_reducible refine HB.out.mono ?_
 rintro e w3 ⟨rfl,h3⟩;have h4:=h3.drop;have hg:=HG.out;generalize zch 4 k seq bs (s,l)=p1 at*;obtain ⟨s1,l1⟩:=p1;obtain ⟨g1,g2,g3⟩:=hg;have g3:=g3.c;simp only at g1 g2 g3 h4;have HL:=zq (zrm (k:=k) (seq:=seq) HQ.out h4 (by rw [g3];exact HK.out) (by omega) (by omega));rw [←HFIN.out] at HL;clear h3 h4 HB hkI hcI HG HSM HK HQ g1 g2 g3
 go_wp2_with fail
 with_reducible refine HL.out.mono ?_
 rintro e w5 ⟨rfl,h5⟩;have HF:=zq h5;clear h5 HL
 go_wp2_with fail
 refine bodyPost_end (results_none rfl _ _ _) rfl ?_;exact ⟨rfl,HF.out⟩
end
end Go.Proofs.YtannckelmojkoaaGreat
