/- Parts of the proof, one behind the other. -/
import Derived.Test.YtannckelmojkoaaGreatOrdB29
import Derived.Laws.ComplexArith
import Derived.Great.Walk
set_option maxHeartbeats 32000000
set_option maxRecDepth 100000
set_option linter.unusedVariables false
set_option linter.unusedSimpArgs false
namespace Go.Heap
open Ieee
theorem fl_lp:double.leastPlace= -1074:=by decide
theorem fl_bin:double.binade=4503599627370496:=by decide
theorem fl_inf:double.infRung=9218868437227405312:=by decide
theorem fl_sw:double.signWeight=9223372036854775808:=by decide
theorem fl_word (r:Nat):double.word false r=r:=by unfold Format.word;rw [if_neg Bool.false_ne_true]
theorem zyp {n:Nat} (h0:n≠0) (hn:n<9007199254740992):n.log2≤52:=by
 have:=(Nat.log2_lt (k:=53) h0).2 hn
 omega
theorem fl_cut (way:Toward) (neg:Bool) (n d:Nat) (hd:d≤(n*2^d).log2+2):way.cut neg (n*2^d) d=n:=by
 unfold Toward.cut
 rw [Nat.min_eq_left hd,Nat.one_shiftLeft]
 have hp:0<2^d:=Nat.two_pow_pos _
 have h1:n*2^d/2^d=n:=Nat.mul_div_cancel _ hp
 have h2:n*2^d%2^d=0:=Nat.mul_mod_left _ _
 simp only [h1,h2]
 cases way<;>simp<;>omega
theorem zqv {n:Nat} (h0:n≠0) (k:Nat):(n*2^k).log2=n.log2+k:=by
 have h1:2^n.log2≤n:=Nat.log2_self_le h0
 have h2:n<2^(n.log2+1):=Nat.lt_log2_self
 have hz:n*2^k≠0:=Nat.mul_ne_zero h0 (Nat.pos_iff_ne_zero.1 (Nat.two_pow_pos k))
 refine Nat.le_antisymm ?_ ?_
 ·have:(n*2^k).log2<n.log2+k+1:=(Nat.log2_lt hz).2 (by
   rw [show n.log2+k+1=(n.log2+1)+k by omega,Nat.pow_add]
   exact Nat.mul_lt_mul_of_pos_right h2 (Nat.two_pow_pos k))
  omega
 ·refine (Nat.le_log2 hz).2 ?_
  rw [Nat.pow_add]
  exact Nat.mul_le_mul_right _ h1
def fw (n:Nat):Nat:=if n=0 then 0 else (n.log2+1022)*4503599627370496+n*2^(52-n.log2)
theorem zxe {n:Nat} (h0:n≠0) (hn:n<9007199254740992):4503599627370496≤n*2^(52-n.log2)∧n*2^(52-n.log2)<9007199254740992:=by
 have hl:=zyp h0 hn
 have h1:2^n.log2≤n:=Nat.log2_self_le h0
 have h2:n<2^(n.log2+1):=Nat.lt_log2_self
 have e1:4503599627370496=2^n.log2*2^(52-n.log2):=by rw [←Nat.pow_add,show n.log2+(52-n.log2)=52 by omega]
 have e2:9007199254740992=2^(n.log2+1)*2^(52-n.log2):=by rw [←Nat.pow_add,show n.log2+1+(52-n.log2)=53 by omega]
 rw [e1,e2]
 exact ⟨Nat.mul_le_mul_right _ h1,Nat.mul_lt_mul_of_pos_right h2 (Nat.two_pow_pos _)⟩
theorem zxf {n:Nat} (hn:n<9007199254740992) (k:Nat):double.nearest false (n*2^k) (-(k:Int))=fw n:=by
 unfold fw
 by_cases h0:n=0
 ·subst h0;rw [Nat.zero_mul,if_pos rfl];unfold Format.nearest;rw [if_pos rfl];rfl
 ·rw [if_neg h0]
  have hl:=zyp h0 hn
  have hz:n*2^k≠0:=Nat.mul_ne_zero h0 (Nat.pos_iff_ne_zero.1 (Nat.two_pow_pos k))
  obtain ⟨k1,k2⟩:=zxe h0 hn
  have hlm:=zqv h0 k
  have hlast:max (-(k:Int)+((n*2^k).log2:Nat)-(double.fractionBits:Nat)) double.leastPlace=(n.log2:Int)-52:=by
   rw [hlm,fl_lp,show (double.fractionBits:Nat)=52 from rfl]
   omega
  unfold Format.nearest
  rw [if_neg hz]
  simp only [hlast]
  have hkept:Toward.even.cut false ((n*2^k)<<<(-(k:Int)-((n.log2:Int)-52)).toNat) ((n.log2:Int)-52- -(k:Int)).toNat=n*2^(52-n.log2):=by
   by_cases hc:k≤52-n.log2
   ·rw [show ((n.log2:Int)-52- -(k:Int)).toNat=0 by omega,show (-(k:Int)-((n.log2:Int)-52)).toNat=52-n.log2-k by omega,Nat.shiftLeft_eq,Nat.mul_assoc,←Nat.pow_add,show k+(52-n.log2-k)=52-n.log2 by omega]
    have:=fl_cut .even false (n*2^(52-n.log2)) 0 (by omega)
    simpa using this
   ·rw [show (-(k:Int)-((n.log2:Int)-52)).toNat=0 by omega,show ((n.log2:Int)-52- -(k:Int)).toNat=k+n.log2-52 by omega,Nat.shiftLeft_zero]
    have e:n*2^k=n*2^(52-n.log2)*2^(k+n.log2-52):=by rw [Nat.mul_assoc,←Nat.pow_add];congr 2;omega
    have hb:k+n.log2-52≤(n*2^(52-n.log2)*2^(k+n.log2-52)).log2+2:=by rw [←e,hlm];omega
    rw [e]
    exact fl_cut _ _ _ _ hb
  rw [hkept,fl_word,fl_lp,show ((n.log2:Int)-52- -1074).toNat=n.log2+1022 by omega,fl_bin,fl_inf]
  generalize n*2^(52-n.log2)=q at*
  generalize n.log2=L at*
  exact Nat.min_eq_left (by omega)
theorem fl_read {n:Nat} (h0:n≠0) (hn:n<9007199254740992):double.read (fw n)= .number false (n*2^(52-n.log2)) (-((52-n.log2:Nat):Int)):=by
 have hl:=zyp h0 hn
 obtain ⟨k1,k2⟩:=zxe h0 hn
 unfold fw
 rw [if_neg h0]
 generalize hk:n*2^(52-n.log2)=q at*
 generalize n.log2=L at*
 unfold Format.read
 simp only [fl_sw,fl_bin,fl_inf,fl_lp]
 have hm:((L+1022)*4503599627370496+q)%4503599627370496=q-4503599627370496:=by omega
 have hd:((L+1022)*4503599627370496+q)/4503599627370496=L+1023:=by omega
 rw [Nat.mod_eq_of_lt (by omega),Nat.div_eq_of_lt (by omega),if_neg (by omega),if_pos (by omega),hm,hd]
 have e1:4503599627370496+(q-4503599627370496)=q:=by omega
 have e2:(-1074+((L+1023-1:Nat):Int))= -((52-L:Nat):Int):=by omega
 rw [e1,e2]
 rfl
theorem zyq:double.read (fw 0)= .number false 0 (-1074):=by decide
theorem zxd {n:Nat} (hn:n<9007199254740992): ∃k:Nat,double.read (fw n)= .number false (n*2^k) (-(k:Int)):=by
 by_cases h0:n=0
 ·subst h0;obtain ⟨k,hk⟩: ∃k:Nat,k=1074:=⟨_,rfl⟩;exact ⟨k,by rw [Nat.zero_mul,zyq,hk];rfl⟩
 ·exact ⟨_,fl_read h0 hn⟩
theorem fl_add {a b:Nat} (h:a+b<9007199254740992):double.add (fw a) (fw b)=some (fw (a+b)):=by
 obtain ⟨i,hi⟩:=zxd (n:=a) (by omega)
 obtain ⟨j,hj⟩:=zxd (n:=b) (by omega)
 unfold Format.add
 rw [hi,hj]
 unfold Datum.sum
 simp only [Option.map_some]
 have hs: ∀(m k:Nat),signed false m k=((m*2^k:Nat):Int):=fun m k=>by unfold signed;rw [if_neg (by simp),Nat.shiftLeft_eq]
 have key: ∀i j:Nat,j≤i→(signed false (a*2^i) (-(i:Int)-min (-(i:Int)) (-(j:Int))).toNat+signed false (b*2^j) (-(j:Int)-min (-(i:Int)) (-(j:Int))).toNat)=(((a+b)*2^i:Nat):Int)∧min (-(i:Int)) (-(j:Int))= -(i:Int):=by
  intro i j hij
  have hm:min (-(i:Int)) (-(j:Int))= -(i:Int):=by omega
  refine ⟨?_,hm⟩
  rw [hm,hs,hs,show (-(i:Int)- -(i:Int)).toNat=0 by omega,show (-(j:Int)- -(i:Int)).toNat=i-j by omega,Nat.mul_assoc b,←Nat.pow_add,show j+(i-j)=i by omega,Nat.pow_zero,Nat.mul_one,Nat.add_mul]
  exact (Int.natCast_add _ _).symm
 have fin: ∀k:Nat,double.write (.number (if (((a+b)*2^k:Nat):Int)=0 then (false&&false) else decide ((((a+b)*2^k:Nat):Int)<0)) (((a+b)*2^k:Nat):Int).natAbs (-(k:Int)))=fw (a+b):=by
  intro k
  have hf:(if (((a+b)*2^k:Nat):Int)=0 then (false&&false) else decide ((((a+b)*2^k:Nat):Int)<0))=false:=by
   split
   ·rfl
   ·simp only [decide_eq_false_iff_not];omega
  rw [hf,Int.natAbs_natCast]
  exact zxf (by omega) k
 by_cases hij:j≤i
 ·obtain ⟨e1,e2⟩:=key i j hij
  rw [e1,e2,fin]
 ·have e:=key j i (by omega)
  have: ∀i j:Nat,i≤j→(signed false (a*2^i) (-(i:Int)-min (-(i:Int)) (-(j:Int))).toNat+signed false (b*2^j) (-(j:Int)-min (-(i:Int)) (-(j:Int))).toNat)=(((a+b)*2^j:Nat):Int)∧min (-(i:Int)) (-(j:Int))= -(j:Int):=by
   intro i j hij
   have hm:min (-(i:Int)) (-(j:Int))= -(j:Int):=by omega
   refine ⟨?_,hm⟩
   rw [hm,hs,hs,show (-(j:Int)- -(j:Int)).toNat=0 by omega,show (-(i:Int)- -(j:Int)).toNat=j-i by omega,Nat.mul_assoc a,←Nat.pow_add,show i+(j-i)=j by omega,Nat.pow_zero,Nat.mul_one,Nat.add_mul]
   exact (Int.natCast_add _ _).symm
  obtain ⟨e1,e2⟩:=this i j (by omega)
  rw [e1,e2,fin]
end Go.Heap
namespace Go
open Go.Heap
theorem zg5 {n:Nat} (hn:n<9007199254740992):FloatKind.f64.nearest (n:Int)=fw n:=by
 unfold FloatKind.nearest FloatKind.encode
 rw [show decide ((n:Int)<0)=false by simp,Int.natAbs_natCast]
 have:=zxf hn 0
 rw [Nat.pow_zero,Nat.mul_one] at this
 exact this
theorem fl_sum {a b:Int} (ha:0≤a) (hb:0≤b) (h:a+b<9007199254740992):floatBits .add .f64 (FloatKind.f64.nearest a) (FloatKind.f64.nearest b)=some (FloatKind.f64.nearest (a+b)):=by
 obtain ⟨a,rfl⟩:=Int.eq_ofNat_of_zero_le ha
 obtain ⟨b,rfl⟩:=Int.eq_ofNat_of_zero_le hb
 rw [zg5 (by omega),zg5 (by omega),←Int.natCast_add,zg5 (by omega)]
 exact fl_add (by omega)
theorem fl_csum {a b c d:Int} (ha:0≤a) (hb:0≤b) (hc:0≤c) (hd:0≤d) (h1:a+c<9007199254740992) (h2:b+d<9007199254740992):cSumBits .add .f64 (FloatKind.f64.nearest a) (FloatKind.f64.nearest b) (FloatKind.f64.nearest c) (FloatKind.f64.nearest d)=some (FloatKind.f64.nearest (a+c),FloatKind.f64.nearest (b+d)):=by
 unfold cSumBits
 rw [fl_sum ha hc h1,fl_sum hb hd h2]
 rfl
end Go
namespace Go.Proofs.YtannckelmojkoaaGreat
open Go.RowKit Go.Heap
theorem zzt {w:World} {m g n cap:Nat} (hc:w.cell? ⟨m,0,none⟩=some (slI g n cap)) (k:Nat) (hk:k<n) (hn:n≤1000):
  Calls Tryz.prog 291 #[ptrV m,.int .i64 k] w fun e w'=>e= .returned (.bool true)∧w=w':=by
 have hkI:(k:Int)<(n:Int):=by omega
 have hk0:(0:Int)≤(k:Int):=by omega
 go_enter Tryz.func291,Tryz.ntmps291
 go_wp2_with fail
 go_ret
 exact ⟨rfl,rfl⟩
def zcr (k:Nat) (t:Int) (z:List (Int×Int)):List (Int×Int):=if 0≤t∧t≤1048576 then z.modify k fun z=>(z.1+1,z.2+t) else z
section
variable {B:Nat} {w0 w W W':World} {ss rs:List Res} {x:Np} {s s':Ns} {l l':Nt} {m g cap:Nat} {z:List (Int×Int)}
theorem zy7 (h:Own B w0 W (mtL m g z.length cap z++ss)) (hcap:z.length≤cap) (hz:z.length≤100) (k:Nat) (hk:k<z.length) (t:Int) (ht: -1048576≤t∧t≤1048576) (hb:0≤z[k].1∧z[k].1≤1000000∧0≤z[k].2∧z[k].2≤1000000000000):
  Calls Tryz.prog 270 #[ptrV m,.int .i64 k,.int .i64 t] W fun e w'=>(∃b,e= .returned (.bool b))∧Own B w0 w' (mtL m g z.length cap (zcr k t z)++ss):=by
 have c0:=zaa (h.blkAt 0 rfl) 0 rfl
 have HH:=Lib.hid (zzt c0 k hk (by omega))
 obtain ⟨ht1,ht2⟩:=ht
 by_cases h0:0≤t
 ·have hlt:decide (t<0)=false:=by simp;omega
  have hgt:decide ((1048576:Int)<t)=false:=by simp;omega
  have hkI:(k:Int)<(z.length:Int):=by omega
  have hcI:(z.length:Int)≤(cap:Int):=by omega
  have hk0:(0:Int)≤(k:Int):=by omega
  have hlen:k<(mtC z).length:=by rw [mtC_len];exact hk
  obtain ⟨hcell,f0⟩:=zag h 1 rfl k (v:=mtV z[k]) (by rw [List.getElem?_eq_getElem hlen];simp [mtC])
  have HF:Hid (Own B w0 (W.drew.setCell ⟨g,k,none⟩ (mtV (z[k].1+1,z[k].2+t))) (mtL m g z.length cap (zcr k t z)++ss)):=Lib.hid (by
   have:=(h.drew.putAt 1 rfl k (mtV (z[k].1+1,z[k].2+t)))
   have e:mtC (zcr k t z)=(mtC z).set k (mtV (z[k].1+1,z[k].2+t)):=by
    unfold zcr mtC
    rw [if_pos ⟨h0,ht2⟩]
    refine List.ext_getElem? (fun j=> ?_)
    rw [List.getElem?_map,List.getElem?_modify,List.getElem?_set,List.getElem?_map,List.length_map]
    by_cases hj:k=j
    ·subst hj;simp [hk]
    ·simp [hj]
   show Own B w0 _ (blk m (mtB g z.length cap)::segR g 269 (mtC (zcr k t z))::ss)
   rw [e]
   exact this)
  generalize zcr k t z=z' at*
  generalize hzk:z[k]=q at*
  obtain ⟨a,b⟩:=q
  simp only at hb HF
  have hcv: ∀wx,(convert 3 347 (.int .i64 t)).run Tryz.prog wx= .ok (.float .f64 (FloatKind.f64.nearest t)) wx:=fun wx=>run_convert_int_float wx _ _ _ _ _ (by kernel_rfl) (by kernel_rfl)
  have h1:(4607182418800017408:Nat)=FloatKind.f64.nearest 1:=by kernel_rfl
  have hsum: ∀wx,(binOp .add 269 (.complex .f64 (FloatKind.f64.nearest a) (FloatKind.f64.nearest b)) (.complex .f64 4607182418800017408 (FloatKind.f64.nearest t))).run Tryz.prog wx= .ok (.complex .f64 (FloatKind.f64.nearest (a+1)) (FloatKind.f64.nearest (b+t))) wx:=fun wx=>by
   rw [h1]
   exact run_complex_sum wx .add (.inl rfl) _ _ _ _ _ _ _ _ (fl_csum (by omega) (by omega) (by omega) h0 (by omega) (by omega))
  clear h hb hlen hzk h1
  unfold mtV at HF hcell
  simp only at HF hcell
  generalize FloatKind.f64.nearest a=na at*
  generalize FloatKind.f64.nearest b=nb at*
  generalize FloatKind.f64.nearest t=nt at*
  generalize FloatKind.f64.nearest (a+1)=na1 at*
  generalize FloatKind.f64.nearest (b+t)=nb1 at*
  have hst:(store ⟨g,k,none⟩ (.complex .f64 na1 nb1)).run Tryz.prog W.drew= .ok () (W.drew.setCell ⟨g,k,none⟩ (.complex .f64 na1 nb1)):=by
   rw [run_store _ _ _ _ _ rfl]
   have hc':W.drew.cell? ⟨g,k,none⟩=some (.complex .f64 na nb):=hcell
   have f':W.drew.frozen? ⟨g,k,none⟩=false:=f0
   simp [stored,hc',f']
  go_enter Tryz.func270,Tryz.ntmps270
  go_wp2_with fail
  refine HH.out.mono ?_
  rintro e w' ⟨rfl,rfl⟩
  go_wp2_with fail
  go_region
  all_goals
   go_wp2_with fail
   go_ret
   exact ⟨⟨_,rfl⟩,HF.out⟩
 ·have hlt:decide (t<0)=true:=by simp;omega
  have HF:Hid (Own B w0 W (mtL m g z.length cap (zcr k t z)++ss)):=Lib.hid (by unfold zcr;rw [if_neg (by omega)];exact h)
  clear h hb
  go_enter Tryz.func270,Tryz.ntmps270
  go_wp2_with fail
  refine HH.out.mono ?_
  rintro e w' ⟨rfl,rfl⟩
  go_wp2_with fail
  go_ret
  exact ⟨⟨_,rfl⟩,HF.out⟩
theorem zzv (h:NdIs B w0 W x s l ss) (k:Nat) (hk:k<s.c.f+1) (t:Int) (ht: -1048576≤t∧t≤1048576) (hm:(s.mt.getD k (0,0)).1+1≤4*((s.ins.getD k noIn).l.countP (·.done):Nat)):
  Calls Tryz.prog 270 #[ptrV x.mt,.int .i64 k,.int .i64 t] W fun e w'=>(∃b,e= .returned (.bool b))∧NdIs B w0 w' x {s with mt:=zcr k t s.mt} l ss:=by
 have hok:=h.ok
 have hf:=hok.c.f2
 have hl:=hok.mt
 have hkl:k<s.mt.length:=by omega
 have hki:k<s.ins.length:=by rw [hok.ins];exact hk
 obtain ⟨m1,m2,m3,m4⟩:=hok.mtn k hkl hki
 have hcp:(s.ins[k].l.countP (·.done):Nat)≤s.ins[k].l.length:=List.countP_le_length
 obtain ⟨v,rr,c,d,g⟩:=h.lens 6 (by omega) (by omega)
 obtain ⟨jj,r5,-,ha,-⟩:=h.inst k hki
 have hil:=ai_len ha
 have hgl:(zcr k t s.mt).length=s.mt.length:=by unfold zcr;split<;>simp
 have hgd:s.mt.getD k (0,0)=s.mt[k]:=by simp [List.getD_eq_getElem?_getD,hkl]
 have hid:s.ins.getD k noIn=s.ins[k]:=by simp [List.getD_eq_getElem?_getD,hki]
 rw [hgd,hid] at hm
 refine (zy7 (Own.open d) (by have:=c.mtk;omega) (by omega) k hkl t ht (by omega)).mono ?_
 rintro e w' ⟨he,ho⟩
 refine ⟨he,g _ {s with mt:=zcr k t s.mt} v ss (joinR (mtL x.mt x.mg (zcr k t s.mt).length x.mtk (zcr k t s.mt))) {hok with mt:=by simpa only [hgl] using hok.mt,mtn:= ?_} {c with} rfl (Own.shut (rs:=[_,_]) ?_)⟩
 ·intro j h1 h2
  simp only [hgl] at h1
  have h3:=hok.mtn j h1 h2
  simp only
  by_cases hq:0≤t∧t≤1048576
  ·have e:(zcr k t s.mt)[j]'(by rw [hgl];exact h1)=if k=j then (s.mt[j].1+1,s.mt[j].2+t) else s.mt[j]:=by
    unfold zcr
    simp only [if_pos hq,List.getElem_modify]
   rw [e]
   split
   ·rename_i hkj;subst hkj;simp only;omega
   ·exact h3
  ·have e:zcr k t s.mt=s.mt:=by unfold zcr;rw [if_neg hq]
   simp only [e]
   exact h3
 ·rw [hgl];exact ho
end
end Go.Proofs.YtannckelmojkoaaGreat
namespace Go.Proofs.YtannckelmojkoaaGreat
open Go.RowKit Go.Heap
def zd8 (s:Ns) (k:Nat) (rs:List Rq):List (Int×Int):=rs.foldl (fun z r=>match zbj s.tab r with | some t=>zcr k (s.now-t) z | none=>z) s.mt
theorem zuq (k:Nat) (t:Int) (s:Ns):zyx k t s= {s with mt:=zcr k t s.mt}:=by
 unfold zyx zcr
 split<;>rfl
theorem zo1 (k:Nat) (s:Ns) (r:Rq):zg6 k s r= {s with mt:=match zbj s.tab r with | some t=>zcr k (s.now-t) s.mt | none=>s.mt}:=by
 unfold zg6
 cases zbj s.tab r with
 | none=>rfl
 | some t=>exact zuq _ _ _
theorem zq4 (k:Nat) (rs:List Rq) (s:Ns):zkg k s rs= {s with mt:=zd8 s k rs}:=by
 unfold zkg zd8
 induction rs generalizing s with
 | nil=>rfl
 | cons r rs ih=>rw [List.foldl_cons,ih,zo1,List.foldl_cons]
theorem zig {s:Ns} {k:Nat} {rs:List Rq} {j:Nat} (hj:j<rs.length):zd8 s k (rs.take (j+1))=match zbj s.tab rs[j] with | some t=>zcr k (s.now-t) (zd8 s k (rs.take j)) | none=>zd8 s k (rs.take j):=by
 unfold zd8
 rw [List.take_add_one,List.getElem?_eq_getElem hj,List.foldl_append]
 rfl
theorem zuo (k:Nat) (t:Int) (z:List (Int×Int)):((zcr k t z).getD k (0,0)).1≤(z.getD k (0,0)).1+1:=by
 unfold zcr
 split
 ·rw [List.getD_eq_getElem?_getD,List.getElem?_modify]
  simp only [if_pos]
  rw [List.getD_eq_getElem?_getD]
  cases z[k]?<;>simp
 ·omega
theorem zup {s:Ns} {k:Nat} {rs:List Rq}: ∀j,((zd8 s k (rs.take j)).getD k (0,0)).1≤(s.mt.getD k (0,0)).1+j:=by
 intro j
 induction j with
 | zero=>simp [zd8]
 | succ j ih=>
  by_cases hj:j<rs.length
  ·rw [zig hj]
   cases zbj s.tab rs[j] with
   | none=>simp only;omega
   | some t=>have:=zuo k (s.now-t) (zd8 s k (rs.take j));simp only;omega
  ·rw [List.take_of_length_le (by omega)] at ih⊢;omega
theorem zuf (p:NSt) (e:En): ∃o l',zdw p e=({p.1 with out:=p.1.out++o,tab:=za2 p.1.tab e.rq.client e.rq.time},l')∧o.length≤1∧l'.length≤p.2.length+1:=by
 obtain ⟨s,l⟩:=p
 have hl:=zgs (l:=l) (m:=repM s.id e.rq.client e.rq.time e.res)
 unfold zdw
 simp only
 rw [zfm]
 generalize sealP l (repM s.id e.rq.client e.rq.time e.res)=sp at*
 obtain ⟨o,l2⟩:=sp
 cases o with
 | none=>exact ⟨[],l2,by simp only [List.append_nil],by simp,hl⟩
 | some b=>exact ⟨[_],l2,rfl,by simp,hl⟩
theorem zug (s:Ns) (l:Nt) (e:En):zdw (s,l) e=({(ze6 (s,l) e.rq.client e.rq.time e.res).1 with tab:=za2 s.tab e.rq.client e.rq.time},(ze6 (s,l) e.rq.client e.rq.time e.res).2):=by
 unfold zdw
 simp only
 rw [zjo]
theorem zid (es:List En): ∀p:NSt,∃o l' t',es.foldl zdw p=({p.1 with out:=p.1.out++o,tab:=t'},l')∧o.length≤es.length∧l'.length≤p.2.length+es.length:=by
 induction es with
 | nil=>intro p;exact ⟨[],p.2,p.1.tab,by simp,by simp,by simp⟩
 | cons e es ih=>
  intro p
  obtain ⟨o,l',h1,h2,h3⟩:=zuf p e
  obtain ⟨o2,l2,t2,k1,k2,k3⟩:=ih (zdw p e)
  rw [h1] at k1 k3
  simp only at k1 k3
  refine ⟨o++o2,l2,t2,?_,by rw [List.length_append,List.length_cons];omega,by rw [List.length_cons];omega⟩
  rw [List.foldl_cons,h1,k1,List.append_assoc]
structure RunG (s0:Ns) (l0:Nt) (m:Nat) (p:NSt):Prop where
 go:runGo 16 (s0,l0)=runGo m p
 fuel:16≤(m:Int)+p.1.run
 ln:(p.2.length:Int)≤800000000+4*p.1.run
 on:(p.1.out.length:Int)≤800000000+4*p.1.run
theorem zsx (s:Ns) (l:Nt): ∃o l' t',zf2 (s,l)=({s with run:=s.run+1,bk:=(runL s.bk (runC s).rs).1,out:=s.out++o,tab:=t'},l')∧o.length≤(runC s).rs.length∧l'.length≤l.length+(runC s).rs.length:=by
 rw [zgr]
 obtain ⟨o,l',t',h1,h2,h3⟩:=zid (runL s.bk (runC s).rs).2 ({s with run:=s.run+1,bk:=(runL s.bk (runC s).rs).1},l)
 have h4:(runL s.bk (runC s).rs).2.length≤(runC s).rs.length:=zeo _ _
 exact ⟨o,l',t',h1,by omega,by simp only at h3;omega⟩
theorem RunG.step {s0 s:Ns} {l0 l:Nt} {m:Nat} (h:RunG s0 l0 m (s,l)) (h0:s.run<doneI (insAt s 0)) (h1:s.run+1≤16) (hb:(runC s).rs.length≤4): ∃m',m=m'+1∧RunG s0 l0 m' (zf2 (s,l)):=by
 obtain ⟨g1,g2,g4,g5⟩:=h
 simp only at g2 g4 g5
 obtain ⟨n,rfl⟩: ∃n,m=n+1:=⟨m-1,by omega⟩
 obtain ⟨o,l',t',e1,e2,e3⟩:=zsx s l
 refine ⟨n,rfl,by rw [g1,zk6 h0],?_,?_,?_⟩
 ·rw [e1];simp only;omega
 ·rw [e1];simp only;omega
 ·rw [e1];simp only [List.length_append];omega
theorem zt2 {P:Program} {e:TypeId} {z:Value} {n b:Nat} {cs:Array Value} (hi:(P.info? e).map (fun i=>(i.zero,i.size,i.bytes))=some (some z,n,b)) (h0:0<n) (h1:n≤2^24) (hc:cs.size=n):P.builtSlice e 1 [(0,.agg cs)]=some cs:=by
 obtain ⟨i,e1,e2,e3,e4⟩:=info_parts hi
 unfold Program.builtSlice
 simp only [e1,e2,e3,Nat.one_mul]
 rw [if_neg (by omega)]
 obtain ⟨r,hr,hs,hk⟩:=Great.fill_dense h0 [Value.agg cs] 0 ((Array.range n).map (z.cells[· %z.cells.size]!)) (by intro v hv;simp at hv;subst hv;exact hc) (by simp)
 simp only [List.zipIdx_cons,List.zipIdx_nil,List.map_cons,List.map_nil] at hr
 rw [hr]
 congr 1
 refine Array.ext_getElem? (fun k=> ?_)
 rw [hk k]
 by_cases hlt:k<n
 ·rw [if_pos ⟨by omega,by simpa using hlt⟩]
  have d1:k/n=0:=Nat.div_eq_of_lt hlt
  have d2:k%n=k:=Nat.mod_eq_of_lt hlt
  simp [d1,d2,Value.cells]
 ·rw [if_neg (by simp;omega),Array.getElem?_eq_none (by simp;omega),Array.getElem?_eq_none (by omega)]
theorem zh8 {P:Program} {ops:Array Oper} {rest:List Oper} {o:Oper} {a:Act} {w:World} {Q:Exit→Act→World→Prop} (hg:o.guard=none) (t e:TypeId) (x:Operand) (ho:o.op= .buildSlice t 1 #[(0,x)])
  {z:Value} {n b:Nat} (hu:P.underlying t=some (.slice e)) (hi:(P.info? e).map (fun i=>(i.zero,i.size,i.bytes))=some (some z,n,b)) (h0:0<n) (h1:n≤2^24) (cs:Array Value) (hc:cs.size=n) (hx:a.eval x= .agg cs)
  (h:wpList P ops Q rest (a.put o.dst (.slice (some ⟨w.heap.size,0,none⟩) 1 1)) (w.alloc (.cells cs e))):wpList P ops Q (o::rest) a w:=by
 refine Great.wpList_buildSliceTo hg t e 1 #[(0,x)] ho _ rfl _ rfl hu cs ?_ h
 have e1:(#[(0,x)].map fun (i,x)=>(i,a.eval x)).toList=[(0,a.eval x)]:=by simp
 rw [e1,hx]
 exact zt2 hi h0 h1 hc
theorem flat_in' {α β:Type} (g:α→List β) (n:Nat): ∀(l:List α) (_: ∀a∈l,(g a).length=n) (k j:Nat) (hk:k<l.length),j<n→(l.flatMap g)[k*n+j]?=(g l[k])[j]?
 | [],_,k,j,hk,_=>by simp at hk
 | a::l,hg,0,j,hk,hj=>by
  rw [List.flatMap_cons,List.getElem?_append_left (by rw [hg a (by simp)];omega)]
  simp
 | a::l,hg,k+1,j,hk,hj=>by
  have ha:=hg a (by simp)
  rw [List.flatMap_cons,List.getElem?_append_right (by rw [ha,Nat.succ_mul];omega),ha]
  rw [show (k+1)*n+j-n=k*n+j by rw [Nat.succ_mul];omega]
  rw [flat_in' g n l (fun b hb=>hg b (by simp [hb])) k j (by simpa using hk) hj]
  simp
theorem zv3 {α:Type} {w:World} {b o n:Nat} {g:α→List Value} {l:List α} (hc: ∀j,j<l.length*n→w.cell? ⟨b,o+j,none⟩=(l.flatMap g)[j]?) (hg: ∀a∈l,(g a).length=n) (k:Nat) (hk:k<l.length):w.rangeAt b (o+k*n) (g l[k]):=fun j v hj=>by
 have hjn:j<n:=by rw [←hg _ (List.getElem_mem hk)];exact (List.getElem?_eq_some_iff.1 hj).1
 have h1:(k+1)*n≤l.length*n:=Nat.mul_le_mul_right _ hk
 rw [Nat.succ_mul] at h1
 rw [Nat.add_assoc,hc (k*n+j) (by omega),flat_in' g n l hg k j hk hjn]
 exact hj
theorem by13 {l:List Bool} (h:l.length=13): ∃b0 b1 b2 b3 b4 b5 b6 b7 b8 b9 b10 b11 b12,l=[b0,b1,b2,b3,b4,b5,b6,b7,b8,b9,b10,b11,b12]:=by
 match l,h with
 | [b0,b1,b2,b3,b4,b5,b6,b7,b8,b9,b10,b11,b12],_=>exact ⟨b0,b1,b2,b3,b4,b5,b6,b7,b8,b9,b10,b11,b12,rfl⟩
abbrev tdLit (r:Rq) (b0 b1 b2 b3 b4 b5 b6 b7 b8 b9 b10 b11 b12:Bool) (rd:Bool) (sn:Int):Array Value:=#[.int .i64 r.client,.int .i64 r.time,.int .i64 r.kind,.int .i64 r.key,.int .i64 r.val,.int .i64 r.sl,.bool b0,.bool b1,.bool b2,.bool b3,.bool b4,.bool b5,.bool b6,.bool b7,.bool b8,.bool b9,.bool b10,.bool b11,.bool b12,.bool rd,.int .i64 sn]
theorem td_lit {t:Td} (h:t.by_.length=13): ∃b0 b1 b2 b3 b4 b5 b6 b7 b8 b9 b10 b11 b12,tdC t=(tdLit t.r b0 b1 b2 b3 b4 b5 b6 b7 b8 b9 b10 b11 b12 t.ready t.since).toList:=by
 obtain ⟨b0,b1,b2,b3,b4,b5,b6,b7,b8,b9,b10,b11,b12,e⟩:=by13 h
 exact ⟨b0,b1,b2,b3,b4,b5,b6,b7,b8,b9,b10,b11,b12,by unfold tdC;rw [e];rfl⟩
theorem zud {l:List Td} {c t:Int} {k:Nat} (hk:k<l.length):za2 (l.take (k+1)) c t=za2 (l.take k) c t++if (decide (l[k].r.client≠c) || decide (t<l[k].r.time))=true then [l[k]] else []:=by
 unfold za2
 rw [List.take_add_one,List.getElem?_eq_getElem hk,List.filter_append]
 congr 1
 simp only [Option.toList_some,List.filter_cons,List.filter_nil]
theorem Tryz.infoTold:(Tryz.prog.info? 314).map (fun i=>(i.zero,i.size,i.bytes))=some (some (.agg #[.int .i64 0,.int .i64 0,.int .i64 0,.int .i64 0,.int .i64 0,.int .i64 0,.bool false,.bool false,.bool false,.bool false,.bool false,.bool false,.bool false,.bool false,.bool false,.bool false,.bool false,.bool false,.bool false,.bool false,.int .i64 0]),21,72):=by kernel_rfl
section
variable {B:Nat} {w0 W:World} {ss:List Res} {tb f:Nat} {cl:Int} {v:Value} {l:List Td}
abbrev tdZ:Array Value:=#[.int .i64 0,.int .i64 0,.int .i64 0,.int .i64 0,.int .i64 0,.int .i64 0,.bool false,.bool false,.bool false,.bool false,.bool false,.bool false,.bool false,.bool false,.bool false,.bool false,.bool false,.bool false,.bool false,.bool false,.int .i64 0]
structure TdCs (t:Td) (cs:List Value):Prop where
 n:cs.length=21
 one: ∀v∈cs,v.oneCell'=true
 c0:cs[0]?=some (.int .i64 t.r.client)
 c1:cs[1]?=some (.int .i64 t.r.time)
theorem td_cs {t:Td} (h:t.by_.length=13):TdCs t (tdC t):=by
 obtain ⟨b0,b1,b2,b3,b4,b5,b6,b7,b8,b9,b10,b11,b12,e⟩:=td_lit h
 rw [e]
 refine ⟨rfl,fun v hv=> ?_,rfl,rfl⟩
 simp only [tdLit,List.mem_cons,List.not_mem_nil,or_false] at hv
 rcases hv with rfl | rfl | rfl | rfl | rfl | rfl | rfl | rfl | rfl | rfl | rfl | rfl | rfl | rfl | rfl | rfl | rfl | rfl | rfl | rfl | rfl<;>rfl
theorem ztf (h:Own B w0 W (blk tb (tabOb f cl v)::tdR v l::ss)) (hb: ∀t∈l,t.by_.length=13) (hn:l.length≤1000) (c t:Int):
  Calls Tryz.prog 272 #[ptrV tb,.int .i64 c,.int .i64 t] W fun e w'=>e= .returned (.int .i64 ((l.length:Int)-(za2 l c t).length))∧ ∃v',Own B w0 w' (blk tb (tabOb f cl v')::tdR v' (za2 l c t)::ss):=by
 obtain ⟨i0,hi,hz0,hz1,hz2⟩:=info_parts Tryz.infoTold
 have hrd:Reads W v 21 l.length (l.flatMap tdC):=owns_reads (zak (h.get 1 rfl))
 obtain ⟨ao,cap,rfl,hcap,-⟩:=hrd
 have H1:=Lib.hid (h.row0 (E:=314) (sz:=21))
 have x2:W.cell? ⟨tb,2,none⟩=some (.slice ao l.length cap):=zaa h.blk_out 2 rfl
 have HB:=Lib.hid hb
 have HIS:Hid ((Tryz.prog.info? 314).map (·.size)=some 21):=Lib.hid (by rw [hi];exact congrArg some hz1)
 clear h hb
 go_enter Tryz.func272,Tryz.ntmps272
 go_wp2_with fail
 go_loopw [7,16] (fun sv i wr=> ∃(k:Nat) (o7:Option Addr) (c7:Nat),k≤l.length∧i= .int .i64 k∧sv= .slice o7 (za2 (l.take k) c t).length c7∧Hid (Own B w0 wr (tdR (.slice o7 (za2 (l.take k) c t).length c7) (za2 (l.take k) c t)::blk tb (tabOb f cl (.slice ao l.length cap))::tdR (.slice ao l.length cap) l::ss))) (fun sv i _=>l.length-(intOf i).toNat)
 case atStart=>exact ⟨0,none,0,by omega,rfl,rfl,H1⟩
 case round=>
  clear H1 x2
  obtain ⟨k,o7,c7,hk,rfl,rfl,HO⟩:=hrel
  have hk0:(0:Int)≤k:=by omega
  have hkB:(k:Int)≤1000:=by omega
  by_cases hlt:k<l.length
  ·have hkI:(k:Int)<(l.length:Int):=by omega
   obtain ⟨ao',cap',hv,-,-,-,-,hc⟩:=owns_reads (zak (HO.out.get 2 rfl))
   simp only [Value.slice.injEq,true_and] at hv
   obtain ⟨b,o,hao,-,hcell⟩:=hc (by omega)
   rw [←hv.1] at hao
   subst hao
   clear hv
   have hbk:=td_cs (HB.out _ (List.getElem_mem hlt))
   have HRA:=Lib.hid (zv3 hcell (fun a ha=>(td_cs (HB.out a ha)).n) k hlt)
   have HDT:=Lib.hid (zud (c:=c) (t:=t) hlt)
   have HLT:Hid (∀A:List Td,(A++[l[k]]).flatMap tdC=A.flatMap tdC++tdC l[k]):=Lib.hid (fun A=>by simp)
   have hc0:=hbk.c0
   have hc1:=hbk.c1
   have hone:=hbk.one
   have hln:=hbk.n
   generalize l[k].r=r at*
   generalize tdC l[k]=cs at*
   have HAL:=Lib.hid (all_oneCell_toArray hone)
   have HIC:Hid ((Tryz.prog.info? 314).map (·.size)=some cs.length):=Lib.hid (by rw [hln];exact HIS.out)
   have HIC2:Hid ((Tryz.prog.info? 314).map (·.size)=some cs.toArray.size):=Lib.hid (by rw [List.size_toArray,hln];exact HIS.out)
   have HTH:Hid ((wr.alloc (.cells tdZ 314 (0,0))).there wr.heap.size 0 cs.toArray.size):=Lib.hid (zoj rfl (by rw [List.size_toArray,hln];exact Nat.le_refl _))
   have HST:=Lib.hid (zr9 HO.out (z:=tdZ) (T:=314) (cs:=cs) (by rw [hln];rfl) rfl)
   have HON:=Lib.hid hone
   have HLN:=Lib.hid hln
   have hAl:(za2 (l.take k) c t).length≤1000:=by
    have h1:=List.length_filter_le (fun (u:Td)=>decide (u.r.client≠c) || decide (t<u.r.time)) (l.take k)
    have h2:=List.length_take_le k l
    unfold za2;omega
   clear hcell hc hbk hone hln HO
   go_upto_region 5 with (first
    | (refine wpList_load_mid rfl 314 (.tmp 18) rfl b (o+k*21) rfl cs _ HRA.out Tryz.underlying314 rfl HIC.out ?_)
    | (refine wpList_store_mid rfl 314 (.tmp 9) (.tmp 19) rfl wr.heap.size 0 cs.toArray rfl rfl HTH.out HIC2.out HAL.out ?_))
   clear HRA HTH HIC2
   generalize wr.heap.size=e0 at*
   generalize World.setCells _ e0 0 _=w2 at*
   have x0:=(zag HST.out 0 rfl 0 hc0).1
   have x1:=(zag HST.out 0 rfl 1 hc1).1
   have hstep: ∀kp,(decide (r.client≠c) || decide (t<r.time))=kp→Hid (za2 (l.take (k+1)) c t=za2 (l.take k) c t++if kp=true then [l[k]] else []):=fun kp e=>by rw [←e];exact HDT
   clear HDT hc0 hc1
   generalize za2 (l.take k) c t=A at*
   by_cases hkp:r.client≠c∨t<r.time
   ·have HX:=hstep true (by simp only [Bool.or_eq_true,decide_eq_true_eq];exact hkp)
    have HD:(r.client !=c)=true∨((r.client !=c)=false∧decide (t<r.time)=true):=by
     by_cases h1:r.client=c
     ·right;refine ⟨by simp [h1],?_⟩;simp only [decide_eq_true_eq];rcases hkp with h | h;exact absurd h1 h;exact h
     ·left;simp [h1]
    have HRB:=Lib.hid (zn9 HST.out.head)
    have H3:=Lib.hid (HST.out.box (.cells cs.toArray 314 (0,0)))
    have HN:=Lib.hid (heap_alloc_new w2 (.cells cs.toArray 314 (0,0)))
    clear hkp hstep HST
    have hlen:(A.length:Int)≤1000:=by omega
    rcases HD with hne | ⟨hne,hgt⟩
    all_goals
     go_wp2_with (first
      | (refine wpList_load_mid rfl 314 (.tmp 9) rfl e0 0 rfl cs _ HRB.out Tryz.underlying314 rfl HIC.out ?_)
      | (refine zh8 rfl 242 314 (.tmp 33) rfl Tryz.underlying242 Tryz.infoTold (by decide) (by decide) cs.toArray (by rw [List.size_toArray];exact HLN.out) rfl ?_)
      | (at_builtin;refine zbl rfl (.tmp 32) (.tmp 34) 242 rfl 314 i0 (.agg tdZ) 21 72 Tryz.underlying242 hi hz0 hz1 hz2 rfl (by decide) H3.out 2 (.slice o7 A.length c7) A.length (A.flatMap tdC) rfl rfl w2.heap.size cs.toArray 314 (0,0) rfl HN.out (by rw [List.size_toArray];exact HLN.out) HON.out (by unfold maxLen;omega) (by omega) ?_))
     intro g2 cap2 w4 h2
     have h3:Own B w0 w4 (ownR 314 21 (.slice (some ⟨g2,0,none⟩) (A.length+1) cap2) (A.length+1) (A.flatMap tdC++cs.toArray.toList)::blk tb (tabOb f cl (.slice (some ⟨b,o,none⟩) l.length cap))::tdR (.slice (some ⟨b,o,none⟩) l.length cap) l::ss):=(h2.dropAt 0 (by simp)).dropAt 0 (by simp)
     have HF:Hid (Own B w0 w4 (tdR (.slice (some ⟨g2,0,none⟩) (A++[l[k]]).length cap2) (A++[l[k]])::blk tb (tabOb f cl (.slice (some ⟨b,o,none⟩) l.length cap))::tdR (.slice (some ⟨b,o,none⟩) l.length cap) l::ss)):=Lib.hid (by
      unfold tdR
      rw [HLT.out,List.length_append,List.length_singleton]
      exact h3)
     clear h2 h3 H3 HN HRB HIC HAL HON HLN HLT x0 x1
     go_wp2_with fail
     go_roundw
     case rel=>exact ⟨k+1,some ⟨g2,0,none⟩,cap2,by omega,by go_num,by rw [HX.out,if_pos (by trivial)];simp,Lib.hid (by rw [HX.out,if_pos (by trivial)];exact HF.out)⟩
     case measure=>simp [intOf];omega
   ·have HX:=hstep false (by simp only [Bool.or_eq_false_iff,decide_eq_false_iff_not];exact ⟨fun h=>hkp (.inl h),fun h=>hkp (.inr h)⟩)
    have hne:(r.client !=c)=false:=by simp;exact Decidable.byContradiction fun h=>hkp (.inl h)
    have hgt:decide (t<r.time)=false:=by simp;exact Int.not_lt.1 (fun h=>hkp (.inr h))
    have HO5:=Lib.hid HST.out.drop
    clear hkp hstep HST HIC HAL HON HLN HLT
    go_wp2_with fail
    go_roundw
    case rel=>exact ⟨k+1,o7,c7,by omega,by go_num,by rw [HX.out,if_neg (by simp),List.append_nil],Lib.hid (by rw [HX.out,if_neg (by simp),List.append_nil];exact HO5.out)⟩
    case measure=>simp [intOf];omega
  ·obtain rfl:k=l.length:=by omega
   have hkI:decide ((l.length:Int)<(l.length:Int))=false:=by simp
   rw [List.take_of_length_le (Nat.le_refl _)] at HO⊢
   have x2:wr.cell? ⟨tb,2,none⟩=some (.slice ao l.length cap):=zaa (HO.out.blkAt 1 rfl) 2 rfl
   have z2:=zac (HO.out.blkAt 1 rfl) 2
   have hAl:(za2 l c t).length≤1000:=by
    have h1:=List.length_filter_le (fun (u:Td)=>decide (u.r.client≠c) || decide (t<u.r.time)) l
    unfold za2;omega
   have HF:Hid (Own B w0 (wr.setCell ⟨tb,2,none⟩ (.slice o7 (za2 l c t).length c7)) (blk tb (tabOb f cl (.slice o7 (za2 l c t).length c7))::tdR (.slice o7 (za2 l c t).length c7) (za2 l c t)::ss)):=Lib.hid (by
    have h1:Own B w0 (wr.setCell ⟨tb,2,none⟩ (.slice o7 (za2 l c t).length c7)) (blk tb (tabOb f cl (.slice o7 (za2 l c t).length c7))::tdR (.slice o7 (za2 l c t).length c7) (za2 l c t)::tdR (.slice ao l.length cap) l::ss):=HO.out.swap.store 2 (.slice o7 (za2 l c t).length c7)
    exact h1.rot.drop)
   clear HO
   go_wp2_with fail
   go_ret
   exact ⟨rfl,_,HF.out⟩
end
end Go.Proofs.YtannckelmojkoaaGreat
namespace Go.Proofs.YtannckelmojkoaaGreat
open Go.RowKit Go.Heap
theorem zk9 (p:NSt) (m:Ms): ∃o:List (Int×Bys),sendS p m=({p.1 with out:=p.1.out++o},(sendS p m).2)∧o.length≤3*p.1.c.f+1∧(sendS p m).2.length≤p.2.length+1:=by
 have h:=zgs (l:=p.2) (m:=zm5 m p.1.id)
 unfold sendS
 generalize sealP p.2 (zm5 m p.1.id)=q at*
 obtain ⟨o,l2⟩:=q
 cases o with
 | none=>exact ⟨[],by simp only [List.append_nil],by simp,h⟩
 | some b=>exact ⟨_,rfl,by rw [List.length_map];exact zio _ _,h⟩
theorem zlx (v:Value) (rs:List Rq):batR v rs=redR v 6 rs.length (rs.flatMap za8):=rfl
section
variable {B:Nat} {w0 w W W':World} {ss rs:List Res} {x:Np} {s s':Ns} {l l':Nt} {k i:Nat} {vb:Value} {bs:List Rq}
theorem zxn (h:NdIs B w0 W x s l (batR vb bs::ss)) (hk:k<s.c.f+1) (hi:x.is[k]?=some i) (hb:bs.length≤4) (kind seq node sl:Int):
  Calls Tryz.prog 236 #[ptrV i,.int .i64 kind,.int .i64 seq,.int .i64 node,.int .i64 sl,vb] W fun e w'=>e= .returned (.bool (voteB (insAt s k) kind seq node))∧NdIs B w0 w' x (zbp s k (voteI (insAt s k) kind seq node sl bs)) l (batR vb bs::ss):=by
 have hk':k<s.ins.length:=by rw [h.ok.ins];exact hk
 obtain ⟨r,hs,-⟩:=h.side
 have hbt:=zfr (hs.get 0 rfl)
 obtain ⟨j,rr,hj,ha,g⟩:=h.inst k hk'
 rw [hi] at hj
 cases hj
 rw [zbo s k hk']
 refine (ai_vote ha kind seq node sl vb bs hbt (by omega)).mono ?_
 rintro e w' ⟨he,h2⟩
 exact ⟨he,g w' _ _ (zux hb) h2⟩
theorem nd_pre (h:NdIs B w0 W x s l (batR vb bs::ss)) (hk:k<s.c.f+1) (hi:x.is[k]?=some i) (hb:bs.length≤4) (seq:Int):
  Calls Tryz.prog 159 #[ptrV i,.int .i64 seq,vb] W fun e w'=>e= .returned (.bool (preB (insAt s k) seq))∧NdIs B w0 w' x (zbp s k (preI (insAt s k) seq bs)) l (batR vb bs::ss):=by
 have hk':k<s.ins.length:=by rw [h.ok.ins];exact hk
 obtain ⟨r,hs,-⟩:=h.side
 have hbt:=zfr (hs.get 0 rfl)
 obtain ⟨j,rr,hj,ha,g⟩:=h.inst k hk'
 rw [hi] at hj
 cases hj
 rw [zbo s k hk']
 refine (ai_pre ha seq vb bs hbt (by omega)).mono ?_
 rintro e w' ⟨he,h2⟩
 exact ⟨he,g w' _ _ (zy4 hb) h2⟩
structure ToldC (r:Option Cp) (c:Ct):Prop where
 cp:c.cp=r.getD noCp
 vb: ∃a k,c.vb= .slice a c.rs.length k
 vv: ∃a k,c.vv= .slice a c.vs.length k
 vn:c.vs.length≤100000
theorem told_c {r:Option Cp} {c:Ct} (h:Told W W' r c):ToldC r c:=by
 obtain ⟨h1,⟨-,h2⟩,⟨a1,k1,e1,-⟩,⟨a2,k2,e2,-⟩,-,-⟩:=h
 exact ⟨h1,⟨a1,k1,e1⟩,⟨a2,k2,e2⟩,h2⟩
theorem zpa (h:NdIs B w0 W x s l ss) (hk:k<s.c.f+1) (hi:x.is[k]?=some i) (seq:Int):
  Calls Tryz.prog 255 #[ptrV i,.int .i64 seq] W fun e w'=> ∃c:Ct,e= .returned (.tuple #[ctAgg c,.bool (prepI (insAt s k) seq).isSome])∧ToldC (prepI (insAt s k) seq) c∧NdIs B w0 w' x (zbp s k (za6 (insAt s k) seq)) l (batR c.vb c.rs::redR c.vv 2 c.vs.length (zan c.vs)::ss):=by
 have hk':k<s.ins.length:=by rw [h.ok.ins];exact hk
 have hsm:=(h.ok.insk k hk').2.2.2
 obtain ⟨j,rr,hj,ha,g⟩:=h.inst k hk'
 rw [hi] at hj
 cases hj
 rw [zbo s k hk']
 refine (zls ha seq).mono ?_
 rintro e w' ⟨c,he,hc,h2⟩
 obtain ⟨y,y1,y2,y3⟩:=h2
 exact ⟨c,he,told_c hc,g w' _ (_::_::ss) (zki hsm) ⟨y,y1,y2,y3.rot'.swap.rot⟩⟩
theorem zri (h:NdIs B w0 W x s l ss) (hk:k<s.c.f+1) (hi:x.is[k]?=some i) (seq:Int):
  Calls Tryz.prog 256 #[ptrV i,.int .i64 seq] W fun e w'=> ∃c:Ct,e= .returned (.tuple #[ctAgg c,.bool (commI (insAt s k) seq).isSome])∧ToldC (commI (insAt s k) seq) c∧NdIs B w0 w' x (zbp s k (zbc (insAt s k) seq)) l (batR c.vb c.rs::redR c.vv 2 c.vs.length (zan c.vs)::ss):=by
 have hk':k<s.ins.length:=by rw [h.ok.ins];exact hk
 have hsm:=(h.ok.insk k hk').2.2.2
 obtain ⟨j,rr,hj,ha,g⟩:=h.inst k hk'
 rw [hi] at hj
 cases hj
 rw [zbo s k hk']
 refine (zor ha seq).mono ?_
 rintro e w' ⟨c,he,hc,h2⟩
 obtain ⟨y,y1,y2,y3⟩:=h2
 exact ⟨c,he,told_c hc,g w' _ (_::_::ss) (zl5 hsm) ⟨y,y1,y2,y3.rot'.swap.rot⟩⟩
theorem zva (h:NdIs B w0 W x s l ss) (hk:k<s.c.f+1) (hi:x.is[k]?=some i) (seq:Int):
  Calls Tryz.prog 220 #[ptrV i,.int .i64 seq] W fun e w'=> ∃a c,e= .returned (.tuple #[.slice a (zbq (insAt s k) seq).1.length c,.bool (zbq (insAt s k) seq).2])∧NdIs B w0 w' x s l (batR (.slice a (zbq (insAt s k) seq).1.length c) (zbq (insAt s k) seq).1::ss):=by
 have hk':k<s.ins.length:=by rw [h.ok.ins];exact hk
 obtain ⟨j,rr,hj,ha,g⟩:=h.inst k hk'
 rw [hi] at hj
 cases hj
 rw [zbo s k hk']
 refine (zm9 ha seq).mono ?_
 rintro e w' ⟨u,he,hu,hb,hn⟩
 obtain ⟨a,c,rfl⟩: ∃a c,u= .slice a (zbq s.ins[k] seq).1.length c:=let ⟨a,c,e,_⟩:=hb;⟨a,c,e⟩
 obtain ⟨r,hs,hback⟩:=h.side
 refine ⟨a,c,he,hback w' (_::ss) ?_⟩
 exact own_bat (hs.upd0 hu) hb (fun q hq=> .inr ⟨Nat.le_trans hs.below.size (hn q (zd2 hq)),fun hm=>by have:=hs.lt q hm;have:=hn q (zd2 hq);omega⟩)
end
end Go.Proofs.YtannckelmojkoaaGreat
