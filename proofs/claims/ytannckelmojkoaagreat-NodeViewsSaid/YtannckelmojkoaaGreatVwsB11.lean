/- Parts of the proof, one behind the other. -/
import Derived.Test.YtannckelmojkoaaGreatVwsB10
set_option maxHeartbeats 32000000
set_option maxRecDepth 100000
set_option linter.unusedVariables false
set_option linter.unusedSimpArgs false
namespace Go.Proofs.YtannckelmojkoaaGreat
open Go.RowKit Go.Heap
def pm9 (b:Bys) (v0:Nat) (v1:Nat) (v2:Nat) (v3:Nat) (v4:Nat) (v5:Int) (v6:List Rq) (v7:Vs) (v8:List Cp) (a:Nat):Option Ms:=match zb3 b (zcr b) a with | none=>none | some (v9,a)=>if a=b.length then some ⟨v0,v1,v2,v3,v4,v5,v6,v7,v8,v9⟩ else none
def pm8 (b:Bys) (v0:Nat) (v1:Nat) (v2:Nat) (v3:Nat) (v4:Nat) (v5:Int) (v6:List Rq) (v7:Vs) (a:Nat):Option Ms:=match zb3 b (zch b) a with | none=>none | some (v8,a)=>pm9 b v0 v1 v2 v3 v4 v5 v6 v7 v8 a
def pm7 (b:Bys) (v0:Nat) (v1:Nat) (v2:Nat) (v3:Nat) (v4:Nat) (v5:Int) (v6:List Rq) (a:Nat):Option Ms:=match zb3 b (zb0 b) a with | none=>none | some (v7,a)=>pm8 b v0 v1 v2 v3 v4 v5 v6 v7 a
def pm6 (b:Bys) (v0:Nat) (v1:Nat) (v2:Nat) (v3:Nat) (v4:Nat) (v5:Int) (a:Nat):Option Ms:=match zb3 b (rdReq b) a with | none=>none | some (v6,a)=>pm7 b v0 v1 v2 v3 v4 v5 v6 a
def pm5 (b:Bys) (v0:Nat) (v1:Nat) (v2:Nat) (v3:Nat) (v4:Nat) (a:Nat):Option Ms:=match takeS b a with | none=>none | some (v5,a)=>pm6 b v0 v1 v2 v3 v4 v5 a
def pm4 (b:Bys) (v0:Nat) (v1:Nat) (v2:Nat) (v3:Nat) (a:Nat):Option Ms:=match takeN b a with | none=>none | some (v4,a)=>pm5 b v0 v1 v2 v3 v4 a
def pm3 (b:Bys) (v0:Nat) (v1:Nat) (v2:Nat) (a:Nat):Option Ms:=match takeN b a with | none=>none | some (v3,a)=>pm4 b v0 v1 v2 v3 a
def pm2 (b:Bys) (v0:Nat) (v1:Nat) (a:Nat):Option Ms:=match takeN b a with | none=>none | some (v2,a)=>pm3 b v0 v1 v2 a
def pm1 (b:Bys) (v0:Nat) (a:Nat):Option Ms:=match takeN b a with | none=>none | some (v1,a)=>pm2 b v0 v1 a
def pm0 (b:Bys) (a:Nat):Option Ms:=match takeN b a with | none=>none | some (v0,a)=>pm1 b v0 a
def zew (b:Bys):Option Ms:=if 65536<b.length then none else pm0 b 0
structure Mm where
 kind:Int
 fm:Int
 view:Int
 inst:Int
 seq:Int
 res:Int
 vb:Value
 rs:List Rq
 vv:Value
 vs:Vs
 vc:Value
 cts:List Ct
 vp:Value
 pts:List Pt
def Mm.ms (m:Mm):Ms:=⟨m.kind,m.fm,m.view,m.inst,m.seq,m.res,m.rs,m.vs,m.cts.map Ct.cp,m.pts.map Pt.pa⟩
abbrev mmA (m:Mm):Array Value:=#[.int .i64 m.kind,.int .i64 m.fm,.int .i64 m.view,.int .i64 m.inst,.int .i64 m.seq,.int .i64 m.res,m.vb,m.vv,m.vc,m.vp]
def noMm:Mm:=⟨0,0,0,0,0,0,.slice none 0 0,[],.slice none 0 0,[],.slice none 0 0,[],.slice none 0 0,[]⟩
abbrev mmR (m:Mm) (rs:List Res):List Res:=redR m.vp 4 m.pts.length (m.pts.flatMap zaj)::ptsR m.pts::redR m.vc 5 m.cts.length (m.cts.flatMap zag)::ctsR m.cts::redR m.vv 2 m.vs.length (m.vs.flatMap za2)::redR m.vb 6 m.rs.length (m.rs.flatMap zbh)::rs
def ParseP (B:Nat) (w0:World) (ss:List Res) (o:Option Ms) (e:Ending) (w':World):Prop:=match o with
 | none=>e= .returned (.tuple #[.agg (mmA noMm),.bool false])∧Own B w0 w' ss
 | some m=> ∃mm:Mm,e= .returned (.tuple #[.agg (mmA mm),.bool true])∧mm.ms=m∧Own B w0 w' (mmR mm ss)
theorem zdg {F:(Nat→Value)→Act} {P:Prop} (a:Act) (h:a=F (fun i=>a.tmps.getD i (.bool false))) (hp:P): ∃u,a=F u∧P:=⟨_,h,hp⟩
section
variable {B:Nat} {w0 w W W':World} {ss rs:List Res} {bv:Value} {bs:Bys}
theorem Own.storeTo {b:Nat} {o o':Obj} (h:Own B w0 W (blk b o::rs)) (i:Nat) (v:Value) (e:setIn i v o=o'):Own B w0 (W.setCell ⟨b,i,none⟩ v) (blk b o'::rs):=e ▸ h.store i v
theorem takeS_in {b:Bys} {at_:Nat} {m:Int} {a:Nat} (h:takeS b at_=some (m,a)):at_<a∧a≤b.length:=by
 unfold takeS at h;cases hn:takeN b at_ with
 | none=>rw [hn] at h;simp at h
 | some p=>
  rw [hn] at h;simp only [Option.map_some,Option.some.injEq,Prod.mk.injEq] at h;obtain ⟨-,rfl⟩:=h;exact (zds hn).2
theorem zn7 (h:Own B w0 W ss) (hb:RdOk w0 B bv bs ss):Calls Tryz.prog 75 #[bv] W (ParseP B w0 ss (zew bs)):=by
 obtain ⟨ab,cb,rfl,-,-⟩:=hb.f;have H0:=zq (zfk h (.cells #[.int .i64 0,.int .i64 0,.int .i64 0,.int .i64 0,.int .i64 0,.int .i64 0,.slice none 0 0,.slice none 0 0,.slice none 0 0,.slice none 0 0] 47 (0,0)));have HB:=zq hb;have hlI:decide ((65536:Int)<(bs.length:Int))=false:=by have:=hb.l;simp;omega
 have HP0:Hid (zew bs=pm0 bs 0):=zq (by unfold zew;rw [if_neg (by have:=hb.l;omega)]);generalize zew bs=po at*;have hs0:0≤65536:=by omega
 clear h hb;go_enter Tryz.func75,Tryz.ntmps75
 go_wp2_with fail
 refine zm4 0 (fun a' w'=> ∃u:Nat→Value,a'= {tmps:=#[u 0,u 1,.pointer (some ⟨W.heap.size,0,none⟩),u 3,u 4,u 5,u 6,u 7,u 8,u 9,u 10,u 11,u 12,u 13,u 14,u 15,u 16,u 17,u 18,u 19,u 20,u 21,u 22,u 23,u 24,u 25,u 26,u 27,u 28,u 29,u 30,u 31,u 32,u 33,u 34,u 35,u 36,u 37,u 38,u 39,u 40,u 41,u 42,u 43,u 44,u 45,u 46,u 47,u 48,u 49,u 50,u 51,u 52,u 53,u 54,u 55,u 56,u 57,u 58,u 59,u 60,u 61,u 62,u 63,u 64,u 65,u 66,u 67,u 68,u 69,u 70,u 71,u 72,u 73,u 74,u 75,u 76,u 77,u 78,u 79,u 80,u 81,u 82,u 83,u 84,u 85,u 86,u 87,u 88,u 89,u 90,u 91,u 92,u 93,u 94,u 95,u 96,u 97,u 98,u 99,u 100,u 101,u 102,u 103,u 104,u 105,u 106,u 107,u 108,u 109,u 110,u 111,u 112,u 113,u 114,u 115,u 116,u 117],defers:=[]}∧po=none∧Own B w0 w' (blk W.heap.size (.cells #[.int .i64 0,.int .i64 0,.int .i64 0,.int .i64 0,.int .i64 0,.int .i64 0,.slice none 0 0,.slice none 0 0,.slice none 0 0,.slice none 0 0] 47 (0,0))::ss)) rfl ?_ ?_
 ·go_upto_region 5 with fail
  generalize World.alloc (World.alloc W _) _=y0 at*;have HC0:=zq (zem _ bs 0 _ (HB.out.b H0.out (by simp+contextual)) (by omega) (by have:=HB.out.l;omega))
  go_wp2_with fail
  refine HC0.out.mono ?_;rintro e wx0 ⟨rfl,rfl⟩;clear HC0;have x0:wx0.cell? ⟨W.heap.size+1,0,none⟩=some (.int .i64 0):=by rw [zac (H0.out.blkAt 0 rfl)];rfl
  have z0:=zab (H0.out.blkAt 0 rfl) 0;cases ht:takeN bs 0 with
  | none=>
   have HNO:=zq (HP0.out.trans (by unfold pm0;rw [ht]));have HO:=zq (H0.out.store 0 (.int .i64 0)).drop;clear ht
   go_wp2_with fail
   go_step3
   exact ⟨rfl,zdg _ (by kernel_rfl) ⟨HNO.out,HO.out⟩⟩
  | some p=>
   obtain ⟨v0,a1⟩:=p;have hs1:a1≤65536:=by have h1:=(zds ht).2.2;have h2:=HB.out.l;omega
   have HP1:=zq (HP0.out.trans (by unfold pm0;rw [ht]));have H1:=zq (Own.storeTo H0.out 0 (.int .i64 (v0:Int)) (o':= .cells #[.int .i64 (v0:Int),.int .i64 0,.int .i64 0,.int .i64 0,.int .i64 0,.int .i64 0,.slice none 0 0,.slice none 0 0,.slice none 0 0,.slice none 0 0] 47 (0,0)) rfl);clear ht HP0 H0
   go_upto_region 7 with fail
   generalize World.setCell _ _ _=y1 at*;clear x0 z0;have HC1:=zq (zem _ bs a1 _ (HB.out.b H1.out (by simp+contextual)) (by omega) (by have:=HB.out.l;omega))
   go_wp2_with fail
   refine HC1.out.mono ?_;rintro e wx1 ⟨rfl,rfl⟩;clear HC1;have x1:wx1.cell? ⟨W.heap.size+1,1,none⟩=some (.int .i64 0):=by rw [zac (H1.out.blkAt 0 rfl)];rfl
   have z1:=zab (H1.out.blkAt 0 rfl) 1;cases ht:takeN bs a1 with
   | none=>
    have HNO:=zq (HP1.out.trans (by unfold pm1;rw [ht]));have HO:=zq (H1.out.store 1 (.int .i64 0)).drop;clear ht
    go_wp2_with fail
    go_step3
    exact ⟨rfl,zdg _ (by kernel_rfl) ⟨HNO.out,HO.out⟩⟩
   | some p=>
    obtain ⟨v1,a2⟩:=p;have hs2:a2≤65536:=by have h1:=(zds ht).2.2;have h2:=HB.out.l;omega
    have HP2:=zq (HP1.out.trans (by unfold pm1;rw [ht]));have H2:=zq (Own.storeTo H1.out 1 (.int .i64 (v1:Int)) (o':= .cells #[.int .i64 (v0:Int),.int .i64 (v1:Int),.int .i64 0,.int .i64 0,.int .i64 0,.int .i64 0,.slice none 0 0,.slice none 0 0,.slice none 0 0,.slice none 0 0] 47 (0,0)) rfl);clear ht HP1 H1 hs1
    go_upto_region 9 with fail
    generalize World.setCell _ _ _=y2 at*;clear x1 z1;have HC2:=zq (zem _ bs a2 _ (HB.out.b H2.out (by simp+contextual)) (by omega) (by have:=HB.out.l;omega))
    go_wp2_with fail
    refine HC2.out.mono ?_;rintro e wx2 ⟨rfl,rfl⟩;clear HC2;have x2:wx2.cell? ⟨W.heap.size+1,2,none⟩=some (.int .i64 0):=by rw [zac (H2.out.blkAt 0 rfl)];rfl
    have z2:=zab (H2.out.blkAt 0 rfl) 2;cases ht:takeN bs a2 with
    | none=>
     have HNO:=zq (HP2.out.trans (by unfold pm2;rw [ht]));have HO:=zq (H2.out.store 2 (.int .i64 0)).drop;clear ht
     go_wp2_with fail
     go_step3
     exact ⟨rfl,zdg _ (by kernel_rfl) ⟨HNO.out,HO.out⟩⟩
    | some p=>
     obtain ⟨v2,a3⟩:=p;have hs3:a3≤65536:=by have h1:=(zds ht).2.2;have h2:=HB.out.l;omega
     have HP3:=zq (HP2.out.trans (by unfold pm2;rw [ht]));have H3:=zq (Own.storeTo H2.out 2 (.int .i64 (v2:Int)) (o':= .cells #[.int .i64 (v0:Int),.int .i64 (v1:Int),.int .i64 (v2:Int),.int .i64 0,.int .i64 0,.int .i64 0,.slice none 0 0,.slice none 0 0,.slice none 0 0,.slice none 0 0] 47 (0,0)) rfl);clear ht HP2 H2 hs2
     go_upto_region 11 with fail
     generalize World.setCell _ _ _=y3 at*;clear x2 z2;have HC3:=zq (zem _ bs a3 _ (HB.out.b H3.out (by simp+contextual)) (by omega) (by have:=HB.out.l;omega))
     go_wp2_with fail
     refine HC3.out.mono ?_;rintro e wx3 ⟨rfl,rfl⟩;clear HC3;have x3:wx3.cell? ⟨W.heap.size+1,3,none⟩=some (.int .i64 0):=by rw [zac (H3.out.blkAt 0 rfl)];rfl
     have z3:=zab (H3.out.blkAt 0 rfl) 3;cases ht:takeN bs a3 with
     | none=>
      have HNO:=zq (HP3.out.trans (by unfold pm3;rw [ht]));have HO:=zq (H3.out.store 3 (.int .i64 0)).drop;clear ht
      go_wp2_with fail
      go_step3
      exact ⟨rfl,zdg _ (by kernel_rfl) ⟨HNO.out,HO.out⟩⟩
     | some p=>
      obtain ⟨v3,a4⟩:=p;have hs4:a4≤65536:=by have h1:=(zds ht).2.2;have h2:=HB.out.l;omega
      have HP4:=zq (HP3.out.trans (by unfold pm3;rw [ht]));have H4:=zq (Own.storeTo H3.out 3 (.int .i64 (v3:Int)) (o':= .cells #[.int .i64 (v0:Int),.int .i64 (v1:Int),.int .i64 (v2:Int),.int .i64 (v3:Int),.int .i64 0,.int .i64 0,.slice none 0 0,.slice none 0 0,.slice none 0 0,.slice none 0 0] 47 (0,0)) rfl);clear ht HP3 H3 hs3
      go_upto_region 13 with fail
      generalize World.setCell _ _ _=y4 at*;clear x3 z3;have HC4:=zq (zem _ bs a4 _ (HB.out.b H4.out (by simp+contextual)) (by omega) (by have:=HB.out.l;omega))
      go_wp2_with fail
      refine HC4.out.mono ?_;rintro e wx4 ⟨rfl,rfl⟩;clear HC4;have x4:wx4.cell? ⟨W.heap.size+1,4,none⟩=some (.int .i64 0):=by rw [zac (H4.out.blkAt 0 rfl)];rfl
      have z4:=zab (H4.out.blkAt 0 rfl) 4;cases ht:takeN bs a4 with
      | none=>
       have HNO:=zq (HP4.out.trans (by unfold pm4;rw [ht]));have HO:=zq (H4.out.store 4 (.int .i64 0)).drop;clear ht
       go_wp2_with fail
       go_step3
       exact ⟨rfl,zdg _ (by kernel_rfl) ⟨HNO.out,HO.out⟩⟩
      | some p=>
       obtain ⟨v4,a5⟩:=p;have hs5:a5≤65536:=by have h1:=(zds ht).2.2;have h2:=HB.out.l;omega
       have HP5:=zq (HP4.out.trans (by unfold pm4;rw [ht]));have H5:=zq (Own.storeTo H4.out 4 (.int .i64 (v4:Int)) (o':= .cells #[.int .i64 (v0:Int),.int .i64 (v1:Int),.int .i64 (v2:Int),.int .i64 (v3:Int),.int .i64 (v4:Int),.int .i64 0,.slice none 0 0,.slice none 0 0,.slice none 0 0,.slice none 0 0] 47 (0,0)) rfl);clear ht HP4 H4 hs4
       go_upto_region 15 with fail
       generalize World.setCell _ _ _=y5 at*;clear x4 z4;have HC5:=zq (zwj _ bs a5 _ (HB.out.b H5.out (by simp+contextual)) (by omega) (by have:=HB.out.l;omega))
       go_wp2_with fail
       refine HC5.out.mono ?_;rintro e wx5 ⟨rfl,rfl⟩;clear HC5;have x5:wx5.cell? ⟨W.heap.size+1,5,none⟩=some (.int .i64 0):=by rw [zac (H5.out.blkAt 0 rfl)];rfl
       have z5:=zab (H5.out.blkAt 0 rfl) 5;cases ht:takeS bs a5 with
       | none=>
        have HNO:=zq (HP5.out.trans (by unfold pm5;rw [ht]));have HO:=zq (H5.out.store 5 (.int .i64 0)).drop;clear ht
        go_wp2_with fail
        go_step3
        exact ⟨rfl,zdg _ (by kernel_rfl) ⟨HNO.out,HO.out⟩⟩
       | some p=>
        obtain ⟨v5,a6⟩:=p;have hs6:a6≤65536:=by have h1:=(takeS_in ht).2;have h2:=HB.out.l;omega
        have HP6:=zq (HP5.out.trans (by unfold pm5;rw [ht]));have H6:=zq (Own.storeTo H5.out 5 (.int .i64 v5) (o':= .cells #[.int .i64 (v0:Int),.int .i64 (v1:Int),.int .i64 (v2:Int),.int .i64 (v3:Int),.int .i64 (v4:Int),.int .i64 v5,.slice none 0 0,.slice none 0 0,.slice none 0 0,.slice none 0 0] 47 (0,0)) rfl);clear ht HP5 H5 hs5
        go_upto_region 17 with fail
        generalize World.setCell _ _ _=y6 at*;clear x5 z5;have HC6:=zq (zk9 H6.out (HB.out.sub (by simp+contextual)) a6 hs6)
        go_wp2_with fail
        refine HC6.out.mono ?_;intro e wx6 hp;clear HC6;cases ht:zb3 bs (rdReq bs) a6 with
        | none=>
         rw [ht] at hp;obtain ⟨rfl,ho⟩:=hp;have x6:wx6.cell? ⟨W.heap.size+1,6,none⟩=some (.slice none 0 0):=by rw [zac (ho.blkAt 0 rfl)];rfl
         have z6:=zab (ho.blkAt 0 rfl) 6;have HNO:=zq (HP6.out.trans (by unfold pm6;rw [ht]));have HO:=zq ((ho.store 6 (.slice none 0 0)).drop);clear ht ho
         go_wp2_with fail
         go_step3
         exact ⟨rfl,zdg _ (by kernel_rfl) ⟨HNO.out,HO.out⟩⟩
        | some p=>
         obtain ⟨v6,a7⟩:=p;rw [ht] at hp;have HP7:=zq (HP6.out.trans (by unfold pm6;rw [ht]));obtain ⟨ao6,cap6,rfl,hs7,ho⟩:=hp;have ho:=ho.perm (List.perm_append_comm (l₁:=[_]) (l₂:=[_,_]) |>.append_right _);have x6:wx6.cell? ⟨W.heap.size+1,6,none⟩=some (.slice none 0 0):=by rw [zac (ho.blkAt 0 rfl)];rfl
         have z6:=zab (ho.blkAt 0 rfl) 6;have H7:=zq (Own.storeTo ho 6 (.slice ao6 v6.length cap6) (o':= .cells #[.int .i64 (v0:Int),.int .i64 (v1:Int),.int .i64 (v2:Int),.int .i64 (v3:Int),.int .i64 (v4:Int),.int .i64 v5,.slice ao6 v6.length cap6,.slice none 0 0,.slice none 0 0,.slice none 0 0] 47 (0,0)) rfl);clear ht ho HP6 H6 hs6
         go_upto_region 19 with fail
         generalize World.setCell _ _ _=y7 at*;clear x6 z6;have HC7:=zq (zlc H7.out (HB.out.sub (by simp+contextual)) a7 hs7)
         go_wp2_with fail
         refine HC7.out.mono ?_;intro e wx7 hp;clear HC7;cases ht:zb3 bs (zb0 bs) a7 with
         | none=>
          rw [ht] at hp;obtain ⟨rfl,ho⟩:=hp;have x7:wx7.cell? ⟨W.heap.size+1,7,none⟩=some (.slice none 0 0):=by rw [zac (ho.blkAt 0 rfl)];rfl
          have z7:=zab (ho.blkAt 0 rfl) 7;have HNO:=zq (HP7.out.trans (by unfold pm7;rw [ht]));have HO:=zq ((ho.store 7 (.slice none 0 0)).drop.dropAt 1 (by simp));clear ht ho
          go_wp2_with fail
          go_step3
          exact ⟨rfl,zdg _ (by kernel_rfl) ⟨HNO.out,HO.out⟩⟩
         | some p=>
          obtain ⟨v7,a8⟩:=p;rw [ht] at hp;have HP8:=zq (HP7.out.trans (by unfold pm7;rw [ht]));obtain ⟨ao7,cap7,rfl,hs8,ho⟩:=hp;have ho:=ho.perm (List.perm_append_comm (l₁:=[_]) (l₂:=[_,_]) |>.append_right _);have x7:wx7.cell? ⟨W.heap.size+1,7,none⟩=some (.slice none 0 0):=by rw [zac (ho.blkAt 0 rfl)];rfl
          have z7:=zab (ho.blkAt 0 rfl) 7;have H8:=zq (Own.storeTo ho 7 (.slice ao7 v7.length cap7) (o':= .cells #[.int .i64 (v0:Int),.int .i64 (v1:Int),.int .i64 (v2:Int),.int .i64 (v3:Int),.int .i64 (v4:Int),.int .i64 v5,.slice ao6 v6.length cap6,.slice ao7 v7.length cap7,.slice none 0 0,.slice none 0 0] 47 (0,0)) rfl);clear ht ho HP7 H7 hs7
          go_upto_region 21 with fail
          generalize World.setCell _ _ _=y8 at*;clear x7 z7;have HC8:=zq (zla H8.out (HB.out.sub (by simp+contextual)) a8 hs8)
          go_wp2_with fail
          refine HC8.out.mono ?_;intro e wx8 hp;clear HC8;cases ht:zb3 bs (zch bs) a8 with
          | none=>
           rw [ht] at hp;obtain ⟨rfl,ho⟩:=hp;have x8:wx8.cell? ⟨W.heap.size+1,8,none⟩=some (.slice none 0 0):=by rw [zac (ho.blkAt 0 rfl)];rfl
           have z8:=zab (ho.blkAt 0 rfl) 8;have HNO:=zq (HP8.out.trans (by unfold pm8;rw [ht]));have HO:=zq (((ho.store 8 (.slice none 0 0)).drop.dropAt 1 (by simp)).dropAt 1 (by simp));clear ht ho
           go_wp2_with fail
           go_step3
           exact ⟨rfl,zdg _ (by kernel_rfl) ⟨HNO.out,HO.out⟩⟩
          | some p=>
           obtain ⟨v8,a9⟩:=p;rw [ht] at hp;have HP9:=zq (HP8.out.trans (by unfold pm8;rw [ht]));obtain ⟨ao8,cap8,cts8,rfl,hs9,hct,ho⟩:=hp;have HCT8:=zq hct;clear hct;have ho:=ho.perm (List.perm_append_comm (l₁:=[_,_]) (l₂:=[_,_]) |>.append_right _);have x8:wx8.cell? ⟨W.heap.size+1,8,none⟩=some (.slice none 0 0):=by rw [zac (ho.blkAt 0 rfl)];rfl
           have z8:=zab (ho.blkAt 0 rfl) 8;have H9:=zq (Own.storeTo ho 8 (.slice ao8 cts8.length cap8) (o':= .cells #[.int .i64 (v0:Int),.int .i64 (v1:Int),.int .i64 (v2:Int),.int .i64 (v3:Int),.int .i64 (v4:Int),.int .i64 v5,.slice ao6 v6.length cap6,.slice ao7 v7.length cap7,.slice ao8 cts8.length cap8,.slice none 0 0] 47 (0,0)) rfl);clear ht ho HP8 H8 hs8
           go_upto_region 23 with fail
           generalize World.setCell _ _ _=y9 at*;clear x8 z8;have HC9:=zq (zlb H9.out (HB.out.sub (by simp+contextual)) a9 hs9)
           go_wp2_with fail
           refine HC9.out.mono ?_;intro e wx9 hp;clear HC9;cases ht:zb3 bs (zcr bs) a9 with
           | none=>
            rw [ht] at hp;obtain ⟨rfl,ho⟩:=hp;have x9:wx9.cell? ⟨W.heap.size+1,9,none⟩=some (.slice none 0 0):=by rw [zac (ho.blkAt 0 rfl)];rfl
            have z9:=zab (ho.blkAt 0 rfl) 9;have HNO:=zq (HP9.out.trans (by unfold pm9;rw [ht]));have HO:=zq (((((ho.store 9 (.slice none 0 0)).drop.dropAt 1 (by simp)).dropAt 1 (by simp)).dropAt 1 (by simp)).dropAt 1 (by simp));clear ht ho
            go_wp2_with fail
            go_step3
            exact ⟨rfl,zdg _ (by kernel_rfl) ⟨HNO.out,HO.out⟩⟩
           | some p=>
            obtain ⟨v9,a10⟩:=p;rw [ht] at hp;have HP10:=zq (HP9.out.trans (by unfold pm9;rw [ht]));obtain ⟨ao9,cap9,cts9,rfl,hs10,hct,ho⟩:=hp;have HCT9:=zq hct;clear hct;have ho:=ho.perm (List.perm_append_comm (l₁:=[_,_]) (l₂:=[_,_]) |>.append_right _);have x9:wx9.cell? ⟨W.heap.size+1,9,none⟩=some (.slice none 0 0):=by rw [zac (ho.blkAt 0 rfl)];rfl
            have z9:=zab (ho.blkAt 0 rfl) 9;have H10:=zq (Own.storeTo ho 9 (.slice ao9 cts9.length cap9) (o':= .cells #[.int .i64 (v0:Int),.int .i64 (v1:Int),.int .i64 (v2:Int),.int .i64 (v3:Int),.int .i64 (v4:Int),.int .i64 v5,.slice ao6 v6.length cap6,.slice ao7 v7.length cap7,.slice ao8 cts8.length cap8,.slice ao9 cts9.length cap9] 47 (0,0)) rfl);clear ht ho HP9 H9 hs9;by_cases hal:a10=bs.length
            ·have haI:((a10:Int) !=(bs.length:Int))=false:=by simp;omega
             have HYES:=zq (HP10.out.trans (if_pos hal));clear HP10 hal
             go_upto_region 25 with fail
             generalize World.setCell _ _ _=y10 at*;clear x9 z9;have h9:=H10.out;have a0':y10.cell? ⟨W.heap.size+1,0,none⟩=some (.int .i64 (v0:Int)):=by rw [zac (h9.blkAt 0 rfl)];rfl
             have b0':y10.cell? ⟨W.heap.size,0,none⟩=some (.int .i64 0):=by rw [zac (h9.blkAt 1 rfl)];rfl
             have g0':=zab (h9.blkAt 1 rfl) 0;have a1':y10.cell? ⟨W.heap.size+1,1,none⟩=some (.int .i64 (v1:Int)):=by rw [zac (h9.blkAt 0 rfl)];rfl
             have b1':y10.cell? ⟨W.heap.size,1,none⟩=some (.int .i64 0):=by rw [zac (h9.blkAt 1 rfl)];rfl
             have g1':=zab (h9.blkAt 1 rfl) 1;have a2':y10.cell? ⟨W.heap.size+1,2,none⟩=some (.int .i64 (v2:Int)):=by rw [zac (h9.blkAt 0 rfl)];rfl
             have b2':y10.cell? ⟨W.heap.size,2,none⟩=some (.int .i64 0):=by rw [zac (h9.blkAt 1 rfl)];rfl
             have g2':=zab (h9.blkAt 1 rfl) 2;have a3':y10.cell? ⟨W.heap.size+1,3,none⟩=some (.int .i64 (v3:Int)):=by rw [zac (h9.blkAt 0 rfl)];rfl
             have b3':y10.cell? ⟨W.heap.size,3,none⟩=some (.int .i64 0):=by rw [zac (h9.blkAt 1 rfl)];rfl
             have g3':=zab (h9.blkAt 1 rfl) 3;have a4':y10.cell? ⟨W.heap.size+1,4,none⟩=some (.int .i64 (v4:Int)):=by rw [zac (h9.blkAt 0 rfl)];rfl
             have b4':y10.cell? ⟨W.heap.size,4,none⟩=some (.int .i64 0):=by rw [zac (h9.blkAt 1 rfl)];rfl
             have g4':=zab (h9.blkAt 1 rfl) 4;have a5':y10.cell? ⟨W.heap.size+1,5,none⟩=some (.int .i64 v5):=by rw [zac (h9.blkAt 0 rfl)];rfl
             have b5':y10.cell? ⟨W.heap.size,5,none⟩=some (.int .i64 0):=by rw [zac (h9.blkAt 1 rfl)];rfl
             have g5':=zab (h9.blkAt 1 rfl) 5;have a6':y10.cell? ⟨W.heap.size+1,6,none⟩=some (.slice ao6 v6.length cap6):=by rw [zac (h9.blkAt 0 rfl)];rfl
             have b6':y10.cell? ⟨W.heap.size,6,none⟩=some (.slice none 0 0):=by rw [zac (h9.blkAt 1 rfl)];rfl
             have g6':=zab (h9.blkAt 1 rfl) 6;have a7':y10.cell? ⟨W.heap.size+1,7,none⟩=some (.slice ao7 v7.length cap7):=by rw [zac (h9.blkAt 0 rfl)];rfl
             have b7':y10.cell? ⟨W.heap.size,7,none⟩=some (.slice none 0 0):=by rw [zac (h9.blkAt 1 rfl)];rfl
             have g7':=zab (h9.blkAt 1 rfl) 7;have a8':y10.cell? ⟨W.heap.size+1,8,none⟩=some (.slice ao8 cts8.length cap8):=by rw [zac (h9.blkAt 0 rfl)];rfl
             have b8':y10.cell? ⟨W.heap.size,8,none⟩=some (.slice none 0 0):=by rw [zac (h9.blkAt 1 rfl)];rfl
             have g8':=zab (h9.blkAt 1 rfl) 8;have a9':y10.cell? ⟨W.heap.size+1,9,none⟩=some (.slice ao9 cts9.length cap9):=by rw [zac (h9.blkAt 0 rfl)];rfl
             have b9':y10.cell? ⟨W.heap.size,9,none⟩=some (.slice none 0 0):=by rw [zac (h9.blkAt 1 rfl)];rfl
             have g9':=zab (h9.blkAt 1 rfl) 9;have k0:=h9.swap;have k1:=Own.storeTo k0 0 (.int .i64 (v0:Int)) (o':= .cells #[.int .i64 (v0:Int),.int .i64 0,.int .i64 0,.int .i64 0,.int .i64 0,.int .i64 0,.slice none 0 0,.slice none 0 0,.slice none 0 0,.slice none 0 0] 47 (0,0)) rfl;clear k0;have k2:=Own.storeTo k1 1 (.int .i64 (v1:Int)) (o':= .cells #[.int .i64 (v0:Int),.int .i64 (v1:Int),.int .i64 0,.int .i64 0,.int .i64 0,.int .i64 0,.slice none 0 0,.slice none 0 0,.slice none 0 0,.slice none 0 0] 47 (0,0)) rfl;clear k1;have k3:=Own.storeTo k2 2 (.int .i64 (v2:Int)) (o':= .cells #[.int .i64 (v0:Int),.int .i64 (v1:Int),.int .i64 (v2:Int),.int .i64 0,.int .i64 0,.int .i64 0,.slice none 0 0,.slice none 0 0,.slice none 0 0,.slice none 0 0] 47 (0,0)) rfl;clear k2;have k4:=Own.storeTo k3 3 (.int .i64 (v3:Int)) (o':= .cells #[.int .i64 (v0:Int),.int .i64 (v1:Int),.int .i64 (v2:Int),.int .i64 (v3:Int),.int .i64 0,.int .i64 0,.slice none 0 0,.slice none 0 0,.slice none 0 0,.slice none 0 0] 47 (0,0)) rfl;clear k3;have k5:=Own.storeTo k4 4 (.int .i64 (v4:Int)) (o':= .cells #[.int .i64 (v0:Int),.int .i64 (v1:Int),.int .i64 (v2:Int),.int .i64 (v3:Int),.int .i64 (v4:Int),.int .i64 0,.slice none 0 0,.slice none 0 0,.slice none 0 0,.slice none 0 0] 47 (0,0)) rfl;clear k4;have k6:=Own.storeTo k5 5 (.int .i64 v5) (o':= .cells #[.int .i64 (v0:Int),.int .i64 (v1:Int),.int .i64 (v2:Int),.int .i64 (v3:Int),.int .i64 (v4:Int),.int .i64 v5,.slice none 0 0,.slice none 0 0,.slice none 0 0,.slice none 0 0] 47 (0,0)) rfl;clear k5;have k7:=Own.storeTo k6 6 (.slice ao6 v6.length cap6) (o':= .cells #[.int .i64 (v0:Int),.int .i64 (v1:Int),.int .i64 (v2:Int),.int .i64 (v3:Int),.int .i64 (v4:Int),.int .i64 v5,.slice ao6 v6.length cap6,.slice none 0 0,.slice none 0 0,.slice none 0 0] 47 (0,0)) rfl;clear k6;have k8:=Own.storeTo k7 7 (.slice ao7 v7.length cap7) (o':= .cells #[.int .i64 (v0:Int),.int .i64 (v1:Int),.int .i64 (v2:Int),.int .i64 (v3:Int),.int .i64 (v4:Int),.int .i64 v5,.slice ao6 v6.length cap6,.slice ao7 v7.length cap7,.slice none 0 0,.slice none 0 0] 47 (0,0)) rfl;clear k7;have k9:=Own.storeTo k8 8 (.slice ao8 cts8.length cap8) (o':= .cells #[.int .i64 (v0:Int),.int .i64 (v1:Int),.int .i64 (v2:Int),.int .i64 (v3:Int),.int .i64 (v4:Int),.int .i64 v5,.slice ao6 v6.length cap6,.slice ao7 v7.length cap7,.slice ao8 cts8.length cap8,.slice none 0 0] 47 (0,0)) rfl;clear k8;have k10:=Own.storeTo k9 9 (.slice ao9 cts9.length cap9) (o':= .cells #[.int .i64 (v0:Int),.int .i64 (v1:Int),.int .i64 (v2:Int),.int .i64 (v3:Int),.int .i64 (v4:Int),.int .i64 v5,.slice ao6 v6.length cap6,.slice ao7 v7.length cap7,.slice ao8 cts8.length cap8,.slice ao9 cts9.length cap9] 47 (0,0)) rfl;clear k9;have HR:=zq k10;clear h9 k10
             go_wp2_with fail
             clear a0' b0' g0' a1' b1' g1' a2' b2' g2' a3' b3' g3' a4' b4' g4' a5' b5' g5' a6' b6' g6' a7' b7' g7' a8' b8' g8' a9' b9' g9';generalize World.setCell _ _ _=y11 at*;have f0':y11.cell? ⟨W.heap.size,0,none⟩=some (.int .i64 (v0:Int)):=by rw [zac (HR.out.blkAt 0 rfl)];rfl
             have f1':y11.cell? ⟨W.heap.size,1,none⟩=some (.int .i64 (v1:Int)):=by rw [zac (HR.out.blkAt 0 rfl)];rfl
             have f2':y11.cell? ⟨W.heap.size,2,none⟩=some (.int .i64 (v2:Int)):=by rw [zac (HR.out.blkAt 0 rfl)];rfl
             have f3':y11.cell? ⟨W.heap.size,3,none⟩=some (.int .i64 (v3:Int)):=by rw [zac (HR.out.blkAt 0 rfl)];rfl
             have f4':y11.cell? ⟨W.heap.size,4,none⟩=some (.int .i64 (v4:Int)):=by rw [zac (HR.out.blkAt 0 rfl)];rfl
             have f5':y11.cell? ⟨W.heap.size,5,none⟩=some (.int .i64 v5):=by rw [zac (HR.out.blkAt 0 rfl)];rfl
             have f6':y11.cell? ⟨W.heap.size,6,none⟩=some (.slice ao6 v6.length cap6):=by rw [zac (HR.out.blkAt 0 rfl)];rfl
             have f7':y11.cell? ⟨W.heap.size,7,none⟩=some (.slice ao7 v7.length cap7):=by rw [zac (HR.out.blkAt 0 rfl)];rfl
             have f8':y11.cell? ⟨W.heap.size,8,none⟩=some (.slice ao8 cts8.length cap8):=by rw [zac (HR.out.blkAt 0 rfl)];rfl
             have f9':y11.cell? ⟨W.heap.size,9,none⟩=some (.slice ao9 cts9.length cap9):=by rw [zac (HR.out.blkAt 0 rfl)];rfl
             have e8:=HYES.out;subst e8;exact bodyPost_ret (v:= .tuple #[.agg #[.int .i64 (v0:Int),.int .i64 (v1:Int),.int .i64 (v2:Int),.int .i64 (v3:Int),.int .i64 (v4:Int),.int .i64 v5,.slice ao6 v6.length cap6,.slice ao7 v7.length cap7,.slice ao8 cts8.length cap8,.slice ao9 cts9.length cap9],.bool true]) (by simp [results,Tryz.results75,go_sem,f0',f1',f2',f3',f4',f5',f6',f7',f8',f9']) rfl ⟨⟨v0,v1,v2,v3,v4,v5,.slice ao6 v6.length cap6,v6,.slice ao7 v7.length cap7,v7,.slice ao8 cts8.length cap8,cts8,.slice ao9 cts9.length cap9,cts9⟩,rfl,by simp only [Mm.ms,HCT8.out,HCT9.out],HR.out.drop.drop⟩
            ·have haI:((a10:Int) !=(bs.length:Int))=true:=by simp;omega
             have HNO:=zq (HP10.out.trans (if_neg hal));have HO:=zq (((((((H10.out.drop.dropAt 1 (by simp)).dropAt 1 (by simp)).dropAt 1 (by simp)).dropAt 1 (by simp)).dropAt 1 (by simp)).dropAt 1 (by simp)));clear HP10 hal
             go_wp2_with fail
             go_step3
             exact ⟨rfl,zdg _ (by kernel_rfl) ⟨HNO.out,HO.out⟩⟩
 ·rintro a' w' ⟨u,rfl,hno,ho⟩
  subst hno;have h9:=ho;have b0:w'.cell? ⟨W.heap.size,0,none⟩=some (.int .i64 0):=by rw [zac (h9.blkAt 0 rfl)];rfl
  have g0:=zab (h9.blkAt 0 rfl) 0;have b1:w'.cell? ⟨W.heap.size,1,none⟩=some (.int .i64 0):=by rw [zac (h9.blkAt 0 rfl)];rfl
  have g1:=zab (h9.blkAt 0 rfl) 1;have b2:w'.cell? ⟨W.heap.size,2,none⟩=some (.int .i64 0):=by rw [zac (h9.blkAt 0 rfl)];rfl
  have g2:=zab (h9.blkAt 0 rfl) 2;have b3:w'.cell? ⟨W.heap.size,3,none⟩=some (.int .i64 0):=by rw [zac (h9.blkAt 0 rfl)];rfl
  have g3:=zab (h9.blkAt 0 rfl) 3;have b4:w'.cell? ⟨W.heap.size,4,none⟩=some (.int .i64 0):=by rw [zac (h9.blkAt 0 rfl)];rfl
  have g4:=zab (h9.blkAt 0 rfl) 4;have b5:w'.cell? ⟨W.heap.size,5,none⟩=some (.int .i64 0):=by rw [zac (h9.blkAt 0 rfl)];rfl
  have g5:=zab (h9.blkAt 0 rfl) 5;have b6:w'.cell? ⟨W.heap.size,6,none⟩=some (.slice none 0 0):=by rw [zac (h9.blkAt 0 rfl)];rfl
  have g6:=zab (h9.blkAt 0 rfl) 6;have b7:w'.cell? ⟨W.heap.size,7,none⟩=some (.slice none 0 0):=by rw [zac (h9.blkAt 0 rfl)];rfl
  have g7:=zab (h9.blkAt 0 rfl) 7;have b8:w'.cell? ⟨W.heap.size,8,none⟩=some (.slice none 0 0):=by rw [zac (h9.blkAt 0 rfl)];rfl
  have g8:=zab (h9.blkAt 0 rfl) 8;have b9:w'.cell? ⟨W.heap.size,9,none⟩=some (.slice none 0 0):=by rw [zac (h9.blkAt 0 rfl)];rfl
  have g9:=zab (h9.blkAt 0 rfl) 9;have HR:=zq (Own.storeTo (Own.storeTo (Own.storeTo (Own.storeTo (Own.storeTo (Own.storeTo (Own.storeTo (Own.storeTo (Own.storeTo (Own.storeTo ho 0 (.int .i64 0) (o':= .cells #[.int .i64 0,.int .i64 0,.int .i64 0,.int .i64 0,.int .i64 0,.int .i64 0,.slice none 0 0,.slice none 0 0,.slice none 0 0,.slice none 0 0] 47 (0,0)) rfl) 1 (.int .i64 0) (o':= .cells #[.int .i64 0,.int .i64 0,.int .i64 0,.int .i64 0,.int .i64 0,.int .i64 0,.slice none 0 0,.slice none 0 0,.slice none 0 0,.slice none 0 0] 47 (0,0)) rfl) 2 (.int .i64 0) (o':= .cells #[.int .i64 0,.int .i64 0,.int .i64 0,.int .i64 0,.int .i64 0,.int .i64 0,.slice none 0 0,.slice none 0 0,.slice none 0 0,.slice none 0 0] 47 (0,0)) rfl) 3 (.int .i64 0) (o':= .cells #[.int .i64 0,.int .i64 0,.int .i64 0,.int .i64 0,.int .i64 0,.int .i64 0,.slice none 0 0,.slice none 0 0,.slice none 0 0,.slice none 0 0] 47 (0,0)) rfl) 4 (.int .i64 0) (o':= .cells #[.int .i64 0,.int .i64 0,.int .i64 0,.int .i64 0,.int .i64 0,.int .i64 0,.slice none 0 0,.slice none 0 0,.slice none 0 0,.slice none 0 0] 47 (0,0)) rfl) 5 (.int .i64 0) (o':= .cells #[.int .i64 0,.int .i64 0,.int .i64 0,.int .i64 0,.int .i64 0,.int .i64 0,.slice none 0 0,.slice none 0 0,.slice none 0 0,.slice none 0 0] 47 (0,0)) rfl) 6 (.slice none 0 0) (o':= .cells #[.int .i64 0,.int .i64 0,.int .i64 0,.int .i64 0,.int .i64 0,.int .i64 0,.slice none 0 0,.slice none 0 0,.slice none 0 0,.slice none 0 0] 47 (0,0)) rfl) 7 (.slice none 0 0) (o':= .cells #[.int .i64 0,.int .i64 0,.int .i64 0,.int .i64 0,.int .i64 0,.int .i64 0,.slice none 0 0,.slice none 0 0,.slice none 0 0,.slice none 0 0] 47 (0,0)) rfl) 8 (.slice none 0 0) (o':= .cells #[.int .i64 0,.int .i64 0,.int .i64 0,.int .i64 0,.int .i64 0,.int .i64 0,.slice none 0 0,.slice none 0 0,.slice none 0 0,.slice none 0 0] 47 (0,0)) rfl) 9 (.slice none 0 0) (o':= .cells #[.int .i64 0,.int .i64 0,.int .i64 0,.int .i64 0,.int .i64 0,.int .i64 0,.slice none 0 0,.slice none 0 0,.slice none 0 0,.slice none 0 0] 47 (0,0)) rfl);clear h9 ho
  go_wp2_with fail
  clear b0 g0 b1 g1 b2 g2 b3 g3 b4 g4 b5 g5 b6 g6 b7 g7 b8 g8 b9 g9;generalize World.setCell _ _ _=y11 at*;have f0:y11.cell? ⟨W.heap.size,0,none⟩=some (.int .i64 0):=by rw [zac (HR.out.blkAt 0 rfl)];rfl
  have f1:y11.cell? ⟨W.heap.size,1,none⟩=some (.int .i64 0):=by rw [zac (HR.out.blkAt 0 rfl)];rfl
  have f2:y11.cell? ⟨W.heap.size,2,none⟩=some (.int .i64 0):=by rw [zac (HR.out.blkAt 0 rfl)];rfl
  have f3:y11.cell? ⟨W.heap.size,3,none⟩=some (.int .i64 0):=by rw [zac (HR.out.blkAt 0 rfl)];rfl
  have f4:y11.cell? ⟨W.heap.size,4,none⟩=some (.int .i64 0):=by rw [zac (HR.out.blkAt 0 rfl)];rfl
  have f5:y11.cell? ⟨W.heap.size,5,none⟩=some (.int .i64 0):=by rw [zac (HR.out.blkAt 0 rfl)];rfl
  have f6:y11.cell? ⟨W.heap.size,6,none⟩=some (.slice none 0 0):=by rw [zac (HR.out.blkAt 0 rfl)];rfl
  have f7:y11.cell? ⟨W.heap.size,7,none⟩=some (.slice none 0 0):=by rw [zac (HR.out.blkAt 0 rfl)];rfl
  have f8:y11.cell? ⟨W.heap.size,8,none⟩=some (.slice none 0 0):=by rw [zac (HR.out.blkAt 0 rfl)];rfl
  have f9:y11.cell? ⟨W.heap.size,9,none⟩=some (.slice none 0 0):=by rw [zac (HR.out.blkAt 0 rfl)];rfl
  exact bodyPost_ret (v:= .tuple #[.agg #[.int .i64 0,.int .i64 0,.int .i64 0,.int .i64 0,.int .i64 0,.int .i64 0,.slice none 0 0,.slice none 0 0,.slice none 0 0,.slice none 0 0],.bool false]) (by simp [results,Tryz.results75,go_sem,f0,f1,f2,f3,f4,f5,f6,f7,f8,f9]) rfl ⟨rfl,HR.out.drop⟩
end
end Go.Proofs.YtannckelmojkoaaGreat
namespace Go.Proofs.YtannckelmojkoaaGreat
def inW (n a b:Int):Bool:=decide (a≤n)&&decide (n≤b)
def allR (n:Nat) (p:Nat→Bool):Bool:=(List.range n).all p
theorem zaw {n:Nat} {p:Nat→Bool} (h: ∀k,k<n→p k=true):allR n p=true:=by
 unfold allR;rw [List.all_eq_true];intro k hk;exact h k (List.mem_range.1 hk)
theorem zar {n:Nat} {p:Nat→Bool} (k:Nat) (hk:k<n) (h:p k=false):allR n p=false:=by
 unfold allR;rw [List.all_eq_false];exact ⟨k,List.mem_range.2 hk,by simp [h]⟩
theorem zw0 {n:Nat} {p:Nat→Bool} (h:allR n p=true) (k:Nat) (hk:k<n):p k=true:=by
 unfold allR at h;rw [List.all_eq_true] at h;exact h k (List.mem_range.2 hk)
def zc5 (r:Rq):Bool:=decide (r.kind=1) || decide (r.kind=3) || ((decide (r.kind=2) || decide (r.kind=4))&&decide (r.val=0)) || (decide (r.kind=5)&&(decide (r.key=0)&&decide (r.val=0)))
def okReq (r:Rq) (cl:Int):Bool:=
 inW r.client 0 (cl-1)&&inW r.time 1 1048576&&inW r.sl 0 1099511627775&&(inW r.key 0 63&&inW r.val (-2147483647) 2147483647)&&zc5 r
def reqAt (l:List Rq) (k:Nat):Rq:=l.getD k ⟨0,0,0,0,0,0⟩
def zbm (l:List Rq) (lo hi cl:Int):Bool:=allR l.length (fun k=>okReq (reqAt l k) cl)&&inW l.length lo hi
def zc1 (l:Vs) (k:Nat):Int×Int:=l.getD k (0,0)
def lastV (l:Vs):Nat→Int
 | 0=> -1
 | k+1=>(zc1 l k).1
def zci (l:Vs) (f:Nat):Bool:=decide (l.length=2*f+1)&&allR l.length (fun k=>decide (lastV l k<(zc1 l k).1)&&decide ((zc1 l k).1<3*(f:Int)+1))
def zd5 (l:Vs) (f:Nat):Bool:=allR l.length (fun k=>inW (zc1 l k).2 0 1099511627775)&&zci l f
def zce (f:Nat) (view inst seq:Int):Bool:=inW view 0 12&&inW inst 0 f&&inW seq 1 16
def zgg (f:Nat) (cl:Int) (c:Cp):Bool:=zce f c.view c.inst c.seq&&zbm c.rs 0 4 cl&&zd5 c.vs f
def zfa (l:List Cp) (k:Nat):Cp:=l.getD k ⟨0,0,0,[],[]⟩
def zt1 (a b:Cp):Bool:=decide (a.inst<b.inst) || (decide (a.inst=b.inst)&&decide (a.seq<b.seq))
def zft (f:Nat) (cl view:Int) (l:List Cp) (k:Nat):Bool:=zgg f cl (zfa l k)&&decide ((zfa l k).view<view)&&(decide (k=0) || zt1 (zfa l (k-1)) (zfa l k))
def zr3 (f:Nat) (cl view:Int) (l:List Cp):Bool:=allR l.length (zft f cl view l)
def zc4 (f:Nat) (cl view:Int) (vs:Vs) (cs:List Cp):Bool:=inW view 1 12&&zd5 vs f&&zr3 f cl view cs
def partAt (l:List Pa) (k:Nat):Pa:=l.getD k ⟨0,[],[],0⟩
def zbv (f:Nat) (n:Int):Bool:=inW n 0 (3*f)
def zse (f:Nat) (cl view:Int) (l:List Pa) (k:Nat):Bool:=
 zbv f (partAt l k).fm&&(decide (k=0) || decide ((partAt l (k-1)).fm<(partAt l k).fm))&&inW (partAt l k).sl 0 1099511627775&&zc4 f cl view (partAt l k).vs (partAt l k).cs
def okParts (f:Nat) (cl view:Int) (l:List Pa):Bool:=decide (l.length=2*f+1)&&allR l.length (zse f cl view l)
def zan (f:Nat) (view inst:Int):Int:=if 0≤view∧view≤12∧0≤inst∧inst≤f then (view+inst)%(3*f+1) else-1
def bareP (m:Ms) (b v c p:Bool):Bool:=(b || m.rs.isEmpty)&&(v || m.vs.isEmpty)&&(c || m.cs.isEmpty)&&(p || m.ps.isEmpty)
def zeros (xs:List Int):Bool:=xs.all (fun x=>decide (x=0))
def formK (f:Nat) (cl:Int) (m:Ms) (k:Int):Bool:=
 if k=2 then zeros [m.view,m.inst,m.seq,m.res]&&bareP m true false false false&&zbm m.rs 1 1 cl
 else if k=3 then (m.res==0)&&bareP m true false false false&&zce f m.view m.inst m.seq&&zbm m.rs 1 4 cl&&(m.fm==zan f m.view m.inst)
 else if k=4 then (m.res==0)&&bareP m true false false false&&zce f m.view m.inst m.seq&&zbm m.rs 0 4 cl
 else if k=5 then (m.res==0)&&bareP m true false false false&&zce f m.view m.inst m.seq&&zbm m.rs 0 4 cl
 else if k=6 then zeros [m.inst,m.seq,m.res]&&bareP m false false false false&&inW m.view 0 11
 else if k=7 then zeros [m.inst,m.seq,m.res]&&bareP m false true true false&&zc4 f cl m.view m.vs m.cs
 else if k=8 then zeros [m.seq,m.res]&&bareP m false false false true&&inW m.view 1 12&&inW m.inst 0 f&&(m.fm==zan f m.view m.inst)&&okParts f cl m.view m.ps
 else if k=9 then zeros [m.view,m.inst,m.seq,m.res]&&bareP m false false true false&&((m.cs.length:Int)==1)&&zgg f cl (zfa m.cs 0)
 else if k=10 then (m.view==0)&&bareP m false false false false&&inW m.inst 0 (cl-1)&&inW m.seq 1 1048576&&inW m.res (-549755813887) 549755813887
 else false
def formP (f:Nat) (cl:Int) (m:Ms):Bool:=
 if m.kind=1 then zeros [m.view,m.inst,m.seq,m.res]&&bareP m true false false false&&zbm m.rs 1 1 cl&&decide (100≤m.fm)&&(m.fm-100==(reqAt m.rs 0).client)
 else zbv f m.fm&&formK f cl m m.kind
end Go.Proofs.YtannckelmojkoaaGreat
namespace Go.Proofs.YtannckelmojkoaaGreat
open Go.RowKit Go.Heap
theorem za1 {n a b:Int} {r:Bool} (h:inW n a b=r) (w:World):Calls Tryz.prog 143 #[.int .i64 n,.int .i64 a,.int .i64 b] w fun e w'=>e= .returned (.bool r)∧w=w':=by
 subst h;unfold inW;cases h1:decide (a≤n) with
 | false=>
  go_enter Tryz.func143,Tryz.ntmps143
  go_wp2_with fail
  go_ret
  exact ⟨rfl,rfl⟩
 | true=>
  go_enter Tryz.func143,Tryz.ntmps143
  go_wp2_with fail
  go_ret
  exact ⟨rfl,rfl⟩
abbrev lkA (f:Nat) (cl:Int):Value:= .agg #[.int .i64 f,.int .i64 cl]
theorem zfh (f:Nat) (cl view inst seq:Int) (w:World):Calls Tryz.prog 141 #[lkA f cl,.int .i64 view,.int .i64 inst,.int .i64 seq] w fun e w'=>e= .returned (.bool (zce f view inst seq))∧Upd [] w w':=by
 unfold zce;cases h1:inW view 0 12 with
 | false=>
  go_enter Tryz.func141,Tryz.ntmps141
  go_wp2_with fail
  refine (za1 h1 _).mono ?_;rintro e w' ⟨rfl,rfl⟩
  go_wp2_with fail
  go_ret
  exact ⟨rfl,(Upd.refl _ _).alloc _⟩
 | true=>
  cases h2:inW inst 0 (f:Int) with
  | false=>
   go_enter Tryz.func141,Tryz.ntmps141
   go_wp2_with fail
   refine (za1 h1 _).mono ?_;rintro e w' ⟨rfl,rfl⟩
   go_wp2_with fail
   refine (za1 h2 _).mono ?_;rintro e w' ⟨rfl,rfl⟩
   go_wp2_with fail
   go_ret
   exact ⟨rfl,(Upd.refl _ _).alloc _⟩
  | true=>
   cases h3:inW seq 1 16 with
   | false=>
    go_enter Tryz.func141,Tryz.ntmps141
    go_wp2_with fail
    refine (za1 h1 _).mono ?_;rintro e w' ⟨rfl,rfl⟩
    go_wp2_with fail
    refine (za1 h2 _).mono ?_;rintro e w' ⟨rfl,rfl⟩
    go_wp2_with fail
    refine (za1 h3 _).mono ?_;rintro e w' ⟨rfl,rfl⟩
    go_wp2_with fail
    go_ret
    exact ⟨rfl,(Upd.refl _ _).alloc _⟩
   | true=>
    go_enter Tryz.func141,Tryz.ntmps141
    go_wp2_with fail
    refine (za1 h1 _).mono ?_;rintro e w' ⟨rfl,rfl⟩
    go_wp2_with fail
    refine (za1 h2 _).mono ?_;rintro e w' ⟨rfl,rfl⟩
    go_wp2_with fail
    refine (za1 h3 _).mono ?_;rintro e w' ⟨rfl,rfl⟩
    go_wp2_with fail
    go_ret
    exact ⟨rfl,(Upd.refl _ _).alloc _⟩
theorem zc3 (f:Nat) (cl n:Int) (w:World) (h1:1≤f) (h2:f≤4):Calls Tryz.prog 140 #[lkA f cl,.int .i64 n] w fun e w'=>e= .returned (.bool (zbv f n))∧Upd [] w w':=by
 have hN:=zq (fun w=>za0 (f:Int) w (by omega) (by omega));have hI:Hid (∀w,Calls Tryz.prog 143 #[.int .i64 n,.int .i64 0,.int .i64 (3*(f:Int))] w fun e w'=>e= .returned (.bool (zbv f n))∧w=w'):=zq (fun w=>za1 rfl w);generalize zbv f n=r at*;go_enter Tryz.func140,Tryz.ntmps140
 go_wp2_with fail
 refine (hN.out _).mono ?_;rintro e w' ⟨rfl,rfl⟩
 go_wp2_with fail
 refine (hI.out _).mono ?_;rintro e w' ⟨rfl,rfl⟩
 go_wp2_with fail
 go_ret
 exact ⟨rfl,(Upd.refl _ _).alloc _⟩
theorem zil (f:Nat) (view inst:Int) (w:World) (g1:1≤f) (g2:f≤4):Calls Tryz.prog 142 #[.int .i64 f,.int .i64 view,.int .i64 inst] w fun e w'=>e= .returned (.int .i64 (zan f view inst))∧Upd [] w w':=by
 have hM:=zq (fun w=>zkj (f:Int) w (by omega) (by omega));have hN:=zq (fun w=>za0 (f:Int) w (by omega) (by omega));cases h1:decide (view<0) with
 | true=>
  have hv:zan f view inst= -1:=by
   unfold zan;simp only [decide_eq_false_iff_not,decide_eq_true_eq] at h1;rw [if_neg (by omega)]
  rw [hv];clear hv;go_enter Tryz.func142,Tryz.ntmps142
  go_wp2_with fail
  refine (hM.out _).mono ?_;rintro e w' ⟨rfl,rfl⟩
  go_wp2_with fail
  go_ret
  exact ⟨rfl,Upd.refl _ _⟩
 | false=>
  cases h2:decide ((12:Int)<view) with
  | true=>
   have hv:zan f view inst= -1:=by
    unfold zan;simp only [decide_eq_false_iff_not,decide_eq_true_eq] at h1 h2;rw [if_neg (by omega)]
   rw [hv];clear hv;go_enter Tryz.func142,Tryz.ntmps142
   go_wp2_with fail
   refine (hM.out _).mono ?_;rintro e w' ⟨rfl,rfl⟩
   go_wp2_with fail
   go_ret
   exact ⟨rfl,Upd.refl _ _⟩
  | false=>
   cases h3:decide (inst<0) with
   | true=>
    have hv:zan f view inst= -1:=by
     unfold zan;simp only [decide_eq_false_iff_not,decide_eq_true_eq] at h1 h2 h3;rw [if_neg (by omega)]
    rw [hv];clear hv;go_enter Tryz.func142,Tryz.ntmps142
    go_wp2_with fail
    refine (hM.out _).mono ?_;rintro e w' ⟨rfl,rfl⟩
    go_wp2_with fail
    go_ret
    exact ⟨rfl,Upd.refl _ _⟩
   | false=>
    cases h4:decide ((f:Int)<inst) with
    | true=>
     have hv:zan f view inst= -1:=by
      unfold zan;simp only [decide_eq_false_iff_not,decide_eq_true_eq] at h1 h2 h3 h4;rw [if_neg (by omega)]
     rw [hv];clear hv;go_enter Tryz.func142,Tryz.ntmps142
     go_wp2_with fail
     refine (hM.out _).mono ?_;rintro e w' ⟨rfl,rfl⟩
     go_wp2_with fail
     go_ret
     exact ⟨rfl,Upd.refl _ _⟩
    | false=>
     have hv:zan f view inst=(view+inst).tmod (3*(f:Int)+1):=by
      unfold zan;simp only [decide_eq_false_iff_not] at h1 h2 h3 h4;rw [if_pos ⟨by omega,by omega,by omega,by omega⟩,Int.tmod_eq_emod_of_nonneg (by omega)]
     have hz:(3*(f:Int)+1==0)=false:=by simp;omega
     have hz':decide (3*(f:Int)+1=0)=false:=by simp;omega
     have hlo: -9223372036854775808≤view+inst∧view+inst≤9223372036854775807:=by simp only [decide_eq_false_iff_not] at h1 h2 h3 h4;omega
     rw [hv];clear hv;go_enter Tryz.func142,Tryz.ntmps142
     go_wp2_with fail
     refine (hM.out _).mono ?_;rintro e w' ⟨rfl,rfl⟩
     go_wp2_with fail
     refine (hN.out _).mono ?_;rintro e w' ⟨rfl,rfl⟩
     go_wp2_with fail
     go_ret
     exact ⟨rfl,Upd.refl _ _⟩
structure MmF (m:Mm):Prop where
 b: ∃a c,m.vb= .slice a m.rs.length c
 v: ∃a c,m.vv= .slice a m.vs.length c
 c: ∃a c,m.vc= .slice a m.cts.length c
 p: ∃a c,m.vp= .slice a m.pts.length c
theorem zdw {α:Type} (l:List α):l.isEmpty=((l.length:Int)==0):=by cases l<;>simp<;>omega
theorem zoq {m:Mm} (hm:MmF m) (w:World):Calls Tryz.prog 138 #[.agg (mmA m),.bool true,.bool false,.bool false,.bool false] w fun e w'=>e= .returned (.bool (bareP m.ms true false false false))∧Upd [] w w':=by
 obtain ⟨⟨ab,cb,eb⟩,⟨av,cv,ev⟩,⟨ac,cc,ec⟩,⟨ap,cp,ep⟩⟩:=hm;have hbp:bareP m.ms true false false false=((true || ((m.rs.length:Int)==0))&&(false || ((m.vs.length:Int)==0))&&(false || ((m.cts.length:Int)==0))&&(false || ((m.pts.length:Int)==0))):=by
  unfold bareP Mm.ms;simp only [zdw,List.length_map]
 rw [hbp];unfold mmA;rw [eb,ev,ec,ep];clear hbp eb ev ec ep;cases h1:((m.vs.length:Int)==0) with
 | false=>
  go_enter Tryz.func138,Tryz.ntmps138
  go_wp2_with fail
  go_ret
  exact ⟨rfl,(Upd.refl _ _).alloc _⟩
 | true=>
  cases h2:((m.cts.length:Int)==0) with
  | false=>
   go_enter Tryz.func138,Tryz.ntmps138
   go_wp2_with fail
   go_ret
   exact ⟨rfl,(Upd.refl _ _).alloc _⟩
  | true=>
   cases h3:((m.pts.length:Int)==0) with
   | false=>
    go_enter Tryz.func138,Tryz.ntmps138
    go_wp2_with fail
    go_ret
    exact ⟨rfl,(Upd.refl _ _).alloc _⟩
   | true=>
    go_enter Tryz.func138,Tryz.ntmps138
    go_wp2_with fail
    go_ret
    exact ⟨rfl,(Upd.refl _ _).alloc _⟩
theorem zm9 {m:Mm} (hm:MmF m) (w:World):Calls Tryz.prog 138 #[.agg (mmA m),.bool false,.bool false,.bool false,.bool false] w fun e w'=>e= .returned (.bool (bareP m.ms false false false false))∧Upd [] w w':=by
 obtain ⟨⟨ab,cb,eb⟩,⟨av,cv,ev⟩,⟨ac,cc,ec⟩,⟨ap,cp,ep⟩⟩:=hm;have hbp:bareP m.ms false false false false=((false || ((m.rs.length:Int)==0))&&(false || ((m.vs.length:Int)==0))&&(false || ((m.cts.length:Int)==0))&&(false || ((m.pts.length:Int)==0))):=by
  unfold bareP Mm.ms;simp only [zdw,List.length_map]
 rw [hbp];unfold mmA;rw [eb,ev,ec,ep];clear hbp eb ev ec ep;cases h0:((m.rs.length:Int)==0) with
 | false=>
  go_enter Tryz.func138,Tryz.ntmps138
  go_wp2_with fail
  go_ret
  exact ⟨rfl,(Upd.refl _ _).alloc _⟩
 | true=>
  cases h1:((m.vs.length:Int)==0) with
  | false=>
   go_enter Tryz.func138,Tryz.ntmps138
   go_wp2_with fail
   go_ret
   exact ⟨rfl,(Upd.refl _ _).alloc _⟩
  | true=>
   cases h2:((m.cts.length:Int)==0) with
   | false=>
    go_enter Tryz.func138,Tryz.ntmps138
    go_wp2_with fail
    go_ret
    exact ⟨rfl,(Upd.refl _ _).alloc _⟩
   | true=>
    cases h3:((m.pts.length:Int)==0) with
    | false=>
     go_enter Tryz.func138,Tryz.ntmps138
     go_wp2_with fail
     go_ret
     exact ⟨rfl,(Upd.refl _ _).alloc _⟩
    | true=>
     go_enter Tryz.func138,Tryz.ntmps138
     go_wp2_with fail
     go_ret
     exact ⟨rfl,(Upd.refl _ _).alloc _⟩
theorem bare_vc {m:Mm} (hm:MmF m) (w:World):Calls Tryz.prog 138 #[.agg (mmA m),.bool false,.bool true,.bool true,.bool false] w fun e w'=>e= .returned (.bool (bareP m.ms false true true false))∧Upd [] w w':=by
 obtain ⟨⟨ab,cb,eb⟩,⟨av,cv,ev⟩,⟨ac,cc,ec⟩,⟨ap,cp,ep⟩⟩:=hm;have hbp:bareP m.ms false true true false=((false || ((m.rs.length:Int)==0))&&(true || ((m.vs.length:Int)==0))&&(true || ((m.cts.length:Int)==0))&&(false || ((m.pts.length:Int)==0))):=by
  unfold bareP Mm.ms;simp only [zdw,List.length_map]
 rw [hbp];unfold mmA;rw [eb,ev,ec,ep];clear hbp eb ev ec ep;cases h0:((m.rs.length:Int)==0) with
 | false=>
  go_enter Tryz.func138,Tryz.ntmps138
  go_wp2_with fail
  go_ret
  exact ⟨rfl,(Upd.refl _ _).alloc _⟩
 | true=>
  cases h3:((m.pts.length:Int)==0) with
  | false=>
   go_enter Tryz.func138,Tryz.ntmps138
   go_wp2_with fail
   go_ret
   exact ⟨rfl,(Upd.refl _ _).alloc _⟩
  | true=>
   go_enter Tryz.func138,Tryz.ntmps138
   go_wp2_with fail
   go_ret
   exact ⟨rfl,(Upd.refl _ _).alloc _⟩
theorem bare_p {m:Mm} (hm:MmF m) (w:World):Calls Tryz.prog 138 #[.agg (mmA m),.bool false,.bool false,.bool false,.bool true] w fun e w'=>e= .returned (.bool (bareP m.ms false false false true))∧Upd [] w w':=by
 obtain ⟨⟨ab,cb,eb⟩,⟨av,cv,ev⟩,⟨ac,cc,ec⟩,⟨ap,cp,ep⟩⟩:=hm;have hbp:bareP m.ms false false false true=((false || ((m.rs.length:Int)==0))&&(false || ((m.vs.length:Int)==0))&&(false || ((m.cts.length:Int)==0))&&(true || ((m.pts.length:Int)==0))):=by
  unfold bareP Mm.ms;simp only [zdw,List.length_map]
 rw [hbp];unfold mmA;rw [eb,ev,ec,ep];clear hbp eb ev ec ep;cases h0:((m.rs.length:Int)==0) with
 | false=>
  go_enter Tryz.func138,Tryz.ntmps138
  go_wp2_with fail
  go_ret
  exact ⟨rfl,(Upd.refl _ _).alloc _⟩
 | true=>
  cases h1:((m.vs.length:Int)==0) with
  | false=>
   go_enter Tryz.func138,Tryz.ntmps138
   go_wp2_with fail
   go_ret
   exact ⟨rfl,(Upd.refl _ _).alloc _⟩
  | true=>
   cases h2:((m.cts.length:Int)==0) with
   | false=>
    go_enter Tryz.func138,Tryz.ntmps138
    go_wp2_with fail
    go_ret
    exact ⟨rfl,(Upd.refl _ _).alloc _⟩
   | true=>
    go_enter Tryz.func138,Tryz.ntmps138
    go_wp2_with fail
    go_ret
    exact ⟨rfl,(Upd.refl _ _).alloc _⟩
theorem bare_c {m:Mm} (hm:MmF m) (w:World):Calls Tryz.prog 138 #[.agg (mmA m),.bool false,.bool false,.bool true,.bool false] w fun e w'=>e= .returned (.bool (bareP m.ms false false true false))∧Upd [] w w':=by
 obtain ⟨⟨ab,cb,eb⟩,⟨av,cv,ev⟩,⟨ac,cc,ec⟩,⟨ap,cp,ep⟩⟩:=hm;have hbp:bareP m.ms false false true false=((false || ((m.rs.length:Int)==0))&&(false || ((m.vs.length:Int)==0))&&(true || ((m.cts.length:Int)==0))&&(false || ((m.pts.length:Int)==0))):=by
  unfold bareP Mm.ms;simp only [zdw,List.length_map]
 rw [hbp];unfold mmA;rw [eb,ev,ec,ep];clear hbp eb ev ec ep;cases h0:((m.rs.length:Int)==0) with
 | false=>
  go_enter Tryz.func138,Tryz.ntmps138
  go_wp2_with fail
  go_ret
  exact ⟨rfl,(Upd.refl _ _).alloc _⟩
 | true=>
  cases h1:((m.vs.length:Int)==0) with
  | false=>
   go_enter Tryz.func138,Tryz.ntmps138
   go_wp2_with fail
   go_ret
   exact ⟨rfl,(Upd.refl _ _).alloc _⟩
  | true=>
   cases h3:((m.pts.length:Int)==0) with
   | false=>
    go_enter Tryz.func138,Tryz.ntmps138
    go_wp2_with fail
    go_ret
    exact ⟨rfl,(Upd.refl _ _).alloc _⟩
   | true=>
    go_enter Tryz.func138,Tryz.ntmps138
    go_wp2_with fail
    go_ret
    exact ⟨rfl,(Upd.refl _ _).alloc _⟩
end Go.Proofs.YtannckelmojkoaaGreat
