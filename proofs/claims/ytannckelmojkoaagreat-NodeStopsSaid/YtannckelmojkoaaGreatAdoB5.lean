/- Parts of the proof, one behind the other. -/
import Derived.Test.YtannckelmojkoaaGreatAdoB4
import Derived.Deep.AppendLies
set_option maxHeartbeats 32000000
set_option maxRecDepth 100000
namespace Go.Proofs.YtannckelmojkoaaGreat
open Go.RowKit Go.Heap
theorem Tryz.infoPl : (Tryz.prog.info? 241).map (fun i => (i.zero, i.size, i.bytes)) = some (some (.agg #[.pointer none, .bool false, .bool false, .int .i64 0, .int .i64 0, .int .i64 0, .slice none 0 0, .slice none 0 0, .bool false, .int .i64 0, .int .i64 0, .int .i64 0, .slice none 0 0, .slice none 0 0]), 14, 168) := by kernel_rfl
section
variable {B : Nat} {w0 W W' : World} {ss rs : List Res} {x : Ins}
def newPm (L : Loc) (f : Nat) : Pm := ⟨L, zbx f, false, false, noCt, false, noCt⟩
theorem zsb (L : Loc) (f : Nat) : ∀ u ∈ zap (newPm L f), u.oneCell' = true := by
 intro u hu
 simp only [zap, newPm, noCt, List.mem_cons, List.not_mem_nil, or_false] at hu
 rcases hu with rfl | rfl | rfl | rfl | rfl | rfl | rfl | rfl | rfl | rfl | rfl | rfl | rfl | rfl <;> rfl
def NewP (B : Nat) (w0 : World) (st : In) (ss : List Res) (e : Ending) (w' : World) : Prop := ∃ x : Ins, e = .returned (.tuple #[x.ptr, .int .i64 0]) ∧ x.st = st ∧ Own B w0 w' (instR x :: ss)
def MkI (B : Nat) (w0 w : World) (i f : Nat) (num ahead : Int) (k : Nat) (ss : List Res) : Prop :=
 ∃ (ls : List Loc) (ao : Option Addr) (cp : Nat), ls.length = k ∧ (∀ L ∈ ls, L.f = f) ∧
  Own B w0 w (ownR 241 14 (.slice ao k cp) k ((ls.map fun L => newPm L f).flatMap zap) :: blk i (insO f num ahead 0 true (.slice ao k cp)) :: ((ls.map fun L => newPm L f).map pmR ++ ss))
theorem mk_more {i f : Nat} {num ahead : Int} {k g cap2 : Nat} {ls : List Loc} {L : Loc} {ao : Option Addr} {cp : Nat} (hl : ls.length = k) (hlf : ∀ L ∈ ls, L.f = f) (hf : L.f = f)
  (h : Own B w0 W (blk i (setIn 5 (.slice (some ⟨g, 0, none⟩) (k + 1) cap2) (insO f num ahead 0 true (.slice ao k cp))) :: ownR 241 14 (.slice (some ⟨g, 0, none⟩) (k + 1) cap2) (k + 1) ((ls.map fun L => newPm L f).flatMap zap ++ zap (newPm L f)) :: slotR L (zbx f) :: ((ls.map fun L => newPm L f).map pmR ++ ss))) : MkI B w0 W i f num ahead (k + 1) ss := by
 refine ⟨ls ++ [L], some ⟨g, 0, none⟩, cap2, by simp [hl], fun L' hL' => ?_, ?_⟩
 ·rcases List.mem_append.1 hL' with h | h
  ·exact hlf L' h
  ·simp at h; subst h; exact hf
 ·have h2 := h.rot
  have h3 : Own B w0 W (slotR L (zbx f) :: ([ownR 241 14 (.slice (some ⟨g, 0, none⟩) (k + 1) cap2) (k + 1) ((ls.map fun L => newPm L f).flatMap zap ++ zap (newPm L f)), blk i (insO f num ahead 0 true (.slice (some ⟨g, 0, none⟩) (k + 1) cap2))] ++ ((ls.map fun L => newPm L f).map pmR ++ ss))) := h2.perm (List.Perm.cons _ (List.Perm.swap _ _ _))
  have h4 := Own.perm (ss := ([ownR 241 14 (.slice (some ⟨g, 0, none⟩) (k + 1) cap2) (k + 1) ((ls.map fun L => newPm L f).flatMap zap ++ zap (newPm L f)), blk i (insO f num ahead 0 true (.slice (some ⟨g, 0, none⟩) (k + 1) cap2))] ++ (ls.map fun L => newPm L f).map pmR) ++ slotR L (zbx f) :: ss) h3 (by
   rw [← List.append_assoc]
   exact List.perm_middle.symm)
  simp only [List.map_append, List.flatMap_append, List.map_cons, List.map_nil, List.flatMap_cons, List.flatMap_nil, List.append_nil, List.append_assoc, List.cons_append, List.nil_append] at h4 ⊢
  exact h4
theorem mk_done {i f : Nat} {num ahead : Int} {ls : List Loc} {ao : Option Addr} {cp : Nat} (hf1 : 1 ≤ f) (hf2 : f ≤ 4) (ha1 : 1 ≤ ahead) (ha2 : ahead ≤ 16) (hl : ls.length = 16) (hlf : ∀ L ∈ ls, L.f = f)
  (h : Own B w0 W (ownR 241 14 (.slice ao 16 cp) 16 ((ls.map fun L => newPm L f).flatMap zap) :: blk i (insO f num ahead 0 true (.slice ao 16 cp)) :: ((ls.map fun L => newPm L f).map pmR ++ ss))) : ∃ x : Ins, x.i = i ∧ x.st = newI f num ahead ∧ Own B w0 W (instR x :: ss) := by
 have hown := zak h.head
 rcases hown.2 with ⟨h1, h2⟩ | ⟨g, cap, cur, h1, hb, hg, q1, q2, q3, q4⟩
 ·omega
 ·simp only [Value.slice.injEq] at h1
  obtain ⟨rfl, -, rfl⟩ := h1
  have h2 := h.alter (r' := segR g 241 ((ls.map fun L => newPm L f).flatMap zap)) (zf9 h.head) (fun k hk => by simp [ownR, blkOf, segR] at hk ⊢; exact hk)
  refine ⟨⟨i, g, cp, f, num, ahead, 0, true, ls.map fun L => newPm L f⟩, rfl, ?_, zef ?_⟩
  ·simp only [Ins.st, newI, In.mk.injEq, true_and, List.map_map]
   apply List.ext_getElem?
   intro j
   rw [List.getElem?_map, List.getElem?_replicate]
   by_cases hj : j < 16
   ·rw [if_pos hj, List.getElem?_eq_getElem (by omega)]; rfl
   ·rw [if_neg hj, List.getElem?_eq_none (by omega)]; rfl
  ·have h3 : Own B w0 W (zg7 ⟨i, g, cp, f, num, ahead, 0, true, ls.map fun L => newPm L f⟩ :: segR g 241 ((ls.map fun L => newPm L f).flatMap zap) :: blk i (insO f num ahead 0 true (.slice (some ⟨g, 0, none⟩) 16 cp)) :: ((ls.map fun L => newPm L f).map pmR ++ ss)) := h2.new (Upd.refl [] _) ⟨[], ⟨⟨⟨by simp [hl], hf1, hf2, fun p hp => ?_, q1, ha1, ha2, by simp⟩, fun p hp => ?_⟩, by simp⟩, by simp, fun k hk => h2.lt k hk⟩ (by simp [zg7, imm])
   ·exact h3.swap.rot
   ·simp only [List.mem_map] at hp
    obtain ⟨L, hL, rfl⟩ := hp
    exact hlf L hL
   ·simp only [List.mem_map] at hp
    obtain ⟨L, hL, rfl⟩ := hp
    exact ⟨⟨ReadsIn.nil _ _ _, by simp [newPm, noCt], ReadsIn.nil _ _ _, by simp [newPm, noCt]⟩, ⟨ReadsIn.nil _ _ _, by simp [newPm, noCt], ReadsIn.nil _ _ _, by simp [newPm, noCt]⟩⟩
theorem zt3 (f : Nat) (num ahead : Int) (hf1 : 1 ≤ f) (hf2 : f ≤ 4) (hn1 : 0 ≤ num) (hn2 : num ≤ f) (ha1 : 1 ≤ ahead) (ha2 : ahead ≤ 16) (h : Own B w0 W ss) :
  Calls Tryz.prog 82 #[.int .i64 f, .int .i64 num, .int .i64 ahead] W (NewP B w0 (newI f num ahead) ss) := by
 obtain ⟨i0, hi, hz0, hz1, hz2⟩ := info_parts Tryz.infoPl
 have hb1 : decide ((f : Int) < 1) = false := by simp; omega
 have hb2 : decide (4 < (f : Int)) = false := by simp; omega
 have hb3 : decide (num < 0) = false := by simp; omega
 have hb4 : decide ((f : Int) < num) = false := by simp; omega
 have hb5 : decide (ahead < 1) = false := by simp; omega
 have hb6 : decide (16 < ahead) = false := by simp; omega
 have h0 : MkI B w0 (W.alloc (insO f num ahead 0 true (.slice none 0 0))) W.heap.size f num ahead 0 ss := ⟨[], none, 0, rfl, by simp, (h.box (insO f num ahead 0 true (.slice none 0 0))).row0⟩
 have H0 := Lib.hid h0
 clear h0 h
 go_enter Tryz.func82, Tryz.ntmps82
 go_wp2_with fail
 go_loopw [39] (fun i wr => ∃ k : Nat, k ≤ 16 ∧ i = .int .i64 k ∧ Hid (MkI B w0 wr W.heap.size f num ahead k ss)) (fun i _ => 16 - (intOf i).toNat)
 case atStart => exact ⟨0, by omega, rfl, H0⟩
 case round =>
  clear H0
  obtain ⟨k, hk, rfl, HM⟩ := hrel
  by_cases hlt : k < 16
  ·have hkI : (k : Int) < 16 := by omega
   obtain ⟨ls, ao, cp, hl, hlf, hown⟩ := HM.out
   have HL := Lib.hid hl
   have HLF := Lib.hid hlf
   have HC := Lib.hid (own_new f hf1 hf2 hown)
   clear hl hlf hown
   go_wp2_with fail
   refine HC.out.mono ?_
   rintro e w2 ⟨L, rfl, hLf, -, h2⟩
   have H2 := Lib.hid h2
   have HF := Lib.hid hLf
   clear h2 hLf HC
   have hbl := H2.out.drop.drop.blk_out
   have c5 : w2.cell? ⟨W.heap.size, 5, none⟩ = some (.slice ao k cp) := by rw [zac hbl]; rfl
   clear hbl
   have HO := Lib.hid (zak (H2.out.alloc (.cells (zap (newPm L f)).toArray 241)).drop.head)
   go_wp2_with (at_builtin; refine wpList_append_lies _ rfl (.tmp 50) (.tmp 53) 212 rfl 0 241 i0 (.agg #[.pointer none, .bool false, .bool false, .int .i64 0, .int .i64 0, .int .i64 0, .slice none 0 0, .slice none 0 0, .bool false, .int .i64 0, .int .i64 0, .int .i64 0, .slice none 0 0, .slice none 0 0]) 14 168 Tryz.underlying212 hi hz0 hz1 hz2 rfl (by decide) _ k _ rfl HO.out ⟨w2.heap.size, 0, none⟩ 1 1 (zap (newPm L f)) rfl rfl ?c1 ?c2 (by decide) ?c3 ?c4 (Nat.zero_le _) _ rfl ?c6)
   case c1 => exact World.news_of_block (heap_alloc_new w2 _)
   case c2 => exact zsb L f
   case c3 => unfold maxLen; omega
   case c4 => omega
   case c6 =>
    intro g cap2 w3 hown hgrow hat hlt
    have h3 := ((H2.out.alloc (.cells (zap (newPm L f)).toArray 241)).swap.grow hgrow (by rw [za4]; exact hat) hown)
    have H3 := Lib.hid h3
    clear hown hgrow hat hlt h3 HO c5
    have hbl := H3.out.drop.drop.blk_out
    have c5 : w3.cell? ⟨W.heap.size, 5, none⟩ = some (.slice ao k cp) := by rw [zac hbl]; rfl
    have fz := zab hbl 5
    clear hbl
    go_wp2_with fail
    have H4 := Lib.hid ((H3.out.rot.store 5 (.slice (some ⟨g, 0, none⟩) (k + 1) cap2)))
    go_roundw
    case rel => exact ⟨k + 1, by omega, by go_num, Lib.hid (mk_more HL.out HLF.out HF.out H4.out)⟩
    case measure => simp [intOf]; omega
  ·have hk16 : k = 16 := by omega
   subst hk16
   obtain ⟨ls, ao, cp, hl, hlf, hown⟩ := HM.out
   have HX := Lib.hid (mk_done hf1 hf2 ha1 ha2 hl hlf hown)
   clear hl hlf hown
   go_wp2_with fail
   go_ret2
   obtain ⟨x, h1, h2, h3⟩ := HX.out
   exact ⟨x, by simp [Ins.ptr, h1], h2, h3⟩
end
def AtI (B : Nat) (w0 w : World) (i : Nat) (st : In) (ss : List Res) : Prop := ∃ x : Ins, x.i = i ∧ x.st = st ∧ Own B w0 w (instR x :: ss)
section
variable {B : Nat} {w0 W W' : World} {ss rs : List Res} {x : Ins} {i : Nat} {st : In}
theorem AtI.upd0 (h : AtI B w0 W i st ss) (hu : Upd [] W W') : AtI B w0 W' i st ss := let ⟨x, h1, h2, h3⟩ := h; ⟨x, h1, h2, h3.upd0 hu⟩
theorem AtI.alloc (h : AtI B w0 W i st ss) (o : Obj) : AtI B w0 (W.alloc o) i st ss := h.upd0 ((Upd.refl _ _).alloc o)
theorem AtI.drew (h : AtI B w0 W i st ss) : AtI B w0 W.drew i st ss := h.upd0 (Upd.refl _ _).drew
theorem AtI.below (h : AtI B w0 W i st ss) : Below B w0 W := let ⟨_, _, _, h3⟩ := h; h3.below
theorem AtI.ss_own (h : AtI B w0 W i st ss) : Own B w0 W ss := let ⟨_, _, _, h3⟩ := h; h3.drop
theorem zt7 (h : AtI B w0 W i st ss) : Calls Tryz.prog 156 #[.pointer (some ⟨i, 0, none⟩)] W fun e w' => e = .returned (.int .i64 (doneI st)) ∧ W = w' := by
 obtain ⟨x, h1, rfl, h3⟩ := h
 exact zkq h3 h1
theorem ai_next (h : AtI B w0 W i st ss) : Calls Tryz.prog 154 #[.pointer (some ⟨i, 0, none⟩)] W fun e w' => e = .returned (.int .i64 (nextI st)) ∧ Upd [] W w' := by
 obtain ⟨x, h1, rfl, h3⟩ := h
 exact zuq h3 h1
theorem zf1 (h : AtI B w0 W i st ss) : Calls Tryz.prog 73 #[.pointer (some ⟨i, 0, none⟩)] W fun e w' => e = .returned (.bool st.on) ∧ W = w' := by
 obtain ⟨x, h1, rfl, h3⟩ := h
 exact zcu h3 h1
theorem zra (h : AtI B w0 W i st ss) (seq : Int) : Calls Tryz.prog 220 #[.pointer (some ⟨i, 0, none⟩), .int .i64 seq] W (ztu W (zfk st seq)) := by
 obtain ⟨x, h1, rfl, h3⟩ := h
 exact zos h3 h1 seq
def Told (W w' : World) (r : Option Cp) (c : Ct) : Prop :=
 c.cp = r.getD noCp ∧ (c.rs.length ≤ 100000 ∧ c.vs.length ≤ 100000) ∧ Bat w' c.vb c.rs ∧ Vts w' c.vv c.vs ∧ (∀ k ∈ blkOf c.vb, W.heap.size ≤ k) ∧ ∀ k ∈ blkOf c.vv, W.heap.size ≤ k
theorem zqw {r : Option Cp} {c : Ct} {p : Cp} (h : Told W W' r c) (hp : r.getD noCp = p) : ∃ ao cap co cav, c = ⟨p.view, p.inst, p.seq, .slice ao p.rs.length cap, .slice co p.vs.length cav, p.rs, p.vs⟩ ∧ (p.rs.length ≤ 100000 ∧ p.vs.length ≤ 100000) ∧
  Bat W' (.slice ao p.rs.length cap) p.rs ∧ Vts W' (.slice co p.vs.length cav) p.vs ∧ (∀ k ∈ blkOf (.slice ao p.rs.length cap), W.heap.size ≤ k) ∧ ∀ k ∈ blkOf (.slice co p.vs.length cav), W.heap.size ≤ k := by
 subst hp
 obtain ⟨view, inst, seq, vb, vv, rs, vs⟩ := c
 obtain ⟨h1, h2, h3, h4, h5, h6⟩ := h
 simp only [Ct.cp] at h1 h2 h3 h4 h5 h6
 rw [← h1]
 obtain ⟨ao, cap, rfl⟩ := zeh h3
 obtain ⟨co, cav, rfl⟩ := zgi h4
 exact ⟨ao, cap, co, cav, rfl, h2, h3, h4, h5, h6⟩
end
section
variable {B : Nat} {w0 W W' : World} {ss rs : List Res} {x : Ins}
theorem zhm {c : Cp} {st : In} (h : zc5 st c = false) : zdk st c = st := by
 unfold zdk; rw [h]; cases idx c.seq <;> rfl
theorem zsz (h : Own B w0 W (instR x :: ss)) {i : Nat} (hi : x.i = i) (c : Ct) (hb : Bat W c.vb c.rs) (hbn : c.rs.length ≤ 100000) (hv : Vts W c.vv c.vs) (hvn : c.vs.length ≤ 100000) :
  Calls Tryz.prog 240 #[.pointer (some ⟨i, 0, none⟩), ctAgg c] W (InsP B w0 W i (zdk x.st c.cp) ss (.bool (zc5 x.st c.cp))) := by
 subst hi
 obtain ⟨view, inst, seq, vb, vv, l, vs⟩ := c
 simp only at hb hbn hv hvn
 obtain ⟨ao, cap, rfl⟩ := zeh hb
 obtain ⟨co, cav, rfl⟩ := zgi hv
 have hu0 : Upd [] W (W.alloc (ctO view inst seq (.slice ao l.length cap) (.slice co vs.length cav))) := (Upd.refl _ _).alloc _
 have HB := Lib.hid (hb.upd hu0 (by simp))
 have HV := Lib.hid (Reads.upd hv hu0 (by simp))
 have hz := zec (h.box (ctO view inst seq (.slice ao l.length cap) (.slice co vs.length cav))).swap
 obtain ⟨-, c1, -, -, -, c5, l1, l2⟩ := zeg hz
 obtain ⟨f0, f1, f2, f3, f4, -, -⟩ := zc2 (zef hz).drop.blk_out
 clear hb hv hu0
 cases hk : idx seq with
 | none =>
  have hs := zj8 hk
  have HE := Lib.hid (show zc5 x.st ⟨view, inst, seq, l, vs⟩ = false by simp [zc5, zh2 hk])
  have HA := Lib.hid (at_no x.i x.b x.cap seq _ hs c5)
  have HZ := Lib.hid hz
  clear hz h hk hs c5 HB HV c1
  go_enter Tryz.func240, Tryz.ntmps240
  go_wp2_with fail
  refine HA.out.mono ?_
  rintro e w' ⟨rfl, rfl⟩
  go_wp2_with fail
  go_quiet (fail)
  go_wp2_with fail
  go_ret
  rw [show (Ct.cp ⟨view, inst, seq, .slice ao l.length cap, .slice co vs.length cav, l, vs⟩) = ⟨view, inst, seq, l, vs⟩ from rfl, HE.out]
  exact zhw ((zef HZ.out).swap.drop.upd0 ((Upd.refl _ _).drewN _)) (zhm HE.out)
 | some k =>
  obtain ⟨hl, hp⟩ := zie (oi_ok hz) hk
  obtain ⟨i1, i2⟩ := zr9 hk
  have HA := Lib.hid (zw2 x.i x.b x.cap seq _ (by omega) (by omega) c5)
  have hks : seq.toNat - 1 = k := by omega
  rw [hks] at HA
  have cd := zpw hz k hl
  cases hd : x.l[k].done
  ·rw [hd] at cd
   by_cases hin : inst = x.num
   ·have hinb : (inst != x.num) = false := by simp [hin]
    have HE := Lib.hid (show zc5 x.st ⟨view, inst, seq, l, vs⟩ = true by simp only [zc5, hp]; simp [Pm.pl, Ins.st, hd, hin])
    have HI := Lib.hid (show zdk x.st ⟨view, inst, seq, l, vs⟩ = x.st.upd k fun p => { p with done := true, dw := ⟨view, inst, seq, l, vs⟩ } by simp only [zdk, hk]; rw [if_pos HE.out])
    have HZ := Lib.hid hz
    clear hz h hk hp i2 hks hd c5 hin
    go_enter Tryz.func240, Tryz.ntmps240
    go_wp2_with fail
    refine HA.out.mono ?_
    rintro e w' ⟨rfl, rfl⟩
    go_wp2_with fail
    go_quiet (fail)
    go_wp2_with fail
    refine (zn1 ⟨view, inst, seq, .slice ao l.length cap, .slice co vs.length cav, l, vs⟩ _ (HB.out.upd (M := []) ((Upd.refl _ _).drewN _) (by simp)) hbn (Reads.upd (M := []) HV.out ((Upd.refl _ _).drewN _) (by simp)) hvn).mono ?_
    rintro e w3 ⟨⟨view', inst', seq', vb', vv', l', vs'⟩, rfl, hcp, hu3, hb3, hv3, n1, n2⟩
    simp only at hb3 hv3 n1 n2
    simp only [Ct.cp, Cp.mk.injEq] at hcp
    obtain ⟨rfl, rfl, rfl, rfl, rfl⟩ := hcp
    obtain ⟨ao6, cap6, rfl⟩ := zeh hb3
    obtain ⟨co6, cav6, rfl⟩ := zgi hv3
    have H3 := Lib.hid (znx (Own.upd0 HZ.out ((Upd.refl _ _).drewN _)) hu3 hb3 hv3 n1 n2)
    clear hu3 hb3 hv3 n1 n2 HA HB HV f0 f1 f2 f3 f4 cd c1
    have ho3 := H3.out.drop.drop
    have c8 := oi_at ho3 k hl 8 (by omega)
    have c9 := oi_at ho3 k hl 9 (by omega)
    have c10 := oi_at ho3 k hl 10 (by omega)
    have c11 := oi_at ho3 k hl 11 (by omega)
    have c12 := oi_at ho3 k hl 12 (by omega)
    have c13 := oi_at ho3 k hl 13 (by omega)
    obtain ⟨fzb, -⟩ := oi_fz ho3
    have z8 := fzb (k * 14 + 8)
    have z9 := fzb (k * 14 + 9)
    have z10 := fzb (k * 14 + 10)
    have z11 := fzb (k * 14 + 11)
    have z12 := fzb (k * 14 + 12)
    have z13 := fzb (k * 14 + 13)
    clear ho3 fzb
    simp only [zap, List.getElem?_cons_succ, List.getElem?_cons_zero] at c8 c9 c10 c11 c12 c13
    go_wp2_with fail
    have H4 := Lib.hid (oi_dw H3.out k hl view' inst' seq' hbn hvn)
    go_ret
    rw [show (Ct.cp ⟨view', inst', seq', .slice ao l'.length cap, .slice co vs'.length cav, l', vs'⟩) = ⟨view', inst', seq', l', vs'⟩ from rfl, HE.out, HI.out]
    refine ⟨rfl, x.sl k { x.l[k] with done := true, dw := ⟨view', inst', seq', .slice ao6 l'.length cap6, .slice co6 vs'.length cav6, l', vs'⟩ }, rfl, st_set x k hl _ _ rfl, ?_⟩
    exact (zef H4.out).swap.drop
   ·have hinb : (inst != x.num) = true := by simp [hin]
    have HE := Lib.hid (show zc5 x.st ⟨view, inst, seq, l, vs⟩ = false by simp only [zc5, hp]; simp [Pm.pl, Ins.st, hin])
    have HZ := Lib.hid hz
    clear hz h hk hp i2 hks hd c5 hin
    go_enter Tryz.func240, Tryz.ntmps240
    go_wp2_with fail
    refine HA.out.mono ?_
    rintro e w' ⟨rfl, rfl⟩
    go_wp2_with fail
    go_quiet (fail)
    go_wp2_with fail
    go_ret
    rw [show (Ct.cp ⟨view, inst, seq, .slice ao l.length cap, .slice co vs.length cav, l, vs⟩) = ⟨view, inst, seq, l, vs⟩ from rfl, HE.out]
    exact zhw ((zef HZ.out).swap.drop.upd0 ((Upd.refl _ _).drewN _)) (zhm HE.out)
  ·rw [hd] at cd
   have HE := Lib.hid (show zc5 x.st ⟨view, inst, seq, l, vs⟩ = false by simp only [zc5, hp]; simp [Pm.pl, hd])
   have HZ := Lib.hid hz
   clear hz h hk hp i2 hks hd c5
   go_enter Tryz.func240, Tryz.ntmps240
   go_wp2_with fail
   refine HA.out.mono ?_
   rintro e w' ⟨rfl, rfl⟩
   go_wp2_with fail
   go_quiet (fail)
   go_wp2_with fail
   go_ret
   rw [show (Ct.cp ⟨view, inst, seq, .slice ao l.length cap, .slice co vs.length cav, l, vs⟩) = ⟨view, inst, seq, l, vs⟩ from rfl, HE.out]
   exact zhw ((zef HZ.out).swap.drop.upd0 ((Upd.refl _ _).drewN _)) (zhm HE.out)
theorem zwp {i : Nat} {st : In} (h : AtI B w0 W i st ss) (c : Ct) (hb : Bat W c.vb c.rs) (hbn : c.rs.length ≤ 100000) (hv : Vts W c.vv c.vs) (hvn : c.vs.length ≤ 100000) :
  Calls Tryz.prog 240 #[.pointer (some ⟨i, 0, none⟩), ctAgg c] W fun e w' => e = .returned (.bool (zc5 st c.cp)) ∧ AtI B w0 w' i (zdk st c.cp) ss := by
 obtain ⟨x, h1, rfl, h3⟩ := h
 exact zsz h3 h1 c hb hbn hv hvn
end
section
variable {B : Nat} {w0 W W' : World} {ss rs : List Res} {x : Ins}
theorem zfi (h : Own B w0 W (instR x :: ss)) {i : Nat} (hi : x.i = i) (seq : Int) : Calls Tryz.prog 110 #[.pointer (some ⟨i, 0, none⟩), .int .i64 seq] W (CertP B w0 W i (zau x.st seq) x.st ss) := by
 subst hi
 have hz := zec (h.box zct).swap
 obtain ⟨-, -, -, -, -, c5, l1, l2⟩ := zeg hz
 cases hk : idx seq with
 | none =>
  have hs := zj8 hk
  have HE := Lib.hid (show zau x.st seq = none by simp [zau, zh2 hk])
  have HA := Lib.hid (at_no x.i x.b x.cap seq _ hs c5)
  have H := Lib.hid h
  clear hz h hk hs c5
  go_enter Tryz.func110, Tryz.ntmps110
  go_wp2_with fail
  refine HA.out.mono ?_
  rintro e w' ⟨rfl, rfl⟩
  go_wp2_with fail
  exact bodyPost_ret (v := .tuple #[ctAgg noCt, .bool false]) (by simp [results, Tryz.results110, go_sem, noCt]) rfl (zju (H.out.upd0 ((Upd.refl _ _).alloc _)) HE.out rfl)
 | some k =>
  obtain ⟨hl, hp⟩ := zie (oi_ok hz) hk
  obtain ⟨i1, i2⟩ := zr9 hk
  have HA := Lib.hid (zw2 x.i x.b x.cap seq _ (by omega) (by omega) c5)
  have hks : seq.toNat - 1 = k := by omega
  rw [hks] at HA
  have cd := zpw hz k hl
  cases hd : x.l[k].done
  ·rw [hd] at cd
   have HE := Lib.hid (show zau x.st seq = none by simp only [zau, hp]; simp [Pm.pl, hd])
   have H := Lib.hid h
   clear hz h hk hp i2 hks hd c5
   go_enter Tryz.func110, Tryz.ntmps110
   go_wp2_with fail
   refine HA.out.mono ?_
   rintro e w' ⟨rfl, rfl⟩
   go_wp2_with fail
   exact bodyPost_ret (v := .tuple #[ctAgg noCt, .bool false]) (by simp [results, Tryz.results110, go_sem, noCt]) rfl (zju (H.out.upd0 ((Upd.refl _ _).alloc _)) HE.out rfl)
  ·rw [hd] at cd
   have HCI := Lib.hid (show zau x.st seq = some x.l[k].dw.cp by simp only [zau, hp]; simp [Pm.pl, hd])
   have c9 := oi_at hz k hl 9 (by omega)
   have c10 := oi_at hz k hl 10 (by omega)
   have c11 := oi_at hz k hl 11 (by omega)
   have c12 := oi_at hz k hl 12 (by omega)
   have c13 := oi_at hz k hl 13 (by omega)
   simp only [zap, List.getElem?_cons_succ, List.getElem?_cons_zero] at c9 c10 c11 c12 c13
   obtain ⟨-, q1, q2, q3, q4⟩ := oi_cert hz k hl
   have HF := Lib.hid (zn1 x.l[k].dw _ q1 q3 q2 q4)
   have HZ := Lib.hid hz
   clear hz h hk hp i2 hks hd c5 q1 q2
   generalize x.l[k].dw = c at *
   go_enter Tryz.func110, Tryz.ntmps110
   go_wp2_with fail
   refine HA.out.mono ?_
   rintro e w' ⟨rfl, rfl⟩
   go_wp2_with fail
   refine HF.out.mono ?_
   rintro e w5 ⟨⟨view', inst', seq', vb', vv', rs', vs'⟩, rfl, hcp, hu5, hb5, hv5, nb, nv⟩
   simp only at hb5 hv5 nb nv
   obtain ⟨ao6, cap6, rfl⟩ := zeh hb5
   obtain ⟨co6, cav6, rfl⟩ := zgi hv5
   have H5 := Lib.hid ((znx (zef HZ.out).swap hu5 hb5 hv5 nb nv).rot)
   have HCP := Lib.hid hcp
   have HB5 := Lib.hid hb5
   have HV5 := Lib.hid hv5
   have NB := Lib.hid nb
   have NV := Lib.hid nv
   clear hcp hu5 hb5 hv5 nb nv HZ HF c9 c10 c11 c12 c13 cd
   obtain ⟨f0, f1, f2, f3, f4, fl, fz⟩ := zc2 H5.out.blk_out
   have fz0 := fz 0
   have fz1 := fz 1
   have fz2 := fz 2
   have fz3 := fz 3
   have fz4 := fz 4
   clear fz
   go_wp2_with fail
   have H6 := Lib.hid (own_st5 H5.out view' inst' seq' (.slice ao6 rs'.length cap6) (.slice co6 vs'.length cav6))
   have HU6 := Lib.hid (upd_st5 w5 W.heap.size view' inst' seq' (.slice ao6 rs'.length cap6) (.slice co6 vs'.length cav6))
   generalize ((((w5.setCell ⟨W.heap.size, 0, none⟩ (.int .i64 view')).setCell ⟨W.heap.size, 1, none⟩ (.int .i64 inst')).setCell ⟨W.heap.size, 2, none⟩ (.int .i64 seq')).setCell ⟨W.heap.size, 3, none⟩ (.slice ao6 rs'.length cap6)).setCell ⟨W.heap.size, 4, none⟩ (.slice co6 vs'.length cav6) = w6 at *
   clear f0 f1 f2 f3 f4 fl fz0 fz1 fz2 fz3 fz4 H5
   obtain ⟨f0, f1, f2, f3, f4, fl, -⟩ := zc2 H6.out.blk_out
   refine bodyPost_ret (v := .tuple #[ctAgg ⟨view', inst', seq', .slice ao6 rs'.length cap6, .slice co6 vs'.length cav6, rs', vs'⟩, .bool true]) (by simp [results, Tryz.results110, go_sem, f0, f1, f2, f3, f4]) rfl ?_
   have hcp := HCP.out
   have e4 : rs' = c.rs := congrArg Cp.rs hcp
   have e5 : vs' = c.vs := congrArg Cp.vs hcp
   have hnew : ∀ (v : Value), (∀ k ∈ blkOf v, (W.alloc zct).heap.size ≤ k) → (∀ k ∈ blkOf v, W.heap.size ≤ k) ∧ ∀ k ∈ blkOf v, k ∉ [W.heap.size] := fun v hv => ⟨fun k hk => by have := hv k hk; simp at this; omega, fun k hk hn => by have := hv k hk; simp at this hn; omega⟩
   refine ⟨⟨view', inst', seq', .slice ao6 rs'.length cap6, .slice co6 vs'.length cav6, rs', vs'⟩, ?_, ?_, ⟨by simp only [e4]; exact q3, by simp only [e5]; exact q4⟩, HB5.out.upd HU6.out (hnew _ NB.out).2, Reads.upd HV5.out HU6.out (hnew _ NV.out).2, (hnew _ NB.out).1, (hnew _ NV.out).1, x, rfl, rfl, H6.out.drop⟩
   ·rw [HCI.out]; rfl
   ·rw [HCI.out]; exact hcp
theorem zj7 {i : Nat} {st : In} (h : AtI B w0 W i st ss) (seq : Int) : Calls Tryz.prog 110 #[.pointer (some ⟨i, 0, none⟩), .int .i64 seq] W fun e w' => ∃ c : Ct, e = .returned (.tuple #[ctAgg c, .bool (zau st seq).isSome]) ∧ Told W w' (zau st seq) c ∧ AtI B w0 w' i st ss := by
 obtain ⟨x, h1, rfl, h3⟩ := h
 refine (zfi h3 h1 seq).mono ?_
 rintro e w' ⟨c, he, hc, hn, hb, hv, n1, n2, x', e1, e2, e3⟩
 exact ⟨c, he, ⟨hc, hn, hb, hv, n1, n2⟩, x', e1, e2, e3.drop.drop⟩
end
def cs3 (b : List Rq) (n : Nat) : List Vt := (List.range 4).map fun i => if i < n then ⟨true, 1, b⟩ else noVt
def vPl (k n : Nat) : Pl := { zcj 1 with sl := { zbx 1 with cs := cs3 [rq 0 k] n } }
def gCp (k : Nat) : Cp := ⟨0, 0, k, [rq 0 k], [(0, 1), (1, 1), (2, 1)]⟩
def gPl (k : Nat) : Pl := { vPl k 3 with done := true, dw := gCp k }
def gp (h : Nat → Bool) : In := ⟨1, 0, 1, 0, true, (List.range 16).map fun j => if h (j + 1) then gPl (j + 1) else zcj 1⟩
def vk (h : Nat → Bool) (k n : Nat) : In := (gp h).upd (k - 1) fun p => if h k then p else vPl k n
section
variable {B : Nat} {w0 W W' : World} {ss rs : List Res} {x : Ins}
end
abbrev rqBox (r : Rq) : Obj := .cells #[.int .i64 r.client, .int .i64 r.time, .int .i64 r.kind, .int .i64 r.key, .int .i64 r.val, .int .i64 r.sl] 38 (0, 0)
theorem ze5 {w : World} {b : Nat} {r : Rq} (h : w.heap[b]? = some (rqBox r)) : w.cell? ⟨b, 0, none⟩ = some (.int .i64 r.client) ∧ w.cell? ⟨b, 1, none⟩ = some (.int .i64 r.time) ∧ w.cell? ⟨b, 2, none⟩ = some (.int .i64 r.kind) ∧
  w.cell? ⟨b, 3, none⟩ = some (.int .i64 r.key) ∧ w.cell? ⟨b, 4, none⟩ = some (.int .i64 r.val) ∧ w.cell? ⟨b, 5, none⟩ = some (.int .i64 r.sl) :=
 ⟨by rw [zac h]; rfl, by rw [zac h]; rfl, by rw [zac h]; rfl, by rw [zac h]; rfl, by rw [zac h]; rfl, by rw [zac h]; rfl⟩
section
variable {B : Nat} {w0 W W' : World} {ss rs : List Res}
end
section
variable {B : Nat} {w0 W W' : World} {ss rs : List Res} {x : Ins}
end
section
variable {B : Nat} {w0 W W' : World} {ss rs : List Res} {x : Ins}
def ctsR (cts : List Ct) : Res := imm (fun w D => ∀ c ∈ cts, CtIn w c D) (fun h hk hs c hc => (h c hc).dep hk hs)
theorem zub {cts : List Ct} {c : Ct} (h : Own B w0 W (redR c.vv 2 c.vs.length (zan c.vs) :: redR c.vb 6 c.rs.length (zam c.rs) :: ctsR cts :: rs)) (hn : c.rs.length ≤ 100000) (hm : c.vs.length ≤ 100000) : Own B w0 W (ctsR (cts ++ [c]) :: rs) := by
 have h1 := h.rot
 refine (h1.alter (r' := ctsR (cts ++ [c])) ?_ (by simp [ctsR, imm])).rot'.drop.drop
 obtain ⟨D, ⟨q1, q2⟩, q3, q4⟩ := h1.head
 obtain ⟨D1, ⟨v1, v2⟩, v3, _⟩ := (h1.all (redR c.vv 2 c.vs.length (zan c.vs)) (List.mem_cons_of_mem _ List.mem_cons_self)).1
 obtain ⟨D2, ⟨b1, b2⟩, b3, _⟩ := (h1.all (redR c.vb 6 c.rs.length (zam c.rs)) (List.mem_cons_of_mem _ (List.mem_cons_of_mem _ List.mem_cons_self))).1
 refine ⟨D ++ (D1 ++ D2), ⟨fun c' hc' => ?_, fun k hk => ?_⟩, fun k hk => ?_, q4⟩
 ·rcases List.mem_append.1 hc' with hc' | hc'
  ·exact (q1 c' hc').mono (by simp +contextual)
  ·simp at hc'; subst hc'
   exact ⟨b1.mono (by simp +contextual), hn, v1.mono (by simp +contextual), hm⟩
 ·rcases List.mem_append.1 hk with hk | hk
  ·exact q2 k hk
  ·rcases List.mem_append.1 hk with hk | hk
   ·exact v2 k hk
   ·exact b2 k hk
 ·rcases List.mem_append.1 hk with hk | hk
  ·exact q3 k hk
  ·rcases List.mem_append.1 hk with hk | hk
   ·exact v3 k hk
   ·exact b3 k hk
theorem zm3 {c : Ct} {a1 : Option Addr} {n1 c1 : Nat} {a2 : Option Addr} {n2 c2 : Nat} (h1 : c.vb = .slice a1 n1 c1) (h2 : c.vv = .slice a2 n2 c2) : ∀ u ∈ zal c, u.oneCell' = true := by
 intro u hu
 simp only [zal, h1, h2, List.mem_cons, List.not_mem_nil, or_false] at hu
 rcases hu with rfl | rfl | rfl | rfl | rfl <;> rfl
end
end Go.Proofs.YtannckelmojkoaaGreat
