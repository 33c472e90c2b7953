/- Parts of the proof, one behind the other. -/
import Derived.Test.YtannckelmojkoaaGreatMovB4
import Derived.Deep.AppendLies

/- inst: New. -/
namespace Go.Proofs.YtannckelmojkoaaGreat
open Go.RowKit Go.Heap

theorem Tryz.infoPl : (Tryz.prog.info? 241).map (fun i => (i.zero, i.size, i.bytes)) = some (some (.agg #[.pointer none, .bool false, .bool false, .int .i64 0, .int .i64 0, .int .i64 0, .slice none 0 0, .slice none 0 0, .bool false, .int .i64 0, .int .i64 0, .int .i64 0, .slice none 0 0, .slice none 0 0]), 14, 168) := by kernel_rfl

section
variable {B : Nat} {w0 W W' : World} {ss rs : List Res} {x : Ins}

def newPm (L : Loc) (f : Nat) : Pm := ⟨L, emptySl f, false, false, noCt, false, noCt⟩

theorem newPm_one (L : Loc) (f : Nat) : ∀ u ∈ pmCells (newPm L f), u.oneCell' = true := by
  intro u hu
  simp only [pmCells, newPm, noCt, List.mem_cons, List.not_mem_nil, or_false] at hu
  rcases hu with rfl | rfl | rfl | rfl | rfl | rfl | rfl | rfl | rfl | rfl | rfl | rfl | rfl | rfl <;> rfl

/-- What New leaves. -/
def NewP (B : Nat) (w0 : World) (st : In) (ss : List Res) (e : Ending) (w' : World) : Prop := ∃ x : Ins, e = .returned (.tuple #[x.ptr, .int .i64 0]) ∧ x.st = st ∧ Own B w0 w' (instR x :: ss)

/-- An instance that is being made: k places. -/
def MkI (B : Nat) (w0 w : World) (i f : Nat) (num ahead : Int) (k : Nat) (ss : List Res) : Prop :=
  ∃ (ls : List Loc) (ao : Option Addr) (cp : Nat), ls.length = k ∧ (∀ L ∈ ls, L.f = f) ∧
    Own B w0 w (ownR 241 14 (.slice ao k cp) k ((ls.map fun L => newPm L f).flatMap pmCells) :: blk i (insO f num ahead 0 true (.slice ao k cp)) :: ((ls.map fun L => newPm L f).map pmR ++ ss))

theorem mk_more {i f : Nat} {num ahead : Int} {k g cap2 : Nat} {ls : List Loc} {L : Loc} {ao : Option Addr} {cp : Nat} (hl : ls.length = k) (hlf : ∀ L ∈ ls, L.f = f) (hf : L.f = f)
    (h : Own B w0 W (blk i (setIn 5 (.slice (some ⟨g, 0, none⟩) (k + 1) cap2) (insO f num ahead 0 true (.slice ao k cp))) :: ownR 241 14 (.slice (some ⟨g, 0, none⟩) (k + 1) cap2) (k + 1) ((ls.map fun L => newPm L f).flatMap pmCells ++ pmCells (newPm L f)) :: slotR L (emptySl f) :: ((ls.map fun L => newPm L f).map pmR ++ ss))) : MkI B w0 W i f num ahead (k + 1) ss := by
  refine ⟨ls ++ [L], some ⟨g, 0, none⟩, cap2, by simp [hl], fun L' hL' => ?_, ?_⟩
  · rcases List.mem_append.1 hL' with h | h
    · exact hlf L' h
    · simp at h; subst h; exact hf
  · have h2 := h.rot
    have h3 : Own B w0 W (slotR L (emptySl f) :: ([ownR 241 14 (.slice (some ⟨g, 0, none⟩) (k + 1) cap2) (k + 1) ((ls.map fun L => newPm L f).flatMap pmCells ++ pmCells (newPm L f)), blk i (insO f num ahead 0 true (.slice (some ⟨g, 0, none⟩) (k + 1) cap2))] ++ ((ls.map fun L => newPm L f).map pmR ++ ss))) := h2.perm (List.Perm.cons _ (List.Perm.swap _ _ _))
    have h4 := Own.perm (ss := ([ownR 241 14 (.slice (some ⟨g, 0, none⟩) (k + 1) cap2) (k + 1) ((ls.map fun L => newPm L f).flatMap pmCells ++ pmCells (newPm L f)), blk i (insO f num ahead 0 true (.slice (some ⟨g, 0, none⟩) (k + 1) cap2))] ++ (ls.map fun L => newPm L f).map pmR) ++ slotR L (emptySl f) :: ss) h3 (by
      rw [← List.append_assoc]
      exact List.perm_middle.symm)
    simp only [List.map_append, List.flatMap_append, List.map_cons, List.map_nil, List.flatMap_cons, List.flatMap_nil, List.append_nil, List.append_assoc, List.cons_append, List.nil_append] at h4 ⊢
    exact h4

theorem mk_done {i f : Nat} {num ahead : Int} {ls : List Loc} {ao : Option Addr} {cp : Nat} (hf1 : 1 ≤ f) (hf2 : f ≤ 4) (ha1 : 1 ≤ ahead) (ha2 : ahead ≤ 16) (hl : ls.length = 16) (hlf : ∀ L ∈ ls, L.f = f)
    (h : Own B w0 W (ownR 241 14 (.slice ao 16 cp) 16 ((ls.map fun L => newPm L f).flatMap pmCells) :: blk i (insO f num ahead 0 true (.slice ao 16 cp)) :: ((ls.map fun L => newPm L f).map pmR ++ ss))) : ∃ x : Ins, x.i = i ∧ x.st = newI f num ahead ∧ Own B w0 W (instR x :: ss) := by
  have hown := ownR_owns h.head
  rcases hown.2 with ⟨h1, h2⟩ | ⟨g, cap, cur, h1, hb, hg, q1, q2, q3, q4⟩
  · omega
  · simp only [Value.slice.injEq] at h1
    obtain ⟨rfl, -, rfl⟩ := h1
    have h2 := h.alter (r' := segR g 241 ((ls.map fun L => newPm L f).flatMap pmCells)) (ownR_seg h.head) (fun k hk => by simp [ownR, blkOf, segR] at hk ⊢; exact hk)
    refine ⟨⟨i, g, cp, f, num, ahead, 0, true, ls.map fun L => newPm L f⟩, rfl, ?_, own_shut ?_⟩
    · simp only [Ins.st, newI, In.mk.injEq, true_and, List.map_map]
      apply List.ext_getElem?
      intro j
      rw [List.getElem?_map, List.getElem?_replicate]
      by_cases hj : j < 16
      · rw [if_pos hj, List.getElem?_eq_getElem (by omega)]; rfl
      · rw [if_neg hj, List.getElem?_eq_none (by omega)]; rfl
    · have h3 : Own B w0 W (certsR ⟨i, g, cp, f, num, ahead, 0, true, ls.map fun L => newPm L f⟩ :: segR g 241 ((ls.map fun L => newPm L f).flatMap pmCells) :: blk i (insO f num ahead 0 true (.slice (some ⟨g, 0, none⟩) 16 cp)) :: ((ls.map fun L => newPm L f).map pmR ++ ss)) := h2.new (Upd.refl [] _) ⟨[], ⟨⟨⟨by simp [hl], hf1, hf2, fun p hp => ?_, q1, ha1, ha2, by simp⟩, fun p hp => ?_⟩, by simp⟩, by simp, fun k hk => h2.lt k hk⟩ (by simp [certsR, imm])
      · exact h3.swap.rot
      · simp only [List.mem_map] at hp
        obtain ⟨L, hL, rfl⟩ := hp
        exact hlf L hL
      · simp only [List.mem_map] at hp
        obtain ⟨L, hL, rfl⟩ := hp
        exact ⟨⟨ReadsIn.nil _ _ _, by simp [newPm, noCt], ReadsIn.nil _ _ _, by simp [newPm, noCt]⟩, ⟨ReadsIn.nil _ _ _, by simp [newPm, noCt], ReadsIn.nil _ _ _, by simp [newPm, noCt]⟩⟩

set_option maxHeartbeats 2000000 in
set_option maxRecDepth 100000 in
theorem ins_new (f : Nat) (num ahead : Int) (hf1 : 1 ≤ f) (hf2 : f ≤ 4) (hn1 : 0 ≤ num) (hn2 : num ≤ f) (ha1 : 1 ≤ ahead) (ha2 : ahead ≤ 16) (h : Own B w0 W ss) :
    Calls Tryz.prog 82 #[.int .i64 f, .int .i64 num, .int .i64 ahead] W (NewP B w0 (newI f num ahead) ss) := by
  obtain ⟨i0, hi, hz0, hz1, hz2⟩ := info_parts Tryz.infoPl
  have hb1 : decide ((f : Int) < 1) = false := by simp; omega
  have hb2 : decide (4 < (f : Int)) = false := by simp; omega
  have hb3 : decide (num < 0) = false := by simp; omega
  have hb4 : decide ((f : Int) < num) = false := by simp; omega
  have hb5 : decide (ahead < 1) = false := by simp; omega
  have hb6 : decide (16 < ahead) = false := by simp; omega
  have h0 : MkI B w0 (W.alloc (insO f num ahead 0 true (.slice none 0 0))) W.heap.size f num ahead 0 ss := ⟨[], none, 0, rfl, by simp, (h.box (insO f num ahead 0 true (.slice none 0 0))).row0⟩
  have H0 := Lib.hid h0
  clear h0 h
  go_enter Tryz.func82, Tryz.ntmps82
  go_wp2_with fail
  go_loopw [39] (fun i wr => ∃ k : Nat, k ≤ 16 ∧ i = .int .i64 k ∧ Hid (MkI B w0 wr W.heap.size f num ahead k ss)) (fun i _ => 16 - (intOf i).toNat)
  case atStart => exact ⟨0, by omega, rfl, H0⟩
  case round =>
    clear H0
    obtain ⟨k, hk, rfl, HM⟩ := hrel
    by_cases hlt : k < 16
    · have hkI : (k : Int) < 16 := by omega
      obtain ⟨ls, ao, cp, hl, hlf, hown⟩ := HM.out
      have HL := Lib.hid hl
      have HLF := Lib.hid hlf
      have HC := Lib.hid (own_new f hf1 hf2 hown)
      clear hl hlf hown
      go_wp2_with fail
      refine HC.out.mono ?_
      rintro e w2 ⟨L, rfl, hLf, -, h2⟩
      have H2 := Lib.hid h2
      have HF := Lib.hid hLf
      clear h2 hLf HC
      have hbl := H2.out.drop.drop.blk_out
      have c5 : w2.cell? ⟨W.heap.size, 5, none⟩ = some (.slice ao k cp) := by rw [block_cell hbl]; rfl
      clear hbl
      have HO := Lib.hid (ownR_owns (H2.out.alloc (.cells (pmCells (newPm L f)).toArray 241)).drop.head)
      go_wp2_with (at_builtin; refine wpList_append_lies _ rfl (.tmp 50) (.tmp 53) 212 rfl 0 241 i0 (.agg #[.pointer none, .bool false, .bool false, .int .i64 0, .int .i64 0, .int .i64 0, .slice none 0 0, .slice none 0 0, .bool false, .int .i64 0, .int .i64 0, .int .i64 0, .slice none 0 0, .slice none 0 0]) 14 168 Tryz.underlying212 hi hz0 hz1 hz2 rfl (by decide) _ k _ rfl HO.out ⟨w2.heap.size, 0, none⟩ 1 1 (pmCells (newPm L f)) rfl rfl ?c1 ?c2 (by decide) ?c3 ?c4 (Nat.zero_le _) _ rfl ?c6)
      case c1 => exact World.news_of_block (heap_alloc_new w2 _)
      case c2 => exact newPm_one L f
      case c3 => unfold maxLen; omega
      case c4 => omega
      case c6 =>
        intro g cap2 w3 hown hgrow hat hlt
        have h3 := ((H2.out.alloc (.cells (pmCells (newPm L f)).toArray 241)).swap.grow hgrow (by rw [hs_alloc]; exact hat) hown)
        have H3 := Lib.hid h3
        clear hown hgrow hat hlt h3 HO c5
        have hbl := H3.out.drop.drop.blk_out
        have c5 : w3.cell? ⟨W.heap.size, 5, none⟩ = some (.slice ao k cp) := by rw [block_cell hbl]; rfl
        have fz := block_frozen hbl 5
        clear hbl
        go_wp2_with fail
        have H4 := Lib.hid ((H3.out.rot.store 5 (.slice (some ⟨g, 0, none⟩) (k + 1) cap2)))
        go_roundw
        case rel => exact ⟨k + 1, by omega, by go_num, Lib.hid (mk_more HL.out HLF.out HF.out H4.out)⟩
        case measure => simp [intOf]; omega
    · have hk16 : k = 16 := by omega
      subst hk16
      obtain ⟨ls, ao, cp, hl, hlf, hown⟩ := HM.out
      have HX := Lib.hid (mk_done hf1 hf2 ha1 ha2 hl hlf hown)
      clear hl hlf hown
      go_wp2_with fail
      go_ret2
      obtain ⟨x, h1, h2, h3⟩ := HX.out
      exact ⟨x, by simp [Ins.ptr, h1], h2, h3⟩

end
end Go.Proofs.YtannckelmojkoaaGreat

/- psephoslaw15.wakes. -/
namespace Go.Proofs.YtannckelmojkoaaGreat
open Go.RowKit Go.Heap

/-- An instance in the state st at block i. -/
def AtI (B : Nat) (w0 w : World) (i : Nat) (st : In) (ss : List Res) : Prop := ∃ x : Ins, x.i = i ∧ x.st = st ∧ Own B w0 w (instR x :: ss)

section
variable {B : Nat} {w0 W W' : World} {ss rs : List Res} {x : Ins} {i : Nat} {st : In}

theorem AtI.upd0 (h : AtI B w0 W i st ss) (hu : Upd [] W W') : AtI B w0 W' i st ss := let ⟨x, h1, h2, h3⟩ := h; ⟨x, h1, h2, h3.upd0 hu⟩
theorem AtI.alloc (h : AtI B w0 W i st ss) (o : Obj) : AtI B w0 (W.alloc o) i st ss := h.upd0 ((Upd.refl _ _).alloc o)
theorem AtI.drew (h : AtI B w0 W i st ss) : AtI B w0 W.drew i st ss := h.upd0 (Upd.refl _ _).drew
theorem AtI.below (h : AtI B w0 W i st ss) : Below B w0 W := let ⟨_, _, _, h3⟩ := h; h3.below
theorem AtI.ss_own (h : AtI B w0 W i st ss) : Own B w0 W ss := let ⟨_, _, _, h3⟩ := h; h3.drop

theorem ai_done (h : AtI B w0 W i st ss) : Calls Tryz.prog 156 #[.pointer (some ⟨i, 0, none⟩)] W fun e w' => e = .returned (.int .i64 (doneI st)) ∧ W = w' := by
  obtain ⟨x, h1, rfl, h3⟩ := h
  exact ins_done h3 h1

theorem ai_next (h : AtI B w0 W i st ss) : Calls Tryz.prog 154 #[.pointer (some ⟨i, 0, none⟩)] W fun e w' => e = .returned (.int .i64 (nextI st)) ∧ Upd [] W w' := by
  obtain ⟨x, h1, rfl, h3⟩ := h
  exact ins_next h3 h1

theorem ai_installed (h : AtI B w0 W i st ss) : Calls Tryz.prog 73 #[.pointer (some ⟨i, 0, none⟩)] W fun e w' => e = .returned (.bool st.on) ∧ W = w' := by
  obtain ⟨x, h1, rfl, h3⟩ := h
  exact ins_installed h3 h1

theorem ai_chosen (h : AtI B w0 W i st ss) (seq : Int) : Calls Tryz.prog 220 #[.pointer (some ⟨i, 0, none⟩), .int .i64 seq] W (ChosenP W (chosenI st seq)) := by
  obtain ⟨x, h1, rfl, h3⟩ := h
  exact ins_chosen h3 h1 seq

/-- A certificate that was told, in new memory; or none. -/
def Told (W w' : World) (r : Option Cp) (c : Ct) : Prop :=
  c.cp = r.getD noCp ∧ (c.rs.length ≤ 100000 ∧ c.vs.length ≤ 100000) ∧ Bat w' c.vb c.rs ∧ Vts w' c.vv c.vs ∧ (∀ k ∈ blkOf c.vb, W.heap.size ≤ k) ∧ ∀ k ∈ blkOf c.vv, W.heap.size ≤ k

theorem told_form {r : Option Cp} {c : Ct} {p : Cp} (h : Told W W' r c) (hp : r.getD noCp = p) : ∃ ao cap co cav, c = ⟨p.view, p.inst, p.seq, .slice ao p.rs.length cap, .slice co p.vs.length cav, p.rs, p.vs⟩ ∧ (p.rs.length ≤ 100000 ∧ p.vs.length ≤ 100000) ∧
    Bat W' (.slice ao p.rs.length cap) p.rs ∧ Vts W' (.slice co p.vs.length cav) p.vs ∧ (∀ k ∈ blkOf (.slice ao p.rs.length cap), W.heap.size ≤ k) ∧ ∀ k ∈ blkOf (.slice co p.vs.length cav), W.heap.size ≤ k := by
  subst hp
  obtain ⟨view, inst, seq, vb, vv, rs, vs⟩ := c
  obtain ⟨h1, h2, h3, h4, h5, h6⟩ := h
  simp only [Ct.cp] at h1 h2 h3 h4 h5 h6
  rw [← h1]
  obtain ⟨ao, cap, rfl⟩ := bat_form h3
  obtain ⟨co, cav, rfl⟩ := vts_form h4
  exact ⟨ao, cap, co, cav, rfl, h2, h3, h4, h5, h6⟩

end

end Go.Proofs.YtannckelmojkoaaGreat

/- inst: Committed, Prepared. -/
namespace Go.Proofs.YtannckelmojkoaaGreat
open Go.RowKit Go.Heap

section
variable {B : Nat} {w0 W W' : World} {ss rs : List Res} {x : Ins}

set_option maxHeartbeats 2000000 in
set_option maxRecDepth 100000 in
theorem ins_committed (h : Own B w0 W (instR x :: ss)) {i : Nat} (hi : x.i = i) (seq : Int) : Calls Tryz.prog 110 #[.pointer (some ⟨i, 0, none⟩), .int .i64 seq] W (CertP B w0 W i (committedI x.st seq) x.st ss) := by
  subst hi
  have hz := own_open (h.box zct).swap
  obtain ⟨-, -, -, -, -, c5, l1, l2⟩ := oi_cells hz
  cases hk : idx seq with
  | none =>
    have hs := idx_none hk
    have HE := Lib.hid (show committedI x.st seq = none by simp [committedI, plAt_none hk])
    have HA := Lib.hid (at_no x.i x.b x.cap seq _ hs c5)
    have H := Lib.hid h
    clear hz h hk hs c5
    go_enter Tryz.func110, Tryz.ntmps110
    go_wp2_with fail
    refine HA.out.mono ?_
    rintro e w' ⟨rfl, rfl⟩
    go_wp2_with fail
    exact bodyPost_ret (v := .tuple #[ctAgg noCt, .bool false]) (by simp [results, Tryz.results110, go_sem, noCt]) rfl (certP_none (H.out.upd0 ((Upd.refl _ _).alloc _)) HE.out rfl)
  | some k =>
    obtain ⟨hl, hp⟩ := plAt_some (oi_ok hz) hk
    obtain ⟨i1, i2⟩ := idx_lt hk
    have HA := Lib.hid (at_yes x.i x.b x.cap seq _ (by omega) (by omega) c5)
    have hks : seq.toNat - 1 = k := by omega
    rw [hks] at HA
    have cd := oi_done hz k hl
    cases hd : x.l[k].done
    · rw [hd] at cd
      have HE := Lib.hid (show committedI x.st seq = none by simp only [committedI, hp]; simp [Pm.pl, hd])
      have H := Lib.hid h
      clear hz h hk hp i2 hks hd c5
      go_enter Tryz.func110, Tryz.ntmps110
      go_wp2_with fail
      refine HA.out.mono ?_
      rintro e w' ⟨rfl, rfl⟩
      go_wp2_with fail
      exact bodyPost_ret (v := .tuple #[ctAgg noCt, .bool false]) (by simp [results, Tryz.results110, go_sem, noCt]) rfl (certP_none (H.out.upd0 ((Upd.refl _ _).alloc _)) HE.out rfl)
    · rw [hd] at cd
      have HCI := Lib.hid (show committedI x.st seq = some x.l[k].dw.cp by simp only [committedI, hp]; simp [Pm.pl, hd])
      have c9 := oi_at hz k hl 9 (by omega)
      have c10 := oi_at hz k hl 10 (by omega)
      have c11 := oi_at hz k hl 11 (by omega)
      have c12 := oi_at hz k hl 12 (by omega)
      have c13 := oi_at hz k hl 13 (by omega)
      simp only [pmCells, List.getElem?_cons_succ, List.getElem?_cons_zero] at c9 c10 c11 c12 c13
      obtain ⟨-, q1, q2, q3, q4⟩ := oi_cert hz k hl
      have HF := Lib.hid (fresh_ct x.l[k].dw _ q1 q3 q2 q4)
      have HZ := Lib.hid hz
      clear hz h hk hp i2 hks hd c5 q1 q2
      generalize x.l[k].dw = c at *
      go_enter Tryz.func110, Tryz.ntmps110
      go_wp2_with fail
      refine HA.out.mono ?_
      rintro e w' ⟨rfl, rfl⟩
      go_wp2_with fail
      refine HF.out.mono ?_
      rintro e w5 ⟨⟨view', inst', seq', vb', vv', rs', vs'⟩, rfl, hcp, hu5, hb5, hv5, nb, nv⟩
      simp only at hb5 hv5 nb nv
      obtain ⟨ao6, cap6, rfl⟩ := bat_form hb5
      obtain ⟨co6, cav6, rfl⟩ := vts_form hv5
      have H5 := Lib.hid ((own_red2 (own_shut HZ.out).swap hu5 hb5 hv5 nb nv).rot)
      have HCP := Lib.hid hcp
      have HB5 := Lib.hid hb5
      have HV5 := Lib.hid hv5
      have NB := Lib.hid nb
      have NV := Lib.hid nv
      clear hcp hu5 hb5 hv5 nb nv HZ HF c9 c10 c11 c12 c13 cd
      obtain ⟨f0, f1, f2, f3, f4, fl, fz⟩ := ct_cells H5.out.blk_out
      have fz0 := fz 0
      have fz1 := fz 1
      have fz2 := fz 2
      have fz3 := fz 3
      have fz4 := fz 4
      clear fz
      go_wp2_with fail
      have H6 := Lib.hid (own_st5 H5.out view' inst' seq' (.slice ao6 rs'.length cap6) (.slice co6 vs'.length cav6))
      have HU6 := Lib.hid (upd_st5 w5 W.heap.size view' inst' seq' (.slice ao6 rs'.length cap6) (.slice co6 vs'.length cav6))
      generalize ((((w5.setCell ⟨W.heap.size, 0, none⟩ (.int .i64 view')).setCell ⟨W.heap.size, 1, none⟩ (.int .i64 inst')).setCell ⟨W.heap.size, 2, none⟩ (.int .i64 seq')).setCell ⟨W.heap.size, 3, none⟩ (.slice ao6 rs'.length cap6)).setCell ⟨W.heap.size, 4, none⟩ (.slice co6 vs'.length cav6) = w6 at *
      clear f0 f1 f2 f3 f4 fl fz0 fz1 fz2 fz3 fz4 H5
      obtain ⟨f0, f1, f2, f3, f4, fl, -⟩ := ct_cells H6.out.blk_out
      refine bodyPost_ret (v := .tuple #[ctAgg ⟨view', inst', seq', .slice ao6 rs'.length cap6, .slice co6 vs'.length cav6, rs', vs'⟩, .bool true]) (by simp [results, Tryz.results110, go_sem, f0, f1, f2, f3, f4]) rfl ?_
      have hcp := HCP.out
      have e4 : rs' = c.rs := congrArg Cp.rs hcp
      have e5 : vs' = c.vs := congrArg Cp.vs hcp
      have hnew : ∀ (v : Value), (∀ k ∈ blkOf v, (W.alloc zct).heap.size ≤ k) → (∀ k ∈ blkOf v, W.heap.size ≤ k) ∧ ∀ k ∈ blkOf v, k ∉ [W.heap.size] := fun v hv => ⟨fun k hk => by have := hv k hk; simp at this; omega, fun k hk hn => by have := hv k hk; simp at this hn; omega⟩
      refine ⟨⟨view', inst', seq', .slice ao6 rs'.length cap6, .slice co6 vs'.length cav6, rs', vs'⟩, ?_, ?_, ⟨by simp only [e4]; exact q3, by simp only [e5]; exact q4⟩, HB5.out.upd HU6.out (hnew _ NB.out).2, Reads.upd HV5.out HU6.out (hnew _ NV.out).2, (hnew _ NB.out).1, (hnew _ NV.out).1, x, rfl, rfl, H6.out.drop⟩
      · rw [HCI.out]; rfl
      · rw [HCI.out]; exact hcp

theorem ai_committed {i : Nat} {st : In} (h : AtI B w0 W i st ss) (seq : Int) : Calls Tryz.prog 110 #[.pointer (some ⟨i, 0, none⟩), .int .i64 seq] W fun e w' => ∃ c : Ct, e = .returned (.tuple #[ctAgg c, .bool (committedI st seq).isSome]) ∧ Told W w' (committedI st seq) c ∧ AtI B w0 w' i st ss := by
  obtain ⟨x, h1, rfl, h3⟩ := h
  refine (ins_committed h3 h1 seq).mono ?_
  rintro e w' ⟨c, he, hc, hn, hb, hv, n1, n2, x', e1, e2, e3⟩
  exact ⟨c, he, ⟨hc, hn, hb, hv, n1, n2⟩, x', e1, e2, e3.drop.drop⟩

end
end Go.Proofs.YtannckelmojkoaaGreat

/- InstGaps: the plain laws. -/
namespace Go.Proofs.YtannckelmojkoaaGreat
open Go.RowKit Go.Heap

theorem upd_upd (st : In) (k : Nat) (f g : Pl → Pl) : (st.upd k f).upd k g = st.upd k (fun p => g (f p)) := by
  simp only [In.upd, In.mk.injEq, true_and]
  apply List.ext_getElem?
  intro j
  simp only [List.getElem?_modify]
  by_cases e : k = j
  · subst e
    cases st.l[k]? <;> simp
  · simp [e]

def cs3 (b : List Rq) (n : Nat) : List Vt := (List.range 4).map fun i => if i < n then ⟨true, 1, b⟩ else noVt
def vPl (k n : Nat) : Pl := { emptyPl 1 with sl := { emptySl 1 with cs := cs3 [rq 0 k] n } }
def gCp (k : Nat) : Cp := ⟨0, 0, k, [rq 0 k], [(0, 1), (1, 1), (2, 1)]⟩
def gPl (k : Nat) : Pl := { vPl k 3 with done := true, dw := gCp k }
/-- Those of h are committed. -/
def gp (h : Nat → Bool) : In := ⟨1, 0, 1, 0, true, (List.range 16).map fun j => if h (j + 1) then gPl (j + 1) else emptyPl 1⟩
/-- n votes for k have come. -/
def vk (h : Nat → Bool) (k n : Nat) : In := (gp h).upd (k - 1) fun p => if h k then p else vPl k n

end Go.Proofs.YtannckelmojkoaaGreat

/- inst: Leave. -/
namespace Go.Proofs.YtannckelmojkoaaGreat
open Go.RowKit Go.Heap

section
variable {B : Nat} {w0 W W' : World} {ss rs : List Res} {x : Ins}

/-- One cell of a place is stored that leads nowhere. -/
theorem oi_put {k r : Nat} {v : Value} {p : Pm} (h : OwnI B w0 W x ss) (hk : k < x.l.length) (hl : p.lc = x.l[k].lc) (hs : p.sl = x.l[k].sl) (hc : p.ct = x.l[k].ct ∧ p.dw = x.l[k].dw) (hr : r < 14) (hcells : pmCells p = (pmCells x.l[k]).set r v) :
    OwnI B w0 (W.setCell ⟨x.b, k * 14 + r, none⟩ v) (x.sl k p) ss := by
  have h1 : Own B w0 (W.setCell ⟨x.b, k * 14 + r, none⟩ v) (segR x.b 241 ((x.l.flatMap pmCells).set (k * 14 + r) v) :: blk x.i x.o :: certsR x :: (x.l.map pmR ++ ss)) := Own.put (Own.swap h) (k * 14 + r) v
  rw [flat_set (cells := pmCells) (sz := 14) (fun _ => rfl) x.l k r x.l[k] p v (by simp) hr hcells] at h1
  have h2 : Own B w0 (W.setCell ⟨x.b, k * 14 + r, none⟩ v) (certsR x :: segR x.b 241 ((x.l.set k p).flatMap pmCells) :: blk x.i x.o :: (x.l.map pmR ++ ss)) := h1.rot
  have h3 := h2.alter (r' := certsR (x.sl k p)) (by
    obtain ⟨D, ⟨⟨q1, q2⟩, q3⟩, q4, q5⟩ := h2.head
    refine ⟨D, ⟨⟨⟨by simpa using q1.n, q1.f1, q1.f2, fun p' hp' => ?_, q1.c1, q1.a1, q1.a2, q1.vw⟩, fun p' hp' => ?_⟩, q3⟩, q4, q5⟩
    · rcases List.mem_or_eq_of_mem_set hp' with hp' | rfl
      · exact q1.lf p' hp'
      · rw [hl]; exact q1.lf _ (by simp)
    · rcases List.mem_or_eq_of_mem_set hp' with hp' | rfl
      · exact q2 p' hp'
      · rw [hc.1, hc.2]; exact q2 _ (by simp)) (by simp [certsR, imm])
  have hmap : (x.l.set k p).map pmR = x.l.map pmR := by
    rw [List.map_set, show pmR p = pmR x.l[k] by simp [pmR, hl, hs]]
    conv => lhs; arg 3; rw [← List.getElem_map (f := pmR) (h := by simpa using hk)]
    exact List.set_getElem_self _
  show Own B w0 _ (insHd (x.sl k p) ++ ((x.l.set k p).map pmR ++ ss))
  rw [hmap]
  exact h3.swap.rot

/-- The instance's own block is stored. -/
theorem oi_hd {view : Int} {on : Bool} (h : Own B w0 W (blk x.i (insO x.f x.num x.ahead view on (.slice (some ⟨x.b, 0, none⟩) 16 x.cap)) :: segR x.b 241 (x.l.flatMap pmCells) :: certsR x :: (x.l.map pmR ++ ss))) (hv : 0 ≤ view ∧ view ≤ 12) :
    OwnI B w0 W { x with view := view, on := on } ss := by
  have h2 := h.rot
  have h3 := h2.alter (r' := certsR { x with view := view, on := on }) (by
    obtain ⟨D, ⟨⟨q1, q2⟩, q3⟩, q4, q5⟩ := h2.head
    exact ⟨D, ⟨⟨⟨q1.n, q1.f1, q1.f2, q1.lf, q1.c1, q1.a1, q1.a2, hv⟩, q2⟩, q3⟩, q4, q5⟩) (by simp [certsR, imm])
  exact h3.rot'

def clr (f : Nat) (p : Pl) : Pl := { p with sl := emptySl f, told := false }
/-- A view is left: k slots are empty already. -/
def lvI (st : In) (v : Int) (k : Nat) : In := { st with view := v, on := false, l := (st.l.take k).map (clr st.f) ++ st.l.drop k }

theorem lv_step (st : In) (v : Int) (k : Nat) (hk : k < st.l.length) : (lvI st v k).upd k (clr st.f) = lvI st v (k + 1) := by
  simp only [In.upd, lvI, In.mk.injEq, true_and]
  apply List.ext_getElem?
  intro j
  have hlen : ((st.l.take k).map (clr st.f)).length = k := by simp; omega
  have hlen2 : ((st.l.take (k + 1)).map (clr st.f)).length = k + 1 := by simp; omega
  rw [List.getElem?_modify]
  by_cases h1 : j < k
  · rw [List.getElem?_append_left (by omega), List.getElem?_append_left (by omega)]
    simp only [if_neg (show ¬ k = j by omega), List.getElem?_map, List.getElem?_take_of_lt h1, List.getElem?_take_of_lt (show j < k + 1 by omega)]
    cases st.l[j]? <;> rfl
  · by_cases h2 : j = k
    · subst h2
      rw [List.getElem?_append_right (by omega), List.getElem?_append_left (by omega), hlen]
      simp [List.getElem?_eq_getElem hk]
    · rw [List.getElem?_append_right (by omega), List.getElem?_append_right (by omega), hlen, hlen2]
      simp only [if_neg (show ¬ k = j by omega), List.getElem?_drop]
      rw [show k + (j - k) = j by omega, show k + 1 + (j - (k + 1)) = j by omega]
      cases st.l[j]? <;> rfl

theorem lv_zero (st : In) (v : Int) : lvI st v 0 = { st with view := v, on := false } := by simp [lvI]
theorem lvI_all (st : In) (v : Int) (h : leaveB st v = true) : lvI st v st.l.length = leaveI st v := by
  unfold leaveI
  rw [if_pos h]
  simp [lvI, clr]

set_option maxHeartbeats 2000000 in
set_option maxRecDepth 100000 in
theorem ai_leave {i : Nat} {st : In} (h : AtI B w0 W i st ss) (v : Int) : Calls Tryz.prog 225 #[.pointer (some ⟨i, 0, none⟩), .int .i64 v] W fun e w' => e = .returned (.bool (leaveB st v)) ∧ AtI B w0 w' i (leaveI st v) ss := by
  obtain ⟨x, h1, hst, h3⟩ := h
  have ho := own_open h3
  obtain ⟨-, -, -, c3, c4, c5, l1, l2⟩ := oi_cells ho
  obtain ⟨-, fz⟩ := oi_fz ho
  have hvw : x.view = st.view := by rw [← hst]; rfl
  have z3 := fz 3
  have z4 := fz 4
  have hn := (oi_ok ho).n
  have hvw2 := (oi_ok ho).vw
  rw [h1] at c3 c4 c5 l1 z3 z4
  by_cases hle : v ≤ x.view
  · have HE := Lib.hid (show leaveB st v = false by simp [leaveB]; omega)
    have H := Lib.hid (show AtI B w0 W i st ss from ⟨x, h1, hst, h3⟩)
    clear h3 ho fz z3 z4 c4 c5 hvw hn hst
    go_enter Tryz.func225, Tryz.ntmps225
    go_wp2_with fail
    go_ret
    rw [HE.out, leaveI, if_neg (by rw [HE.out]; simp)]
    exact ⟨rfl, H.out⟩
  · have hleb : decide (v ≤ x.view) = false := by simp; omega
    by_cases h12 : 12 < v
    · have HE := Lib.hid (show leaveB st v = false by simp [leaveB]; omega)
      have H := Lib.hid (show AtI B w0 W i st ss from ⟨x, h1, hst, h3⟩)
      clear h3 ho fz z3 z4 c4 c5 hvw hn hst
      go_enter Tryz.func225, Tryz.ntmps225
      go_wp2_with fail
      go_ret
      rw [HE.out, leaveI, if_neg (by rw [HE.out]; simp)]
      exact ⟨rfl, H.out⟩
    · have h12b : decide (12 < v) = false := by simp; omega
      have HE := Lib.hid (show leaveB st v = true by simp [leaveB]; omega)
      have hstn : st.l.length = 16 := by rw [← hst]; simp [Ins.st, hn]
      have HLA := Lib.hid (by have := lvI_all st v HE.out; rwa [hstn] at this)
      have HLS := Lib.hid (fun k hk => lv_step st v k (by rw [hstn]; exact hk))
      have hz := oi_hd (x := x) (view := v) (on := false) ((Own.store ho 3 (.int .i64 v)).store 4 (.bool false)) (by omega)
      have H1 : Hid (AtI B w0 ((W.setCell ⟨i, 3, none⟩ (.int .i64 v)).setCell ⟨i, 4, none⟩ (.bool false)) i (lvI st v 0) ss) := Lib.hid (by
        rw [lv_zero]
        refine ⟨{ x with view := v, on := false }, h1, ?_, ?_⟩
        · rw [← hst]; rfl
        · rw [← h1]; exact own_shut hz)
      clear hz h3 ho fz hvw hst hvw2 hn hstn h1
      go_enter Tryz.func225, Tryz.ntmps225
      go_wp2_with fail
      generalize (W.setCell ⟨i, 3, none⟩ (.int .i64 v)).setCell ⟨i, 4, none⟩ (.bool false) = w1 at *
      clear c3 c4 c5 z3 z4 hleb h12b l1 l2 hle h12
      go_loopw [28] (fun n wr => ∃ k : Nat, k ≤ 16 ∧ n = .int .i64 k ∧ Hid (AtI B w0 wr i (lvI st v k) ss)) (fun n _ => 16 - (intOf n).toNat)
      case atStart => exact ⟨0, by omega, rfl, H1⟩
      case round =>
        clear H1
        obtain ⟨k, hk, rfl, HK⟩ := hrel
        by_cases hlt : k < 16
        · have hkI : (k : Int) < 16 := by omega
          obtain ⟨y, hy1, hy2, hy3⟩ := HK.out
          have hoy := own_open hy3
          obtain ⟨-, -, -, -, -, c5, -, -⟩ := oi_cells hoy
          rw [hy1] at c5
          have hl : k < y.l.length := by rw [(oi_ok hoy).n]; exact hlt
          have cp := oi_ptr hoy k hl
          have hlf : y.l[k].lc.f = st.f := by rw [(oi_ok hoy).lf _ (by simp)]; exact congrArg In.f hy2
          have HLF := Lib.hid hlf
          have HC := Lib.hid (own_reset (oi_pick hoy k hl))
          have HY1 := Lib.hid hy1
          have HY2 := Lib.hid hy2
          clear hoy hy3 hy1 hy2 hlf
          go_wp2_with fail
          refine HC.out.mono ?_
          rintro e w2 ⟨L', rfl, hf, hs, -, h2⟩
          have h4 := oi_unpick k hl { y.l[k] with lc := L', sl := emptySl y.l[k].lc.f } h2 (by simp [pmCells, hs]) ⟨rfl, rfl⟩ hf
          have H4 := Lib.hid h4
          have hl4 : k < (y.sl k { y.l[k] with lc := L', sl := emptySl y.l[k].lc.f }).l.length := by simpa using hl
          have ht := oi_told h4 k hl4
          obtain ⟨-, -, -, -, -, c5', -, -⟩ := oi_cells h4
          have fz := (oi_fz h4).1 (k * 14 + 1)
          have c5' : w2.cell? ⟨i, 5, none⟩ = some (.slice (some ⟨y.b, 0, none⟩) 16 y.cap) := by rw [← HY1.out]; exact c5'
          clear h2 h4 hf hs HC cp c5
          go_wp2_with fail
          have h5 := oi_put (r := 1) (v := .bool false) (p := { (y.sl k { y.l[k] with lc := L', sl := emptySl y.l[k].lc.f }).l[k] with told := false }) H4.out hl4 rfl rfl ⟨rfl, rfl⟩ (by omega) rfl
          have H5 : Hid (AtI B w0 (w2.setCell ⟨y.b, k * 14 + 1, none⟩ (.bool false)) i (lvI st v (k + 1)) ss) := Lib.hid ⟨(y.sl k { y.l[k] with lc := L', sl := emptySl y.l[k].lc.f }).sl k { (y.sl k { y.l[k] with lc := L', sl := emptySl y.l[k].lc.f }).l[k] with told := false }, HY1.out, by
            rw [st_set _ k hl4 _ (fun p => { p with told := false }) rfl, st_set y k hl _ (fun p => { p with sl := emptySl y.l[k].lc.f }) rfl, upd_upd, HY2.out, HLF.out]
            exact HLS.out k hlt, own_shut h5⟩
          clear h5 ht fz c5'
          go_roundw
          case rel => exact ⟨k + 1, by omega, by go_num, H5⟩
          case measure => simp [intOf]; omega
        · have hk16 : k = 16 := by omega
          subst hk16
          go_wp2_with fail
          go_ret
          rw [HE.out, ← HLA.out]
          exact ⟨rfl, HK.out⟩

end
end Go.Proofs.YtannckelmojkoaaGreat

/- reqs.Has; inst: Used. -/
namespace Go.Proofs.YtannckelmojkoaaGreat
open Go.RowKit Go.Heap

abbrev rqBox (r : Rq) : Obj := .cells #[.int .i64 r.client, .int .i64 r.time, .int .i64 r.kind, .int .i64 r.key, .int .i64 r.val, .int .i64 r.sl] 38 (0, 0)

section
variable {B : Nat} {w0 W W' : World} {ss rs : List Res}

theorem oi_row {x : Ins} (h : OwnI B w0 W x ss) (k : Nat) (hk : k < x.l.length) : W.cell? ⟨x.b, k * 14, none⟩ = some x.l[k].lc.ptr ∧ W.cell? ⟨x.b, k * 14 + 1, none⟩ = some (.bool x.l[k].told) ∧ W.cell? ⟨x.b, k * 14 + 2, none⟩ = some (.bool x.l[k].has) ∧
    W.cell? ⟨x.b, k * 14 + 3, none⟩ = some (.int .i64 x.l[k].ct.view) ∧ W.cell? ⟨x.b, k * 14 + 4, none⟩ = some (.int .i64 x.l[k].ct.inst) ∧ W.cell? ⟨x.b, k * 14 + 5, none⟩ = some (.int .i64 x.l[k].ct.seq) ∧ W.cell? ⟨x.b, k * 14 + 6, none⟩ = some x.l[k].ct.vb ∧ W.cell? ⟨x.b, k * 14 + 7, none⟩ = some x.l[k].ct.vv ∧
    W.cell? ⟨x.b, k * 14 + 8, none⟩ = some (.bool x.l[k].done) ∧ W.cell? ⟨x.b, k * 14 + 9, none⟩ = some (.int .i64 x.l[k].dw.view) ∧ W.cell? ⟨x.b, k * 14 + 10, none⟩ = some (.int .i64 x.l[k].dw.inst) ∧ W.cell? ⟨x.b, k * 14 + 11, none⟩ = some (.int .i64 x.l[k].dw.seq) ∧ W.cell? ⟨x.b, k * 14 + 12, none⟩ = some x.l[k].dw.vb ∧ W.cell? ⟨x.b, k * 14 + 13, none⟩ = some x.l[k].dw.vv :=
  ⟨oi_at h k hk 0 (by omega), oi_at h k hk 1 (by omega), oi_at h k hk 2 (by omega), oi_at h k hk 3 (by omega), oi_at h k hk 4 (by omega), oi_at h k hk 5 (by omega), oi_at h k hk 6 (by omega), oi_at h k hk 7 (by omega), oi_at h k hk 8 (by omega), oi_at h k hk 9 (by omega), oi_at h k hk 10 (by omega), oi_at h k hk 11 (by omega), oi_at h k hk 12 (by omega), oi_at h k hk 13 (by omega)⟩

theorem ct_shape {x : Ins} (h : OwnI B w0 W x ss) (k : Nat) (hk : k < x.l.length) : ∃ a1 c1 a2 c2 a3 c3 a4 c4, x.l[k].ct.vb = .slice a1 x.l[k].ct.rs.length c1 ∧ x.l[k].ct.vv = .slice a2 x.l[k].ct.vs.length c2 ∧ x.l[k].dw.vb = .slice a3 x.l[k].dw.rs.length c3 ∧ x.l[k].dw.vv = .slice a4 x.l[k].dw.vs.length c4 := by
  obtain ⟨⟨h1, h2, _⟩, h3, h4, _⟩ := oi_cert h k hk
  obtain ⟨a1, c1, e1⟩ := bat_form h1
  obtain ⟨a2, c2, e2⟩ := vts_form h2
  obtain ⟨a3, c3, e3⟩ := bat_form h3
  obtain ⟨a4, c4, e4⟩ := vts_form h4
  exact ⟨a1, c1, a2, c2, a3, c3, a4, c4, e1, e2, e3, e4⟩

end
end Go.Proofs.YtannckelmojkoaaGreat

/- inst: Prepared. -/
namespace Go.Proofs.YtannckelmojkoaaGreat
open Go.RowKit Go.Heap

section
variable {B : Nat} {w0 W W' : World} {ss rs : List Res} {x : Ins}

end
end Go.Proofs.YtannckelmojkoaaGreat

/- inst: Install (of nothing); Certs. -/
namespace Go.Proofs.YtannckelmojkoaaGreat
open Go.RowKit Go.Heap

theorem Tryz.infoCert : (Tryz.prog.info? 42).map (fun i => (i.zero, i.size, i.bytes)) = some (some (.agg #[.int .i64 0, .int .i64 0, .int .i64 0, .slice none 0 0, .slice none 0 0]), 5, 72) := by kernel_rfl

section
variable {B : Nat} {w0 W W' : World} {ss rs : List Res} {x : Ins}

/-- Certificates that are only read. -/
def ctsR (cts : List Ct) : Res := imm (fun w D => ∀ c ∈ cts, CtIn w c D) (fun h hk hs c hc => (h c hc).dep hk hs)

theorem cts_add {cts : List Ct} {c : Ct} (h : Own B w0 W (redR c.vv 2 c.vs.length (vsCells c.vs) :: redR c.vb 6 c.rs.length (rqsCells c.rs) :: ctsR cts :: rs)) (hn : c.rs.length ≤ 100000) (hm : c.vs.length ≤ 100000) : Own B w0 W (ctsR (cts ++ [c]) :: rs) := by
  have h1 := h.rot
  refine (h1.alter (r' := ctsR (cts ++ [c])) ?_ (by simp [ctsR, imm])).rot'.drop.drop
  obtain ⟨D, ⟨q1, q2⟩, q3, q4⟩ := h1.head
  obtain ⟨D1, ⟨v1, v2⟩, v3, _⟩ := (h1.all (redR c.vv 2 c.vs.length (vsCells c.vs)) (List.mem_cons_of_mem _ List.mem_cons_self)).1
  obtain ⟨D2, ⟨b1, b2⟩, b3, _⟩ := (h1.all (redR c.vb 6 c.rs.length (rqsCells c.rs)) (List.mem_cons_of_mem _ (List.mem_cons_of_mem _ List.mem_cons_self))).1
  refine ⟨D ++ (D1 ++ D2), ⟨fun c' hc' => ?_, fun k hk => ?_⟩, fun k hk => ?_, q4⟩
  · rcases List.mem_append.1 hc' with hc' | hc'
    · exact (q1 c' hc').mono (by simp +contextual)
    · simp at hc'; subst hc'
      exact ⟨b1.mono (by simp +contextual), hn, v1.mono (by simp +contextual), hm⟩
  · rcases List.mem_append.1 hk with hk | hk
    · exact q2 k hk
    · rcases List.mem_append.1 hk with hk | hk
      · exact v2 k hk
      · exact b2 k hk
  · rcases List.mem_append.1 hk with hk | hk
    · exact q3 k hk
    · rcases List.mem_append.1 hk with hk | hk
      · exact v3 k hk
      · exact b3 k hk

theorem ctCells_one {c : Ct} {a1 : Option Addr} {n1 c1 : Nat} {a2 : Option Addr} {n2 c2 : Nat} (h1 : c.vb = .slice a1 n1 c1) (h2 : c.vv = .slice a2 n2 c2) : ∀ u ∈ ctCells c, u.oneCell' = true := by
  intro u hu
  simp only [ctCells, h1, h2, List.mem_cons, List.not_mem_nil, or_false] at hu
  rcases hu with rfl | rfl | rfl | rfl | rfl <;> rfl

/-- What Certs leaves: certificates in new memory. -/
def CertsP (B : Nat) (w0 : World) (i : Nat) (st : In) (ss : List Res) (e : Ending) (w' : World) : Prop :=
  ∃ (u : Value) (cts : List Ct), e = .returned u ∧ cts.map Ct.cp = certsI st ∧ AtI B w0 w' i st (ownR 42 5 u cts.length (cts.flatMap ctCells) :: ctsR cts :: ss)

theorem certs_take (l : List Pm) (k : Nat) (hk : k < l.length) : ((l.take (k + 1)).filter (·.has)).map (fun p => p.ct.cp) = ((l.take k).filter (·.has)).map (fun p => p.ct.cp) ++ if l[k].has then [l[k].ct.cp] else [] := by
  rw [List.take_succ_eq_append_getElem hk, List.filter_append, List.map_append]
  congr 1
  cases h : l[k].has <;> simp [h]

theorem certs_all (x : Ins) (h : x.l.length = 16) : ((x.l.take 16).filter (·.has)).map (fun p => p.ct.cp) = certsI x.st := by
  rw [List.take_of_length_le (by omega)]
  simp only [certsI, Ins.st, List.filter_map, List.map_map]
  rfl

set_option maxHeartbeats 2000000 in
set_option maxRecDepth 100000 in
theorem ai_certs {i : Nat} {st : In} (h : AtI B w0 W i st ss) : Calls Tryz.prog 101 #[.pointer (some ⟨i, 0, none⟩)] W (CertsP B w0 i st ss) := by
  obtain ⟨x, rfl, rfl, h3⟩ := h
  obtain ⟨i0, hi, hz0, hz1, hz2⟩ := info_parts Tryz.infoCert
  have ho := own_open h3
  obtain ⟨-, -, -, -, -, c5, l1, l2⟩ := oi_cells ho
  have HN := Lib.hid (oi_ok ho).n
  have H0 : Hid (Own B w0 W (ownR 42 5 (.slice none 0 0) 0 [] :: ctsR [] :: instR x :: ss)) := Lib.hid ((h3.new (r := ctsR []) (Upd.refl [] _) ⟨[], ⟨by simp, by simp⟩, by simp, fun k hk => h3.lt k hk⟩ (by simp [ctsR, imm])).row0)
  clear ho h3
  go_enter Tryz.func101, Tryz.ntmps101
  go_wp2_with fail
  go_loopw [3, 11] (fun out n wr => ∃ (k : Nat) (cts : List Ct) (ao : Option Addr) (cp : Nat), k ≤ 16 ∧ n = .int .i64 k ∧ out = .slice ao cts.length cp ∧ Hid (cts.map Ct.cp = ((x.l.take k).filter (·.has)).map (fun p => p.ct.cp)) ∧ Hid (cts.length ≤ k) ∧
    Hid (Own B w0 wr (ownR 42 5 (.slice ao cts.length cp) cts.length (cts.flatMap ctCells) :: ctsR cts :: instR x :: ss))) (fun _ n _ => 16 - (intOf n).toNat)
  case atStart => exact ⟨0, [], none, 0, by omega, rfl, rfl, Lib.hid rfl, Lib.hid (by simp), H0⟩
  case round =>
    clear H0 c5
    obtain ⟨k, cts, ao, cp, hk, rfl, rfl, HM, HLE, H1⟩ := hrel
    by_cases hlt : k < 16
    · have hkI : (k : Int) < 16 := by omega
      have hl : k < x.l.length := by rw [HN.out]; exact hlt
      have hle := HLE.out
      have h1 := own_open H1.out.rot
      obtain ⟨a1, e1, a2, e2, a3, e3, a4, e4, s1, s2, s3, s4⟩ := ct_shape h1 k hl
      obtain ⟨g0, g1, g2, g3, g4, g5, g6, g7, g8, g9, g10, g11, g12, g13⟩ := oi_row h1 k hl
      have HT := Lib.hid (certs_take x.l k hl)
      have hct := (oi_cert h1 k hl).1
      rw [s1] at g6; rw [s2] at g7; rw [s3] at g12; rw [s4] at g13
      have HS1 := Lib.hid s1
      have HS2 := Lib.hid s2
      have H2 := Lib.hid (H1.out.alloc (.cells #[x.l[k].lc.ptr, .bool x.l[k].told, .bool x.l[k].has, .int .i64 x.l[k].ct.view, .int .i64 x.l[k].ct.inst, .int .i64 x.l[k].ct.seq, .slice a1 x.l[k].ct.rs.length e1, .slice a2 x.l[k].ct.vs.length e2, .bool x.l[k].done, .int .i64 x.l[k].dw.view, .int .i64 x.l[k].dw.inst, .int .i64 x.l[k].dw.seq, .slice a3 x.l[k].dw.rs.length e3, .slice a4 x.l[k].dw.vs.length e4] 241 (0, 0)))
      have HF := Lib.hid (fresh_ct x.l[k].ct (wr.alloc (.cells #[x.l[k].lc.ptr, .bool x.l[k].told, .bool x.l[k].has, .int .i64 x.l[k].ct.view, .int .i64 x.l[k].ct.inst, .int .i64 x.l[k].ct.seq, .slice a1 x.l[k].ct.rs.length e1, .slice a2 x.l[k].ct.vs.length e2, .bool x.l[k].done, .int .i64 x.l[k].dw.view, .int .i64 x.l[k].dw.inst, .int .i64 x.l[k].dw.seq, .slice a3 x.l[k].dw.rs.length e3, .slice a4 x.l[k].dw.vs.length e4] 241 (0, 0))) (Reads.upd (M := []) hct.1 ((Upd.refl _ _).alloc _) (by simp)) hct.2.2.1 (Reads.upd (M := []) hct.2.1 ((Upd.refl _ _).alloc _) (by simp)) hct.2.2.2)
      unfold ctAgg at HF
      rw [HS1.out, HS2.out] at HF
      obtain ⟨hn1, hn2⟩ := hct.2.2
      clear h1 s1 s2 s3 s4 hct H1
      cases hh : x.l[k].has
      · rw [hh] at g2 HT
        have HHH := Lib.hid hh
        clear hh
        go_wp2_with fail
        go_roundw
        case rel => exact ⟨k + 1, cts, ao, cp, by omega, by go_num, rfl, Lib.hid (by rw [HM.out, HT.out]; simp), Lib.hid (by omega), by rw [← HHH.out]; exact H2⟩
        case measure => simp [intOf]; omega
      · rw [hh] at g2 HT HF H2
        clear hh
        go_wp2_with fail
        refine HF.out.mono ?_
        rintro e w2 ⟨⟨view', inst', seq', vb', vv', rs', vs'⟩, rfl, hcp, hu2, hb2, hv2, n1, n2⟩
        simp only at hb2 hv2 n1 n2
        obtain ⟨ao6, cap6, rfl⟩ := bat_form hb2
        obtain ⟨co6, cav6, rfl⟩ := vts_form hv2
        have HCP := Lib.hid hcp
        have H3 := Lib.hid ((own_red2 H2.out hu2 hb2 hv2 n1 n2).rot.alloc (.cells (ctCells ⟨view', inst', seq', .slice ao6 rs'.length cap6, .slice co6 vs'.length cav6, rs', vs'⟩).toArray 42))
        have HO := Lib.hid (ownR_owns H3.out.head)
        clear hcp hu2 hb2 hv2 n1 n2 HF H2 g0 g1 g2 g3 g4 g5 g6 g7 g8 g9 g10 g11 g12 g13
        go_wp2_with (at_builtin; refine wpList_append_lies _ rfl (.tmp 17) (.tmp 21) 44 rfl 0 42 i0 (.agg #[.int .i64 0, .int .i64 0, .int .i64 0, .slice none 0 0, .slice none 0 0]) 5 72 Tryz.underlying44 hi hz0 hz1 hz2 rfl (by decide) _ cts.length _ rfl HO.out ⟨w2.heap.size, 0, none⟩ 1 1 (ctCells ⟨view', inst', seq', .slice ao6 rs'.length cap6, .slice co6 vs'.length cav6, rs', vs'⟩) rfl rfl ?c1 ?c2 (by decide) ?c3 ?c4 (Nat.zero_le _) _ rfl ?c6)
        case c1 => exact World.news_of_block (heap_alloc_new w2 _)
        case c2 => exact ctCells_one rfl rfl
        case c3 => unfold maxLen; omega
        case c4 => omega
        case c6 =>
          intro g cap2 w3 hown hgrow hat hlt3
          have h4 := (H3.out.grow hgrow (by rw [hs_alloc]; exact hat) hown).perm3
          have hcp := HCP.out
          have e4 : rs' = x.l[k].ct.rs := congrArg Cp.rs hcp
          have e5 : vs' = x.l[k].ct.vs := congrArg Cp.vs hcp
          have h5 := (cts_add (c := ⟨view', inst', seq', .slice ao6 rs'.length cap6, .slice co6 vs'.length cav6, rs', vs'⟩) h4 (by rw [e4]; exact hn1) (by rw [e5]; exact hn2)).swap
          have H5 := Lib.hid h5
          clear h4 h5 hown hgrow hat hlt3 hcp e4 e5
          go_wp2_with fail
          go_roundw
          case rel =>
            refine ⟨k + 1, cts ++ [⟨view', inst', seq', .slice ao6 rs'.length cap6, .slice co6 vs'.length cav6, rs', vs'⟩], some ⟨g, 0, none⟩, cap2, by omega, by go_num, by simp, Lib.hid ?_, Lib.hid (by simp; omega), Lib.hid ?_⟩
            · rw [List.map_append, HM.out, HT.out]
              simp only [if_true, List.map_cons, List.map_nil]
              rw [HCP.out]
            · rw [List.flatMap_append, List.length_append]
              simpa using H5.out
          case measure => simp [intOf]; omega
    · have hk16 : k = 16 := by omega
      subst hk16
      have HCA := Lib.hid (certs_all x HN.out)
      go_wp2_with fail
      go_ret
      exact ⟨_, cts, rfl, by rw [HM.out, HCA.out], x, rfl, rfl, H1.out.rot⟩

end
end Go.Proofs.YtannckelmojkoaaGreat
