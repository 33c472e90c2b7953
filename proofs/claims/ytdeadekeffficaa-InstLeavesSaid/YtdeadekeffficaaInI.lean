/- inst: New. -/
import Derived.Test.YtdeadekeffficaaInH
import Derived.Deep.AppendLies
namespace Go.Proofs.Ytdeadekeffficaa
open Go.RowKit Go.Heap

theorem Try.infoPl : (Try.prog.info? 122).map (fun i => (i.zero, i.size, i.bytes)) = some (some (.agg #[.pointer none, .bool false, .bool false, .int .i64 0, .int .i64 0, .int .i64 0, .slice none 0 0, .slice none 0 0, .bool false, .int .i64 0, .int .i64 0, .int .i64 0, .slice none 0 0, .slice none 0 0]), 14, 168) := by kernel_rfl

section
variable {B : Nat} {w0 W W' : World} {ss rs : List Res} {x : Ins}

def newPm (L : Loc) (f : Nat) : Pm := ⟨L, emptySl f, false, false, noCt, false, noCt⟩

theorem newPm_one (L : Loc) (f : Nat) : ∀ u ∈ pmCells (newPm L f), u.oneCell' = true := by
  intro u hu
  simp only [pmCells, newPm, noCt, List.mem_cons, List.not_mem_nil, or_false] at hu
  rcases hu with rfl | rfl | rfl | rfl | rfl | rfl | rfl | rfl | rfl | rfl | rfl | rfl | rfl | rfl <;> rfl

/-- What New leaves. -/
def NewP (B : Nat) (w0 : World) (st : In) (ss : List Res) (e : Ending) (w' : World) : Prop := ∃ x : Ins, e = .returned (.tuple #[x.ptr, .int .i64 0]) ∧ x.st = st ∧ Own B w0 w' (instR x :: ss)

/-- An instance that is being made: k places. -/
def MkI (B : Nat) (w0 w : World) (i f : Nat) (num ahead : Int) (k : Nat) (ss : List Res) : Prop :=
  ∃ (ls : List Loc) (ao : Option Addr) (cp : Nat), ls.length = k ∧ (∀ L ∈ ls, L.f = f) ∧
    Own B w0 w (ownR 122 14 (.slice ao k cp) k ((ls.map fun L => newPm L f).flatMap pmCells) :: blk i (insO f num ahead 0 true (.slice ao k cp)) :: ((ls.map fun L => newPm L f).map pmR ++ ss))

theorem mk_more {i f : Nat} {num ahead : Int} {k g cap2 : Nat} {ls : List Loc} {L : Loc} {ao : Option Addr} {cp : Nat} (hl : ls.length = k) (hlf : ∀ L ∈ ls, L.f = f) (hf : L.f = f)
    (h : Own B w0 W (blk i (setIn 5 (.slice (some ⟨g, 0, none⟩) (k + 1) cap2) (insO f num ahead 0 true (.slice ao k cp))) :: ownR 122 14 (.slice (some ⟨g, 0, none⟩) (k + 1) cap2) (k + 1) ((ls.map fun L => newPm L f).flatMap pmCells ++ pmCells (newPm L f)) :: slotR L (emptySl f) :: ((ls.map fun L => newPm L f).map pmR ++ ss))) : MkI B w0 W i f num ahead (k + 1) ss := by
  refine ⟨ls ++ [L], some ⟨g, 0, none⟩, cap2, by simp [hl], fun L' hL' => ?_, ?_⟩
  · rcases List.mem_append.1 hL' with h | h
    · exact hlf L' h
    · simp at h; subst h; exact hf
  · have h2 := h.rot
    have h3 : Own B w0 W (slotR L (emptySl f) :: ([ownR 122 14 (.slice (some ⟨g, 0, none⟩) (k + 1) cap2) (k + 1) ((ls.map fun L => newPm L f).flatMap pmCells ++ pmCells (newPm L f)), blk i (insO f num ahead 0 true (.slice (some ⟨g, 0, none⟩) (k + 1) cap2))] ++ ((ls.map fun L => newPm L f).map pmR ++ ss))) := h2.perm (List.Perm.cons _ (List.Perm.swap _ _ _))
    have h4 := Own.perm (ss := ([ownR 122 14 (.slice (some ⟨g, 0, none⟩) (k + 1) cap2) (k + 1) ((ls.map fun L => newPm L f).flatMap pmCells ++ pmCells (newPm L f)), blk i (insO f num ahead 0 true (.slice (some ⟨g, 0, none⟩) (k + 1) cap2))] ++ (ls.map fun L => newPm L f).map pmR) ++ slotR L (emptySl f) :: ss) h3 (by
      rw [← List.append_assoc]
      exact List.perm_middle.symm)
    simp only [List.map_append, List.flatMap_append, List.map_cons, List.map_nil, List.flatMap_cons, List.flatMap_nil, List.append_nil, List.append_assoc, List.cons_append, List.nil_append] at h4 ⊢
    exact h4

theorem mk_done {i f : Nat} {num ahead : Int} {ls : List Loc} {ao : Option Addr} {cp : Nat} (hf1 : 1 ≤ f) (hf2 : f ≤ 4) (ha1 : 1 ≤ ahead) (ha2 : ahead ≤ 16) (hl : ls.length = 16) (hlf : ∀ L ∈ ls, L.f = f)
    (h : Own B w0 W (ownR 122 14 (.slice ao 16 cp) 16 ((ls.map fun L => newPm L f).flatMap pmCells) :: blk i (insO f num ahead 0 true (.slice ao 16 cp)) :: ((ls.map fun L => newPm L f).map pmR ++ ss))) : ∃ x : Ins, x.i = i ∧ x.st = newI f num ahead ∧ Own B w0 W (instR x :: ss) := by
  have hown := ownR_owns h.head
  rcases hown.2 with ⟨h1, h2⟩ | ⟨g, cap, cur, h1, hb, hg, q1, q2, q3, q4⟩
  · omega
  · simp only [Value.slice.injEq] at h1
    obtain ⟨rfl, -, rfl⟩ := h1
    have h2 := h.alter (r' := segR g 122 ((ls.map fun L => newPm L f).flatMap pmCells)) (ownR_seg h.head) (fun k hk => by simp [ownR, blkOf, segR] at hk ⊢; exact hk)
    refine ⟨⟨i, g, cp, f, num, ahead, 0, true, ls.map fun L => newPm L f⟩, rfl, ?_, own_shut ?_⟩
    · simp only [Ins.st, newI, In.mk.injEq, true_and, List.map_map]
      apply List.ext_getElem?
      intro j
      rw [List.getElem?_map, List.getElem?_replicate]
      by_cases hj : j < 16
      · rw [if_pos hj, List.getElem?_eq_getElem (by omega)]; rfl
      · rw [if_neg hj, List.getElem?_eq_none (by omega)]; rfl
    · have h3 : Own B w0 W (certsR ⟨i, g, cp, f, num, ahead, 0, true, ls.map fun L => newPm L f⟩ :: segR g 122 ((ls.map fun L => newPm L f).flatMap pmCells) :: blk i (insO f num ahead 0 true (.slice (some ⟨g, 0, none⟩) 16 cp)) :: ((ls.map fun L => newPm L f).map pmR ++ ss)) := h2.new (Upd.refl [] _) ⟨[], ⟨⟨⟨by simp [hl], hf1, hf2, fun p hp => ?_, q1, ha1, ha2, by simp⟩, fun p hp => ?_⟩, by simp⟩, by simp, fun k hk => h2.lt k hk⟩ (by simp [certsR, imm])
      · exact h3.swap.rot
      · simp only [List.mem_map] at hp
        obtain ⟨L, hL, rfl⟩ := hp
        exact hlf L hL
      · simp only [List.mem_map] at hp
        obtain ⟨L, hL, rfl⟩ := hp
        exact ⟨⟨ReadsIn.nil _ _ _, by simp [newPm, noCt], ReadsIn.nil _ _ _, by simp [newPm, noCt]⟩, ⟨ReadsIn.nil _ _ _, by simp [newPm, noCt], ReadsIn.nil _ _ _, by simp [newPm, noCt]⟩⟩

set_option maxHeartbeats 2000000 in
set_option maxRecDepth 100000 in
theorem ins_new (f : Nat) (num ahead : Int) (hf1 : 1 ≤ f) (hf2 : f ≤ 4) (hn1 : 0 ≤ num) (hn2 : num ≤ f) (ha1 : 1 ≤ ahead) (ha2 : ahead ≤ 16) (h : Own B w0 W ss) :
    Calls Try.prog 34 #[.int .i64 f, .int .i64 num, .int .i64 ahead] W (NewP B w0 (newI f num ahead) ss) := by
  obtain ⟨i0, hi, hz0, hz1, hz2⟩ := info_parts Try.infoPl
  have hb1 : decide ((f : Int) < 1) = false := by simp; omega
  have hb2 : decide (4 < (f : Int)) = false := by simp; omega
  have hb3 : decide (num < 0) = false := by simp; omega
  have hb4 : decide ((f : Int) < num) = false := by simp; omega
  have hb5 : decide (ahead < 1) = false := by simp; omega
  have hb6 : decide (16 < ahead) = false := by simp; omega
  have h0 : MkI B w0 (W.alloc (insO f num ahead 0 true (.slice none 0 0))) W.heap.size f num ahead 0 ss := ⟨[], none, 0, rfl, by simp, (h.box (insO f num ahead 0 true (.slice none 0 0))).row0⟩
  have H0 := Lib.hid h0
  clear h0 h
  go_enter Try.func34, Try.ntmps34
  go_wp2_with fail
  go_loopw [39] (fun i wr => ∃ k : Nat, k ≤ 16 ∧ i = .int .i64 k ∧ Hid (MkI B w0 wr W.heap.size f num ahead k ss)) (fun i _ => 16 - (intOf i).toNat)
  case atStart => exact ⟨0, by omega, rfl, H0⟩
  case round =>
    clear H0
    obtain ⟨k, hk, rfl, HM⟩ := hrel
    by_cases hlt : k < 16
    · have hkI : (k : Int) < 16 := by omega
      obtain ⟨ls, ao, cp, hl, hlf, hown⟩ := HM.out
      have HL := Lib.hid hl
      have HLF := Lib.hid hlf
      have HC := Lib.hid (own_new f hf1 hf2 hown)
      clear hl hlf hown
      go_wp2_with fail
      refine HC.out.mono ?_
      rintro e w2 ⟨L, rfl, hLf, -, h2⟩
      have H2 := Lib.hid h2
      have HF := Lib.hid hLf
      clear h2 hLf HC
      have hbl := H2.out.drop.drop.blk_out
      have c5 : w2.cell? ⟨W.heap.size, 5, none⟩ = some (.slice ao k cp) := by rw [block_cell hbl]; rfl
      clear hbl
      have HO := Lib.hid (ownR_owns (H2.out.alloc (.cells (pmCells (newPm L f)).toArray 122)).drop.head)
      go_wp2_with (at_builtin; refine wpList_append_lies _ rfl (.tmp 50) (.tmp 53) 118 rfl 0 122 i0 (.agg #[.pointer none, .bool false, .bool false, .int .i64 0, .int .i64 0, .int .i64 0, .slice none 0 0, .slice none 0 0, .bool false, .int .i64 0, .int .i64 0, .int .i64 0, .slice none 0 0, .slice none 0 0]) 14 168 Try.underlying118 hi hz0 hz1 hz2 rfl (by decide) _ k _ rfl HO.out ⟨w2.heap.size, 0, none⟩ 1 1 (pmCells (newPm L f)) rfl rfl ?c1 ?c2 (by decide) ?c3 ?c4 (Nat.zero_le _) _ rfl ?c6)
      case c1 => exact World.news_of_block (heap_alloc_new w2 _)
      case c2 => exact newPm_one L f
      case c3 => unfold maxLen; omega
      case c4 => omega
      case c6 =>
        intro g cap2 w3 hown hgrow hat hlt
        have h3 := ((H2.out.alloc (.cells (pmCells (newPm L f)).toArray 122)).swap.grow hgrow (by rw [hs_alloc]; exact hat) hown)
        have H3 := Lib.hid h3
        clear hown hgrow hat hlt h3 HO c5
        have hbl := H3.out.drop.drop.blk_out
        have c5 : w3.cell? ⟨W.heap.size, 5, none⟩ = some (.slice ao k cp) := by rw [block_cell hbl]; rfl
        have fz := block_frozen hbl 5
        clear hbl
        go_wp2_with fail
        have H4 := Lib.hid ((H3.out.rot.store 5 (.slice (some ⟨g, 0, none⟩) (k + 1) cap2)))
        go_roundw
        case rel => exact ⟨k + 1, by omega, by go_num, Lib.hid (mk_more HL.out HLF.out HF.out H4.out)⟩
        case measure => simp [intOf]; omega
    · have hk16 : k = 16 := by omega
      subst hk16
      obtain ⟨ls, ao, cp, hl, hlf, hown⟩ := HM.out
      have HX := Lib.hid (mk_done hf1 hf2 ha1 ha2 hl hlf hown)
      clear hl hlf hown
      go_wp2_with fail
      go_ret2
      obtain ⟨x, h1, h2, h3⟩ := HX.out
      exact ⟨x, by simp [Ins.ptr, h1], h2, h3⟩

end
end Go.Proofs.Ytdeadekeffficaa
