/- psephoslaw14.right: a slot is what the document says. -/
import Derived.Test.YtdeadekeffficaaPlB
import Derived.Test.YtdeadekeffficaaWs
import Derived.Deep.RegionHeld3
import Derived.Deep.DeepCutAuto
import Derived.Deep.CutBlock
namespace Go.Proofs.Ytdeadekeffficaa
open Go.RowKit Go.Heap

/-- The document's slot in block q: as st says. -/
structure RefAt (w : World) (q : Nat) (st : Sl) : Prop where
  own : ∃ vb vp vc, w.heap[q]? = some (.cells #[.bool st.has, vb, vp, vc] 59 (0, 0)) ∧ Bat w vb (chosenS st) ∧
    (∃ pl, RVs w vp pl ∧ pl.map rvOf = refs st.ps 0) ∧ ∃ cl, RVs w vc cl ∧ cl.map rvOf = refs st.cs 0

theorem RefAt.upd0 {w w' : World} {q : Nat} {st : Sl} (h : RefAt w q st) (hu : Upd [] w w') : RefAt w' q st := by
  obtain ⟨vb, vp, vc, h1, h2, ⟨pl, h3, h4⟩, cl, h5, h6⟩ := h.own
  exact ⟨vb, vp, vc, by rw [hu.block q (block_lt h1) (by simp)]; exact h1, h2.upd hu (by simp), ⟨pl, h3.upd0 hu, h4⟩, cl, h5.upd0 hu, h6⟩

theorem small_batch {all : List Vt} {q n : Nat} : ∀ l : List Vt, (∀ t ∈ l, t.batch.length ≤ n) → (batchOf (committedL all q l)).length ≤ n
  | [], _ => by simp [committedL, batchOf]
  | t :: r, h => by
    have ih := small_batch (all := all) (q := q) r (fun t ht => h t (List.mem_cons_of_mem _ ht))
    unfold committedL
    cases t.has
    · exact ih
    · cases enoughS all t.batch q with
      | none => exact ih
      | some vs => exact h t (by simp)

theorem small_votes {all : List Vt} {q : Nat} : ∀ l : List Vt, (votesOf (committedL all q l)).length ≤ q
  | [] => by simp [committedL, votesOf]
  | t :: r => by
    have ih := small_votes (all := all) (q := q) r
    unfold committedL
    cases t.has
    · exact ih
    · cases he : enoughS all t.batch q with
      | none => exact ih
      | some vs =>
        unfold enoughS at he
        split at he
        · cases he
        · simp only [Option.some.injEq] at he
          subst he
          show (List.take _ _).length ≤ q
          rw [List.length_take]; omega

set_option maxHeartbeats 1000000 in
set_option maxRecDepth 100000 in
theorem right_any {B : Nat} {w0 W : World} {L : Loc} {st : Sl} {ss : List (Loc × Sl)} {ks : List (Nat × Obj)} {bs : List (Value × List Rq)} (H : Ws B w0 W ((L, st) :: ss) ks bs) (q f : Nat) (hf : L.f = f) (hf1 : 1 ≤ f) (hf2 : f ≤ 4) (hr : RefAt W q st) (hn : (chosenS st).length ≤ 100000) :
    Calls Try.prog 32 #[L.ptr, .pointer (some ⟨q, 0, none⟩), .int .i64 f] W fun e w' => e = .returned (.bool true) ∧ Ws B w0 w' ((L, st) :: ss) ks bs ∧ Upd [] W w' := by
  have HH := Lib.hid H
  have HR := Lib.hid hr
  have HF := Lib.hid hf
  clear H hr hf
  go_enter Try.func32, Try.ntmps32
  go_wp2_with fail
  refine (ws_chosen HH.out).mono ?_
  rintro e w1 ⟨u1, rfl, hu1, h1, hb1⟩
  have H1 := Lib.hid h1
  have B1 := Lib.hid hb1
  have U1 := Lib.hid hu1
  have R1 := Lib.hid (HR.out.upd0 hu1)
  clear h1 hb1 hu1
  obtain ⟨vb, vp, vc, o1, o2, ⟨pl, o3, o4⟩, cl, o5, o6⟩ := R1.out.own
  have c0 : w1.cell? ⟨q, 0, none⟩ = some (.bool st.has) := by rw [block_cell o1]; rfl
  have c1 : w1.cell? ⟨q, 1, none⟩ = some vb := by rw [block_cell o1]; rfl
  have O1 := Lib.hid o1
  have O2 := Lib.hid o2
  have O3 := Lib.hid o3
  have O4 := Lib.hid o4
  have O5 := Lib.hid o5
  have O6 := Lib.hid o6
  clear o1 o2 o3 o4 o5 o6
  have hnb : (st.has != st.has) = false := by simp
  go_wp2_with fail
  refine (sameR_any u1 vb (chosenS st) (chosenS st) _ hn hn B1.out O2.out).mono ?_
  rintro e w2 ⟨rfl, hu2⟩
  rw [decide_eq_true (rfl : chosenS st = chosenS st)]
  have k0 : w2.cell? ⟨q, 0, none⟩ = some (.bool st.has) := (hu2.cell (block_lt O1.out) (by simp)).trans c0
  have k1 : w2.cell? ⟨q, 1, none⟩ = some vb := (hu2.cell (block_lt O1.out) (by simp)).trans c1
  have k2 : w2.cell? ⟨q, 2, none⟩ = some vp := (hu2.cell (block_lt O1.out) (by simp)).trans (by rw [block_cell O1.out]; rfl)
  clear c0 c1
  go_upto_if 42 with fail
  go_cut [9, 10] (fun v b wx => b = .bool (preparedS f st).isSome ∧ Hid (Vts wx v ((preparedS f st).getD [])) ∧ Hid (Upd [] w2 wx))
  case first =>
    go_wp2_with fail
    · rename_i hh
      have hp : preparedS f st = enoughS st.ps st.batch (2 * f + 1) := by simp [preparedS, hh]
      have hcs : chosenS st = st.batch := by simp [chosenS, hh]
      have HP := Lib.hid hp
      have HCS := Lib.hid hcs
      clear hp hcs hh
      have hen := for_any vp vb pl (chosenS st) (2 * f + 1) w2.drew (by omega) ((O3.out.upd0 hu2).upd0 (Upd.refl _ _).drew) ((O2.out.upd hu2 (by simp)).upd (M := []) (Upd.refl _ _).drew (by simp)) hn
      have e2 : ((2 * f + 1 : Nat) : Int) = 2 * (f : Int) + 1 := by omega
      rw [e2] at hen
      have HEN := Lib.hid hen
      clear hen e2
      have lq : q < w2.drew.heap.size := Nat.lt_of_lt_of_le (block_lt O1.out) hu2.size
      have k1d : w2.drew.cell? ⟨q, 1, none⟩ = some vb := k1
      have k2d : w2.drew.cell? ⟨q, 2, none⟩ = some vp := k2
      go_region_held3 (fun w' => w'.cell? ⟨q, 1, none⟩ = some vb ∧ w'.cell? ⟨q, 2, none⟩ = some vp)
        (first
          | (with_reducible exact ⟨k1d, k2d⟩)
          | (with_reducible exact ⟨k1e, k2e⟩))
        (first
          | (go_at_call 27; refine (rquorum_any f _ (by omega) (by omega)).mono ?_; rintro e w' ⟨rfl, rfl⟩)
          | (go_at_call 62; refine HEN.out.mono ?_; rintro e w3 ⟨u3, rfl, hb3, hv3, -⟩
             have k1e := (hb3.cell (p := ⟨q, 1, none⟩) lq).trans k1d
             have k2e := (hb3.cell (p := ⟨q, 2, none⟩) lq).trans k2d))
      go_wp2_with fail
      go_meet
      have hfs : forS pl (chosenS st) (2 * f + 1) = preparedS f st := by rw [HP.out, HCS.out, for_refs O4.out]
      rw [hfs] at hv3 ⊢
      exact ⟨rfl, hv3, (Upd.of_below (M := []) hb3).mono (by simp) |> fun h => ((Upd.refl _ _).drew).trans h⟩
    · rename_i hh
      have hh' : st.has = false := by simpa using hh
      have HP := Lib.hid (show preparedS f st = none by simp [preparedS, hh'])
      go_meet
      refine ⟨by rw [HP.out]; rfl, ?_, Upd.refl _ _⟩
      rw [HP.out]; exact Reads.nil _ _
  case rest =>
    obtain ⟨rfl, HV, HU⟩ := hcut
    clear k0 k1 k2 hnb
    have HC := Lib.hid (H1.out.upd0 (hu2.trans HU.out))
    have RC := Lib.hid (R1.out.upd0 (hu2.trans HU.out))
    have UC := Lib.hid ((U1.out.trans hu2).trans HU.out)
    clear hu2 HU O1 O2 O3 O4 O5 O6 B1
    have hpl : ((preparedS f st).getD []).length ≤ 100000 := by
      unfold preparedS enoughS
      split
      · split
        · simp
        · simp only [Option.getD_some, List.length_take]; omega
      · simp
    have HPL := Lib.hid hpl
    clear hpl
    go_wp2_with fail
    refine (ws_prepared HC.out).mono ?_
    rintro e w4 ⟨u4, rfl, hu4, h4, hb4⟩
    rw [HF.out] at hb4 ⊢
    have H4 := Lib.hid h4
    have R4 := Lib.hid (RC.out.upd0 hu4)
    have U4 := Lib.hid (UC.out.trans hu4)
    have V4 := Lib.hid (HV.out.upd hu4 (by simp))
    have W4 := Lib.hid hb4
    clear h4 hb4 hu4 HC RC UC HV
    generalize (preparedS f st).isSome = pb at *
    have hpp : (pb != pb) = false := by simp
    go_wp2_with fail
    refine (sameV_any _ u4 _ _ _ HPL.out HPL.out V4.out W4.out).mono ?_
    rintro e w5 ⟨rfl, hu5⟩
    rw [show decide ((preparedS f st).getD [] = (preparedS f st).getD []) = true from decide_eq_true rfl]
    have H5 := Lib.hid (H4.out.upd0 hu5)
    have R5 := Lib.hid (R4.out.upd0 hu5)
    have U5 := Lib.hid (U4.out.trans hu5)
    clear hu5 H4 R4 U4 V4 W4
    go_wp2_with fail
    refine (rquorum_any f _ (by omega) (by omega)).mono ?_
    rintro e w' ⟨rfl, rfl⟩
    obtain ⟨vb', vp', vc', o1, -, -, cl', o5, o6⟩ := R5.out.own
    have hcm := rcomm_any q vc' cl' (2 * f + 1) w5 (by omega) (block_lt o1) (by rw [block_cell o1]; rfl) o5
    have e2 : ((2 * f + 1 : Nat) : Int) = 2 * (f : Int) + 1 := by omega
    rw [e2, rcommL_refs o6 (2 * f + 1) st.cs 0 cl' o6] at hcm
    have HCM := Lib.hid hcm
    clear hcm o1 o5 o6 e2
    have hsm : ∀ t ∈ st.cs, t.batch.length ≤ 100000 := by
      obtain ⟨D, q1, _, _⟩ := (H5.out.on (L, st) (by simp)).2
      exact q1.small.2.2
    have LB := Lib.hid (small_batch (all := st.cs) (q := 2 * f + 1) st.cs hsm)
    have LV := Lib.hid (small_votes (all := st.cs) (q := 2 * f + 1) st.cs)
    clear hsm
    go_wp2_with fail
    refine HCM.out.mono ?_
    rintro e w6 ⟨v6, u6, rfl, hb6, hv6, hw6⟩
    have H6 := Lib.hid (H5.out.upd0 (Upd.of_below hb6))
    have U6 := Lib.hid (U5.out.trans (Upd.of_below hb6))
    have B6 := Lib.hid hv6
    have V6 := Lib.hid hw6
    clear hb6 hv6 hw6 H5 U5 HCM R5
    go_wp2_with fail
    refine (ws_committed H6.out).mono ?_
    rintro e w7 ⟨v7, u7, rfl, hu7, h7, hb7, hv7⟩
    rw [HF.out, show committedS f st = committedL st.cs (2 * f + 1) st.cs from rfl] at hb7 hv7 ⊢
    have H7 := Lib.hid h7
    have U7 := Lib.hid (U6.out.trans hu7)
    have B6a := Lib.hid (B6.out.upd hu7 (by simp))
    have V6a := Lib.hid (V6.out.upd hu7 (by simp))
    have B7 := Lib.hid hb7
    have V7 := Lib.hid hv7
    clear h7 hb7 hv7 hu7 H6 U6 B6 V6
    generalize committedL st.cs (2 * f + 1) st.cs = R at *
    have hbb : (R.isSome == R.isSome) = true := by simp
    generalize R.isSome = bb at *
    go_wp2_with fail
    refine (sameR_any v6 v7 (batchOf R) (batchOf R) _ LB.out LB.out B6a.out B7.out).mono ?_
    rintro e w8 ⟨rfl, hu8⟩
    rw [decide_eq_true (rfl : batchOf R = batchOf R)]
    have hlv : (votesOf R).length ≤ 100000 := by have := LV.out; omega
    have hsv := sameV_any u6 u7 (votesOf R) (votesOf R) w8 hlv hlv (V6a.out.upd hu8 (by simp)) (V7.out.upd hu8 (by simp))
    have H8 := Lib.hid (H7.out.upd0 hu8)
    have U8 := Lib.hid (U7.out.trans hu8)
    have HSV := Lib.hid hsv
    clear hsv hlv hu8 H7 U7
    go_wp2_with fail
    refine HSV.out.mono ?_
    rintro e w9 ⟨rfl, hu9⟩
    rw [decide_eq_true trivial]
    have H9 := Lib.hid (H8.out.upd0 hu9)
    have U9 := Lib.hid (U8.out.trans hu9)
    clear hu9
    go_wp2_with fail
    go_ret
    exact ⟨rfl, H9.out, U9.out⟩

end Go.Proofs.Ytdeadekeffficaa
