/- slot.Committed. -/
import Derived.Test.YtdeadekeffficaaSlot3
namespace Go.Proofs.Ytdeadekeffficaa
open Go.RowKit Go.Heap

/-- The first batch for which there are q votes, and these. -/
def committedL (all : List Vt) (q : Nat) : List Vt → Option (List Rq × Vs)
  | [] => none
  | t :: r => if t.has then (match enoughS all t.batch q with | some vs => some (t.batch, vs) | none => committedL all q r) else committedL all q r

def committedS (f : Nat) (st : Sl) : Option (List Rq × Vs) := committedL st.cs (2 * f + 1) st.cs

def batchOf (r : Option (List Rq × Vs)) : List Rq := match r with | some p => p.1 | none => []
def votesOf (r : Option (List Rq × Vs)) : Vs := match r with | some p => p.2 | none => []

def CommittedPost (w : World) (r : Option (List Rq × Vs)) (e : Ending) (w' : World) : Prop :=
  ∃ v u, e = .returned (.tuple #[v, u, .bool r.isSome]) ∧ Below w.heap.size w w' ∧ Bat w' v (batchOf r) ∧ Vts w' u (votesOf r) ∧ (∀ k ∈ blkOf v, w.heap.size ≤ k) ∧ ∀ k ∈ blkOf u, w.heap.size ≤ k

set_option maxHeartbeats 1000000 in
set_option maxRecDepth 100000 in
theorem slot_committed {w : World} {s bp bc cp cq f : Nat} {st : Sl} {D : List Nat} (h : SlotAt w s bp bc cp cq f st D) :
    Calls Try.prog 24 #[.pointer (some ⟨s, 0, none⟩)] w (CommittedPost w (committedS f st)) := by
  have H := Lib.hid h
  obtain ⟨ao, cap, l1, l2, l3, c0, c1, c2, c3, c4, fz, b1, b2, own⟩ := h.cells
  have hcl := h.cl
  have hf1 := h.f1
  have hf2 := h.f2
  have hlen : st.cs.length ≤ 13 := by omega
  have HCL := Lib.hid hcl
  clear b1 own fz b2 h hcl c1 c2 c3
  go_enter Try.func24, Try.ntmps24
  go_wp2_with fail
  go_loopw [14] (fun i wr => ∃ k : Nat, k ≤ 3 * f + 1 ∧ i = .int .i64 k ∧ Below w.heap.size w wr ∧ Hid (committedS f st = committedL st.cs (2 * f + 1) (st.cs.drop k))) (fun i _ => 3 * f + 1 - (intOf i).toNat)
  case atStart => exact ⟨0, by omega, rfl, Below.refl _ _, by rfl⟩
  case round =>
    obtain ⟨k, hk, rfl, hbel, hcom⟩ := hrel
    have hz := hbel.size
    have k0 := (hbel.cell (p := ⟨s, 0, none⟩) l1).trans c0
    have k4 := (hbel.cell (p := ⟨s, 4, none⟩) l1).trans c4
    by_cases hlt : k < 3 * f + 1
    · have hkl : k < st.cs.length := by rw [HCL.out]; exact hlt
      have hvr := H.out.cs.upd (M := []) (Upd.of_below hbel) (by simp) (by simp)
      obtain ⟨bv, d0, d1, d2, hbat, hbw, _, _⟩ := hvr.cells k st.cs[k] (by simp)
      obtain ⟨bo, bcap, rfl⟩ := bat_form hbat
      have HBAT := Lib.hid hbat
      have HVR := Lib.hid hvr
      have hlk := H.out.small.2.2 st.cs[k] (by simp)
      have hkI : (k : Int) < 3 * (f : Int) + 1 := by omega
      have hkN : (k : Int) < ((3 * f + 1 : Nat) : Int) := by omega
      clear hvr hbat
      have hdrop := Lib.hid (List.drop_eq_getElem_cons hkl)
      by_cases hhas : st.cs[k].has = true
      · rw [hhas] at d0
        have HHAS := Lib.hid hhas
        clear hhas
        have hsr : s < wr.heap.size := Nat.lt_of_lt_of_le l1 hz
        have hsn : s ≠ wr.heap.size := by omega
        go_wp2_with fail
        refine Mix.wp_text (by kernel_rfl) (by kernel_rfl) ?_
        go_wp2_with fail
        have HU0 : Upd [] wr (wr.alloc (.cells #[.bool true, .int .i64 st.cs[k].sl, .slice bo st.cs[k].batch.length bcap] 109)).drew := ((Upd.refl _ _).alloc _).drew
        have hen := enough_any s bc cq (.slice bo st.cs[k].batch.length bcap) f st.cs D st.cs[k].batch (wr.alloc (.cells #[.bool true, .int .i64 st.cs[k].sl, .slice bo st.cs[k].batch.length bcap] 109)).drew hf1 hf2 hlen (by simp; omega) (by omega)
          ((HU0.cell hsr (by simp)).trans k0) (HVR.out.upd HU0 (by simp) (by simp)) (HBAT.out.upd HU0 (by simp)) hlk H.out.small.2.2
        rw [HCL.out] at hen
        simp only [hs_drew, hs_alloc] at hen
        have hx2 : (wr.alloc (.cells #[.bool true, .int .i64 st.cs[k].sl, .slice bo st.cs[k].batch.length bcap] 109)).cell? ⟨wr.heap.size, 2, none⟩ = some (.slice bo st.cs[k].batch.length bcap) := by
          rw [block_cell (heap_alloc_new wr _)]; rfl
        have HX2 := Lib.hid hx2
        clear hx2
        have hbelq : Below w.heap.size w (wr.alloc (.cells #[.bool true, .int .i64 st.cs[k].sl, .slice bo st.cs[k].batch.length bcap] 109)).drew := (hbel.alloc hz _).drew
        cases hr : enoughS st.cs st.cs[k].batch (2 * f + 1) with
        | none =>
          rw [hr] at hen
          have HR := Lib.hid hr
          clear hr
          refine hen.mono ?_
          clear hen
          rintro e w2 ⟨u, rfl, hb1, -, -⟩
          go_wp2_with fail
          refine ⟨by rfl, ?_⟩
          go_wp2_with fail
          go_roundw
          case rel =>
            refine ⟨k + 1, by omega, by go_num, hbelq.trans (hb1.mono (by omega)), ?_⟩
            have h1 := hcom.out
            rw [hdrop.out] at h1
            show committedS f st = _
            rw [h1, committedL, if_pos HHAS.out, HR.out]
          case measure => simp [intOf]; omega
        | some vs =>
          rw [hr] at hen
          have HR := Lib.hid hr
          clear hr
          refine hen.mono ?_
          clear hen
          rintro e w2 ⟨u, rfl, hb1, hv, hn⟩
          have HV := Lib.hid hv
          have HN := Lib.hid hn
          clear hv hn
          have x2 : w2.cell? ⟨wr.heap.size, 2, none⟩ = some (.slice bo st.cs[k].batch.length bcap) := (hb1.cell (p := ⟨wr.heap.size, 2, none⟩) (Nat.lt_succ_self _)).trans HX2.out
          go_wp2_with fail
          refine ⟨by rfl, ?_⟩
          go_wp2_with fail
          refine (fresh_any _ st.cs[k].batch _ hlk ((HBAT.out.upd HU0 (by simp)).upd (M := []) (Upd.of_below (by simpa using hb1)) (by simp))).mono ?_
          rintro e w3 ⟨v', rfl, hu3, hbat3, hnew3⟩
          have HB3 := Lib.hid hbat3
          have HN3 := Lib.hid hnew3
          clear hbat3 hnew3
          have hz2 := hb1.size
          simp only [hs_drew, hs_alloc] at hz2
          go_wp2_with fail
          go_ret3
          have hcs : committedS f st = some (st.cs[k].batch, vs) := by rw [hcom.out, hdrop.out, committedL, if_pos HHAS.out, HR.out]
          refine ⟨v', u, by rw [hcs]; rfl, (hbelq.trans (hb1.mono (by omega))).trans (hu3.below.mono (by omega)), by rw [hcs]; exact HB3.out, ?_, ?_, ?_⟩
          · rw [hcs]; exact HV.out.upd hu3 (by simp)
          · intro j hj; have := (HN3.out j hj).1; omega
          · intro j hj; have := HN.out j hj; omega
      · have hhas' : st.cs[k].has = false := by simpa using hhas
        rw [hhas'] at d0
        have HHAS := Lib.hid hhas'
        clear hhas hhas'
        go_wp2_with fail
        go_roundw
        case rel =>
          refine ⟨k + 1, by omega, by go_num, hbel.alloc hz _, ?_⟩
          have h1 := hcom.out
          rw [hdrop.out] at h1
          show committedS f st = _
          rw [h1, committedL, if_neg (by rw [HHAS.out]; simp)]
        case measure => simp [intOf]; omega
    · have hkn : ¬ (k : Int) < ((3 * f + 1 : Nat) : Int) := by omega
      go_wp2_with fail
      go_ret3
      have hcs : committedS f st = none := by rw [hcom.out, List.drop_of_length_le (by rw [HCL.out]; omega)]; rfl
      exact ⟨.slice none 0 0, .slice none 0 0, by rw [hcs]; rfl, hbel, by rw [hcs]; exact Reads.nil _ _, by rw [hcs]; exact Reads.nil _ _, by simp [blkOf], by simp [blkOf]⟩

end Go.Proofs.Ytdeadekeffficaa
