/- slot.Voted, Chosen, Prepared, Committed. -/
import Derived.Test.YtdeadekeffficaaSlot2
namespace Go.Proofs.Ytdeadekeffficaa
open Go.RowKit Go.Heap

set_option maxHeartbeats 400000 in
theorem voted_out {w : World} {s bp bc cp cq f : Nat} {st : Sl} {D : List Nat} (h : SlotAt w s bp bc cp cq f st D) (kind node : Int) (ao : Option Addr) (n cb : Nat)
    (hk : (if kind = 4 then .slice (some ⟨bp, 0, none⟩) (3 * f + 1) cp else if kind = 5 then .slice (some ⟨bc, 0, none⟩) (3 * f + 1) cq else .slice none 0 0 : Value) = .slice ao n cb)
    (ho : node < 0 ∨ (n : Int) ≤ node) :
    Calls Try.prog 28 #[.pointer (some ⟨s, 0, none⟩), .int .i64 kind, .int .i64 node] w fun e w' => e = .returned (.bool false) ∧ w = w' := by
  have H := Lib.hid h
  have HK := Lib.hid hk
  clear hk h
  rcases ho with ho | ho
  · go_enter Try.func28, Try.ntmps28
    go_wp2_with fail
    refine (votes_any H.out kind).mono ?_
    rw [HK.out]
    rintro e w' ⟨rfl, rfl⟩
    go_wp2_with fail
    go_ret
    exact ⟨rfl, rfl⟩
  · have h0 : 0 ≤ node := by omega
    have h1 : ¬ node < (n : Int) := by omega
    go_enter Try.func28, Try.ntmps28
    go_wp2_with fail
    refine (votes_any H.out kind).mono ?_
    rw [HK.out]
    rintro e w' ⟨rfl, rfl⟩
    go_wp2_with fail
    go_ret
    exact ⟨rfl, rfl⟩

set_option maxHeartbeats 400000 in
theorem voted_in {w : World} {s bp bc cp cq f : Nat} {st : Sl} {D : List Nat} (h : SlotAt w s bp bc cp cq f st D) (kind : Int) (node : Nat) (b cb : Nat) (l : List Vt) (hl : l.length = 3 * f + 1)
    (hk : (if kind = 4 then .slice (some ⟨bp, 0, none⟩) (3 * f + 1) cp else if kind = 5 then .slice (some ⟨bc, 0, none⟩) (3 * f + 1) cq else .slice none 0 0 : Value) = .slice (some ⟨b, 0, none⟩) (3 * f + 1) cb)
    (hv : VotesAt w b l D) (t : Vt) (ht : l[node]? = some t) :
    Calls Try.prog 28 #[.pointer (some ⟨s, 0, none⟩), .int .i64 kind, .int .i64 node] w fun e w' => e = .returned (.bool t.has) ∧ w = w' := by
  obtain ⟨bv, c0, c1, c2, _, hbw, _, fz⟩ := hv.cells node t ht
  have H := Lib.hid h
  have hf2 := h.f2
  have hnl : node < 3 * f + 1 := by rw [← hl]; exact (List.getElem?_eq_some_iff.1 ht).1
  have HK := Lib.hid hk
  clear hk ht fz hl hv h
  have i1 : (0 : Int) ≤ (node : Int) := by omega
  have i2 : (node : Int) < 3 * (f : Int) + 1 := by omega
  have i3 : (node : Int) < ((3 * f + 1 : Nat) : Int) := by omega
  go_enter Try.func28, Try.ntmps28
  go_wp2_with fail
  refine (votes_any H.out kind).mono ?_
  rw [HK.out]
  rintro e w' ⟨rfl, rfl⟩
  go_wp2_with fail
  go_ret
  exact ⟨rfl, rfl⟩

theorem slot_voted {w : World} {s bp bc cp cq f : Nat} {st : Sl} {D : List Nat} (h : SlotAt w s bp bc cp cq f st D) (kind node : Int) :
    Calls Try.prog 28 #[.pointer (some ⟨s, 0, none⟩), .int .i64 kind, .int .i64 node] w fun e w' => e = .returned (.bool (votedB (listOf st kind) node)) ∧ w = w' := by
  by_cases hk : kind = 4 ∨ kind = 5
  · obtain ⟨b, cb, l, hl, hkv, hvv, hlist⟩ : ∃ (b cb : Nat) (l : List Vt), l.length = 3 * f + 1 ∧ (if kind = 4 then .slice (some ⟨bp, 0, none⟩) (3 * f + 1) cp else if kind = 5 then .slice (some ⟨bc, 0, none⟩) (3 * f + 1) cq else .slice none 0 0 : Value) = .slice (some ⟨b, 0, none⟩) (3 * f + 1) cb ∧
        VotesAt w b l D ∧ listOf st kind = l := by
      rcases hk with rfl | rfl
      · exact ⟨bp, cp, st.ps, h.pl, by rw [if_pos rfl], h.ps, by simp [listOf]⟩
      · exact ⟨bc, cq, st.cs, h.cl, by rw [if_neg (by omega), if_pos rfl], h.cs, by simp [listOf]⟩
    rw [hlist]
    by_cases hin : 0 ≤ node ∧ node < 3 * (f : Int) + 1
    · obtain ⟨i, rfl⟩ := Int.eq_ofNat_of_zero_le hin.1
      have hil : i < l.length := by omega
      have hget : l[i]? = some l[i] := List.getElem?_eq_getElem hil
      refine (voted_in h kind i b cb l hl hkv hvv _ hget).mono fun e w' ⟨he, hw⟩ => ⟨?_, hw⟩
      rw [he]
      simp [votedB, hget]
    · refine (voted_out h kind node _ _ _ hkv (by omega)).mono fun e w' ⟨he, hw⟩ => ⟨?_, hw⟩
      rw [he]
      unfold votedB
      by_cases h0 : 0 ≤ node
      · rw [List.getElem?_eq_none (by omega)]; simp
      · simp [h0]
  · have h4 : ¬ kind = 4 := fun e => hk (.inl e)
    have h5 : ¬ kind = 5 := fun e => hk (.inr e)
    refine (voted_out h kind node none 0 0 (by rw [if_neg h4, if_neg h5]) (by omega)).mono fun e w' ⟨he, hw⟩ => ⟨?_, hw⟩
    rw [he]
    simp [votedB, listOf, h4, h5]

/-! ### Chosen -/

def chosenS (st : Sl) : List Rq := if st.has then st.batch else []

set_option maxHeartbeats 400000 in
theorem slot_chosen {w : World} {s bp bc cp cq f : Nat} {st : Sl} {D : List Nat} (h : SlotAt w s bp bc cp cq f st D) :
    Calls Try.prog 29 #[.pointer (some ⟨s, 0, none⟩)] w fun e w' => ∃ u, e = .returned (.tuple #[u, .bool st.has]) ∧ Upd [] w w' ∧ Bat w' u (chosenS st) ∧ ∀ k ∈ blkOf u, w.heap.size ≤ k ∧ k < w'.heap.size := by
  have H := Lib.hid h
  obtain ⟨ao, cap, l1, l2, l3, c0, c1, c2, c3, c4, fz, b1, b2, own⟩ := h.cells
  have B1 := Lib.hid b1
  clear b1 own fz b2 h
  unfold chosenS
  cases hhas : st.has with
  | false =>
    rw [hhas] at c1
    clear hhas
    go_enter Try.func29, Try.ntmps29
    go_wp2_with fail
    go_ret2
    exact ⟨_, rfl, Upd.refl _ _, Reads.nil _ _, by simp [blkOf]⟩
  | true =>
    rw [hhas] at c1
    clear hhas
    go_enter Try.func29, Try.ntmps29
    go_wp2_with fail
    refine (fresh_any _ st.batch _ H.out.small.1 B1.out).mono ?_
    rintro e w1 ⟨v', rfl, hu, hbat, hnew⟩
    have HBAT := Lib.hid hbat
    have HNEW := Lib.hid hnew
    clear hbat hnew
    go_wp2_with fail
    go_ret2
    exact ⟨_, rfl, hu, HBAT.out, HNEW.out⟩

/-! ### Prepared -/

def preparedS (f : Nat) (st : Sl) : Option Vs := if st.has then enoughS st.ps st.batch (2 * f + 1) else none

set_option maxHeartbeats 400000 in
set_option maxRecDepth 100000 in
theorem slot_prepared {w : World} {s bp bc cp cq f : Nat} {st : Sl} {D : List Nat} (h : SlotAt w s bp bc cp cq f st D) :
    Calls Try.prog 23 #[.pointer (some ⟨s, 0, none⟩)] w fun e w' => ∃ u, e = .returned (.tuple #[u, .bool (preparedS f st).isSome]) ∧ Below w.heap.size w w' ∧ Vts w' u ((preparedS f st).getD []) ∧ ∀ k ∈ blkOf u, w.heap.size ≤ k := by
  have H := Lib.hid h
  obtain ⟨ao, cap, l1, l2, l3, c0, c1, c2, c3, c4, fz, b1, b2, own⟩ := h.cells
  have B1 := Lib.hid b1
  have hpl := h.pl
  have HPL := Lib.hid hpl
  clear b1 own fz b2 h hpl
  unfold preparedS
  cases hhas : st.has with
  | false =>
    rw [hhas] at c1
    clear hhas
    go_enter Try.func23, Try.ntmps23
    go_wp2_with fail
    go_ret2
    exact ⟨_, rfl, Below.refl _ _, Reads.nil _ _, by simp [blkOf]⟩
  | true =>
    rw [hhas] at c1
    clear hhas
    go_enter Try.func23, Try.ntmps23
    go_wp2_with fail
    refine Mix.wp_text (by kernel_rfl) (by kernel_rfl) ?_
    go_wp2_with fail
    have hen := enough_any s bp cp (.slice ao st.batch.length cap) f st.ps D st.batch w.drew H.out.f1 H.out.f2 (by rw [HPL.out]; have := H.out.f2; omega) l1 (by rw [HPL.out]; omega) c0 H.out.ps B1.out H.out.small.1 H.out.small.2.1
    rw [HPL.out] at hen
    refine hen.mono ?_
    clear hen
    rintro e w1 ⟨u, rfl, hb1, hv, hn⟩
    have HV := Lib.hid hv
    have HN := Lib.hid hn
    clear hv hn
    go_wp2_with fail
    refine ⟨by rfl, ?_⟩
    go_wp2_with fail
    go_ret2
    exact ⟨_, rfl, (Below.refl _ _).drew.trans hb1, HV.out, HN.out⟩

end Go.Proofs.Ytdeadekeffficaa
