/- The document's slot: how a vote turns it. Plain laws. -/
import Derived.Test.YtdeadekeffficaaPlB
namespace Go.Proofs.Ytdeadekeffficaa
open Go.RowKit Go.Heap

theorem refs_length : ∀ (l : List Vt) (k : Nat), (refs l k).length ≤ l.length
  | [], _ => by simp [refs]
  | t :: l, k => by
    have := refs_length l (k + 1)
    unfold refs
    split <;> simp <;> omega

theorem map_parts {pl : List Rv} {a b : List (Int × Int × List Rq)} (h : pl.map rvOf = a ++ b) : (pl.take a.length).map rvOf = a ∧ (pl.drop a.length).map rvOf = b ∧ a.length ≤ pl.length := by
  have hl : pl.length = a.length + b.length := by have := congrArg List.length h; simpa using this
  refine ⟨?_, ?_, by omega⟩
  · rw [List.map_take, h, List.take_left]
  · rw [List.map_drop, h, List.drop_left]

theorem node_take {pl : List Rv} {a i : Nat} {n : Int} (h : ∀ x ∈ (pl.take a).map rvOf, x.1 < n) (hi : i < pl.length) (ha : i < a) : pl[i].node < n := by
  refine h (rvOf pl[i]) (List.mem_map.2 ⟨pl[i], ?_, rfl⟩)
  rw [List.mem_take_iff_getElem]
  exact ⟨i, by omega, rfl⟩

theorem node_drop {pl : List Rv} {a i : Nat} {n : Int} (h : ∀ x ∈ (pl.drop a).map rvOf, n < x.1) (hi : i < pl.length) (ha : a ≤ i) : n < pl[i].node := by
  refine h (rvOf pl[i]) (List.mem_map.2 ⟨pl[i], ?_, rfl⟩)
  rw [List.mem_drop_iff_getElem]
  exact ⟨i - a, by omega, by simp only [show a + (i - a) = i by omega]⟩

theorem ref_no {ps : List Vt} {pl : List Rv} (h : pl.map rvOf = refs ps 0) {m : Nat} (hm : m < ps.length) (hh : ps[m].has = true) :
    ∃ a, ∃ ha : a < pl.length, pl[a].node = m ∧ ∀ i (hi : i < pl.length), a < i → (m : Int) < pl[i].node := by
  rw [refs_at ps m hm, hh, if_pos rfl, List.singleton_append] at h
  have hl := congrArg List.length h
  simp only [List.length_map, List.length_append, List.length_cons] at hl
  have ha : (refs (ps.take m) 0).length < pl.length := by omega
  have hg := congrArg (fun l => l[(refs (ps.take m) 0).length]?) h
  simp only [List.getElem?_map, List.getElem?_eq_getElem ha, Option.map_some, List.getElem?_append_right (Nat.le_refl _), Nat.sub_self, List.getElem?_cons_zero, Option.some.injEq] at hg
  refine ⟨(refs (ps.take m) 0).length, ha, congrArg Prod.fst hg, fun i hi hai => ?_⟩
  have h2 : pl.map rvOf = (refs (ps.take m) 0 ++ [((m : Int), ps[m].sl, ps[m].batch)]) ++ refs (ps.drop (m + 1)) (m + 1) := by rw [h]; simp
  obtain ⟨-, q2, -⟩ := map_parts h2
  refine node_drop (a := (refs (ps.take m) 0 ++ [((m : Int), ps[m].sl, ps[m].batch)]).length) (fun x hx => ?_) hi (by simp; omega)
  rw [q2] at hx
  have := (refs_range _ _ x hx).1
  omega

theorem ref_yes {ps : List Vt} {pl : List Rv} (h : pl.map rvOf = refs ps 0) {m : Nat} (hm : m < ps.length) (hh : ps[m].has = false) (sl : Int) (rs : List Rq) :
    ∃ a, a ≤ pl.length ∧ (∀ i (hi : i < pl.length), i < a → pl[i].node < (m : Int)) ∧ (∀ i (hi : i < pl.length), a ≤ i → (m : Int) < pl[i].node) ∧
      ∀ b : Value, (pl.take a ++ ⟨m, sl, b, rs⟩ :: pl.drop a).map rvOf = refs (ps.set m ⟨true, sl, rs⟩) 0 := by
  rw [refs_at ps m hm, hh, if_neg (by simp), List.nil_append] at h
  obtain ⟨q1, q2, q3⟩ := map_parts h
  refine ⟨(refs (ps.take m) 0).length, q3, fun i hi hia => ?_, fun i hi hia => ?_, fun b => ?_⟩
  · refine node_take (fun x hx => ?_) hi hia
    rw [q1] at hx
    have := (refs_range _ _ x hx).2
    rw [List.length_take, Nat.min_eq_left (by omega)] at this
    omega
  · refine node_drop (fun x hx => ?_) hi hia
    rw [q2] at hx
    have := (refs_range _ _ x hx).1
    omega
  · rw [refs_set ps m hm, List.map_append, List.map_cons, q1, q2]
    rfl

end Go.Proofs.Ytdeadekeffficaa
