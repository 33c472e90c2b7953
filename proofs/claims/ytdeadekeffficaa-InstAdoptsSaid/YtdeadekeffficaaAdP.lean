/- InstAdopts: the plain laws. -/
import Derived.Test.YtdeadekeffficaaInN
namespace Go.Proofs.Ytdeadekeffficaa
open Go.RowKit Go.Heap

def aCp (k : Nat) : Cp := ⟨0, 1, k, [rq 0 k], []⟩
def aPl (f k : Nat) : Pl := { emptyPl f with done := true, dw := aCp k }
/-- Those of h are adopted. -/
def ap (f : Nat) (v : Int) (on : Bool) (h : Nat → Bool) : In := ⟨f, 1, 2, v, on, (List.range 16).map fun j => if h (j + 1) then aPl f (j + 1) else emptyPl f⟩

theorem ap_new (f : Nat) : newI f 1 2 = ap f 0 true (fun _ => false) := by
  simp only [newI, ap, In.mk.injEq, true_and]
  rfl

theorem ap_leave (f : Nat) (v : Int) (h1 : 0 < v) (h2 : v ≤ 12) : leaveI (ap f 0 true (fun _ => false)) v = ap f v false (fun _ => false) := by
  unfold leaveI
  rw [if_pos (by simp [leaveB, ap]; omega)]
  simp only [ap, In.mk.injEq, true_and]
  rfl

theorem ap_at (f : Nat) (v : Int) (on : Bool) (h : Nat → Bool) (k : Nat) (h1 : 1 ≤ k) (h2 : k ≤ 16) : plAt (ap f v on h) k = some (if h k then aPl f k else emptyPl f) := by
  unfold plAt
  rw [idx_nat k h1 h2, Option.bind_some]
  simp only [ap, List.getElem?_map, List.getElem?_range (show k - 1 < 16 by omega), Option.map_some, show k - 1 + 1 = k by omega]

theorem ap_other (f : Nat) (v : Int) (on : Bool) (h : Nat → Bool) (k : Nat) (l : List Rq) (vs : Vs) : adoptB (ap f v on h) ⟨0, 0, k, l, vs⟩ = false := by
  unfold adoptB
  cases plAt (ap f v on h) k with
  | none => rfl
  | some p => simp [ap]

theorem ap_b (f : Nat) (v : Int) (on : Bool) (h : Nat → Bool) (k : Nat) (h1 : 1 ≤ k) (h2 : k ≤ 16) (l : List Rq) : adoptB (ap f v on h) ⟨0, 1, k, l, []⟩ = !h k := by
  simp only [adoptB, ap_at f v on h k h1 h2]
  cases h k <;> rfl

theorem ap_adopt (f : Nat) (v : Int) (on : Bool) (h : Nat → Bool) (k : Nat) (h1 : 1 ≤ k) (h2 : k ≤ 16) : adoptI (ap f v on h) (aCp k) = ap f v on (addH h k) := by
  have hb := ap_b f v on h k h1 h2 [rq 0 k]
  unfold adoptI
  rw [show (aCp k).seq = (k : Int) from rfl, idx_nat k h1 h2]
  simp only [show adoptB (ap f v on h) (aCp k) = !h k from hb]
  cases hk : h k
  · simp only [Bool.not_false, if_true]
    simp only [In.upd, ap, In.mk.injEq, true_and]
    apply List.ext_getElem?
    intro j
    simp only [List.getElem?_modify, List.getElem?_map]
    by_cases hj : j < 16
    · rw [List.getElem?_range hj]
      simp only [Option.map_some]
      by_cases e : k - 1 = j
      · subst e
        have e2 : k - 1 + 1 = k := by omega
        simp only [e2, addH_self, if_true, hk]
        rfl
      · have e3 : addH h k (j + 1) = h (j + 1) := by simp [addH]; omega
        simp only [if_neg e, e3]
        rfl
    · rw [List.getElem?_eq_none (by simpa using hj)]
      rfl
  · simp only [Bool.not_true, Bool.false_eq_true, if_false]
    have e : addH h k = h := by
      funext j
      simp only [addH]
      by_cases e : j = k
      · subst e; simp [hk]
      · simp [e]
    rw [e]

theorem ap_done (f : Nat) (v : Int) (on : Bool) (h : Nat → Bool) (n : Nat) (hn : n ≤ 16) (h1 : ∀ j, 1 ≤ j → j ≤ n → h j = true) (h2 : n < 16 → h (n + 1) = false) : doneI (ap f v on h) = n := by
  refine take_while _ n (fun j hj hjn => ?_) (by simp [ap]; omega) (fun hj => ?_)
  · simp only [ap, List.getElem_map, List.getElem_range]
    rw [if_pos (h1 (j + 1) (by omega) (by omega))]
    rfl
  · simp only [ap, List.getElem_map, List.getElem_range]
    rw [if_neg (by rw [h2 (by simpa [ap] using hj)]; simp)]
    rfl

theorem ap_committed (f : Nat) (v : Int) (on : Bool) (h : Nat → Bool) (k : Nat) (h1 : 1 ≤ k) (h2 : k ≤ 16) (hk : h k = true) : committedI (ap f v on h) k = some (aCp k) := by
  simp only [committedI, ap_at f v on h k h1 h2, hk, if_true]
  rfl

theorem ap_used (f : Nat) (v : Int) (on : Bool) (h : Nat → Bool) (k : Nat) (h1 : 1 ≤ k) (h2 : k ≤ 16) (hk : h k = true) : usedI (ap f v on h) (rq 0 k) = true := by
  simp only [usedI, List.any_eq_true]
  refine ⟨aPl f k, ?_, by simp [usedP, aPl, aCp]⟩
  simp only [ap, List.mem_map, List.mem_range]
  exact ⟨k - 1, by omega, by rw [show k - 1 + 1 = k by omega, hk]; rfl⟩

end Go.Proofs.Ytdeadekeffficaa
