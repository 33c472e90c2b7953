/- InstWindow: the plain laws. -/
import Derived.Test.YtdeadekeffficaaGapP
import Derived.Test.YtdeadekeffficaaInK
namespace Go.Proofs.Ytdeadekeffficaa
open Go.RowKit Go.Heap

def wPl (k : Nat) : Pl := { emptyPl 1 with done := true, dw := ⟨0, 0, k, [], []⟩ }
/-- Those up to d are adopted. -/
def wn (a : Int) (d : Nat) : In := ⟨1, 0, a, 0, true, (List.range 16).map fun j => if j < d then wPl (j + 1) else emptyPl 1⟩

theorem wn_new (a : Int) : newI 1 0 a = wn a 0 := rfl

theorem wn_at (a : Int) (d j : Nat) (h : j < 16) : (wn a d).l[j]? = some (if j < d then wPl (j + 1) else emptyPl 1) := by
  simp only [wn, List.getElem?_map, List.getElem?_range h, Option.map_some]

theorem wn_adopt (a : Int) (d : Nat) (hd : d < 16) : adoptB (wn a d) ⟨0, 0, (d : Int) + 1, [], []⟩ = true ∧ adoptI (wn a d) ⟨0, 0, (d : Int) + 1, [], []⟩ = wn a (d + 1) := by
  have hi : idx ((d : Int) + 1) = some d := by rw [idx_of (by omega) (by omega)]; congr 1
  have hb : adoptB (wn a d) ⟨0, 0, (d : Int) + 1, [], []⟩ = true := by
    simp only [adoptB, plAt, hi, Option.bind_some, wn_at a d d hd]
    rw [if_neg (by omega)]
    rfl
  refine ⟨hb, ?_⟩
  simp only [adoptI, hi]
  rw [if_pos hb]
  simp only [In.upd, wn, In.mk.injEq, true_and]
  apply List.ext_getElem?
  intro j
  simp only [List.getElem?_modify, List.getElem?_map]
  by_cases hj : j < 16
  · rw [List.getElem?_range hj]
    simp only [Option.map_some]
    by_cases e : d = j
    · subst e
      simp only [if_true, if_neg (show ¬ d < d by omega), if_pos (show d < d + 1 by omega)]
      rfl
    · simp only [if_neg e]
      by_cases h2 : j < d
      · simp only [if_pos h2, if_pos (show j < d + 1 by omega)]; rfl
      · simp only [if_neg h2, if_neg (show ¬ j < d + 1 by omega)]; rfl
  · rw [List.getElem?_eq_none (by simpa using hj)]
    rfl

theorem wn_done (a : Int) (d : Nat) (hd : d ≤ 16) : doneI (wn a d) = d := by
  refine take_while _ d (fun j hj hjn => ?_) (by simp [wn]; omega) (fun hj => ?_)
  · simp only [wn, List.getElem_map, List.getElem_range]
    rw [if_pos hjn]; rfl
  · simp only [wn, List.getElem_map, List.getElem_range]
    rw [if_neg (by omega)]; rfl

theorem wn_pre (a : Int) (d : Nat) (hd : d ≤ 16) (seq : Int) : preB (wn a d) seq = (decide (1 ≤ seq) && decide (seq ≤ 16) && decide (seq ≤ d + a)) := by
  cases hk : idx seq with
  | none =>
    have hs := idx_none hk
    have : preB (wn a d) seq = false := by simp [preB, plAt_none hk]
    rw [this]
    rcases hs with h | h
    · simp; omega
    · simp; omega
  | some k =>
    obtain ⟨h1, h2⟩ := idx_lt hk
    simp only [preB, plAt, hk, Option.bind_some, wn_at a d k h1]
    rw [wn_done a d hd]
    have e1 : decide (1 ≤ seq) = true := by simp; omega
    have e2 : decide (seq ≤ 16) = true := by simp; omega
    rw [e1, e2]
    have e3 : (if k < d then wPl (k + 1) else emptyPl 1).sl.has = false := by split <;> rfl
    rw [e3]
    simp only [wn, Bool.true_and, Bool.not_false, Bool.and_true]
    rfl

theorem pre_twice (st : In) (seq : Int) (l : List Rq) : preB (preI st seq l) seq = false := by
  cases hb : preB st seq with
  | false => rw [pre_no hb]; exact hb
  | true =>
    cases hk : idx seq with
    | none => simp [preB, plAt_none hk] at hb
    | some k =>
      have hi : preI st seq l = st.upd k fun p => { p with sl := slPre l p.sl } := by simp only [preI, hk]; rw [if_pos hb]
      rw [hi]
      simp only [preB, plAt, hk, Option.bind_some, upd_at]
      cases st.l[k]? with
      | none => rfl
      | some p =>
        simp only [Option.map_some]
        have : (slPre l p.sl).has = true := by unfold slPre; split <;> simp_all
        rw [this]
        simp

end Go.Proofs.Ytdeadekeffficaa
