/- InstGaps: the plain laws. -/
import Derived.Test.YtdeadekeffficaaInJ
namespace Go.Proofs.Ytdeadekeffficaa
open Go.RowKit Go.Heap

theorem upd_upd (st : In) (k : Nat) (f g : Pl → Pl) : (st.upd k f).upd k g = st.upd k (fun p => g (f p)) := by
  simp only [In.upd, In.mk.injEq, true_and]
  apply List.ext_getElem?
  intro j
  simp only [List.getElem?_modify]
  by_cases e : k = j
  · subst e
    cases st.l[k]? <;> simp
  · simp [e]

theorem upd_congr {st : In} {k : Nat} {f g : Pl → Pl} (h : ∀ p, st.l[k]? = some p → f p = g p) : st.upd k f = st.upd k g := by
  simp only [In.upd, In.mk.injEq, true_and]
  apply List.ext_getElem?
  intro j
  simp only [List.getElem?_modify]
  by_cases e : k = j
  · subst e
    cases hq : st.l[k]? with
    | none => simp
    | some p => simp [h p hq]
  · simp [e]

theorem upd_id {st : In} {k : Nat} {f : Pl → Pl} (h : ∀ p, st.l[k]? = some p → f p = p) : st.upd k f = st := by
  rw [upd_congr (g := id) (by simpa using h), In.upd, List.modify_id]

theorem upd_at {st : In} {k : Nat} {f : Pl → Pl} : (st.upd k f).l[k]? = st.l[k]?.map f := by
  simp [In.upd]

def cs3 (b : List Rq) (n : Nat) : List Vt := (List.range 4).map fun i => if i < n then ⟨true, 1, b⟩ else noVt
def vPl (k n : Nat) : Pl := { emptyPl 1 with sl := { emptySl 1 with cs := cs3 [rq 0 k] n } }
def gCp (k : Nat) : Cp := ⟨0, 0, k, [rq 0 k], [(0, 1), (1, 1), (2, 1)]⟩
def gPl (k : Nat) : Pl := { vPl k 3 with done := true, dw := gCp k }
/-- Those of h are committed. -/
def gp (h : Nat → Bool) : In := ⟨1, 0, 1, 0, true, (List.range 16).map fun j => if h (j + 1) then gPl (j + 1) else emptyPl 1⟩
/-- n votes for k have come. -/
def vk (h : Nat → Bool) (k n : Nat) : In := (gp h).upd (k - 1) fun p => if h k then p else vPl k n

theorem gp_at (h : Nat → Bool) (k : Nat) (h1 : 1 ≤ k) (h2 : k ≤ 16) : (gp h).l[k - 1]? = some (if h k then gPl k else emptyPl 1) := by
  simp only [gp, List.getElem?_map, List.getElem?_range (show k - 1 < 16 by omega), Option.map_some, show k - 1 + 1 = k by omega]

theorem vk_at (h : Nat → Bool) (k n : Nat) (h1 : 1 ≤ k) (h2 : k ≤ 16) : (vk h k n).l[k - 1]? = some (if h k then gPl k else vPl k n) := by
  rw [vk, upd_at, gp_at h k h1 h2]
  cases h k <;> rfl

theorem gp_new : newI 1 0 1 = gp (fun _ => false) := rfl
theorem vk_zero (h : Nat → Bool) (k : Nat) (h1 : 1 ≤ k) (h2 : k ≤ 16) : vk h k 0 = gp h := by
  refine upd_id fun p hp => ?_
  rw [gp_at h k h1 h2] at hp
  simp only [Option.some.injEq] at hp
  subst hp
  cases h k <;> rfl

theorem idx_nat (k : Nat) (h1 : 1 ≤ k) (h2 : k ≤ 16) : idx (k : Int) = some (k - 1) := by
  rw [idx_of (by omega) (by omega)]
  simp

theorem vk_vote (h : Nat → Bool) (k n : Nat) (h1 : 1 ≤ k) (h2 : k ≤ 16) (hn : n < 3) : voteI (vk h k n) 5 k n 1 [rq 0 k] = vk h k (n + 1) := by
  unfold voteI
  rw [idx_nat k h1 h2]
  simp only [show (vk h k n).on = true from rfl, if_true]
  rw [vk, upd_upd, vk]
  refine upd_congr fun p hp => ?_
  rw [gp_at h k h1 h2] at hp
  simp only [Option.some.injEq] at hp
  subst hp
  cases h k
  · match n, hn with
    | 0, _ => simp [voteS, canVote, listOf, openB, vPl, cs3, emptyPl, noVt, List.range, List.range.loop]
    | 1, _ => simp [voteS, canVote, listOf, openB, vPl, cs3, emptyPl, noVt, List.range, List.range.loop]
    | 2, _ => simp [voteS, canVote, listOf, openB, vPl, cs3, emptyPl, noVt, List.range, List.range.loop]
  · match n, hn with
    | 0, _ => simp [voteS, canVote, listOf, openB, gPl, vPl, cs3, noVt, List.range, List.range.loop]
    | 1, _ => simp [voteS, canVote, listOf, openB, gPl, vPl, cs3, noVt, List.range, List.range.loop]
    | 2, _ => simp [voteS, canVote, listOf, openB, gPl, vPl, cs3, noVt, List.range, List.range.loop]

theorem vPl_comm (k : Nat) : committedS 1 (vPl k 3).sl = some ([rq 0 k], [(0, 1), (1, 1), (2, 1)]) := by
  simp [committedS, committedL, enoughS, picks, goodB, vPl, cs3, noVt, List.range, List.range.loop]

theorem vk_comm (h : Nat → Bool) (k : Nat) (h1 : 1 ≤ k) (h2 : k ≤ 16) : commI (vk h k 3) k = if h k then none else some (gCp k) := by
  unfold commI plAt
  rw [idx_nat k h1 h2, Option.bind_some, vk_at h k 3 h1 h2]
  cases hk : h k
  · simp only [Bool.false_eq_true, if_false]
    rw [show (vk h k 3).f = 1 from rfl, vPl_comm]
    rfl
  · rfl

def addH (h : Nat → Bool) (m : Nat) : Nat → Bool := fun j => h j || decide (j = m)
theorem addH_self (h : Nat → Bool) (m : Nat) : addH h m m = true := by simp [addH]

theorem vk_commits (h : Nat → Bool) (k : Nat) (h1 : 1 ≤ k) (h2 : k ≤ 16) : commitsI (vk h k 3) k = gp (addH h k) := by
  unfold commitsI
  rw [idx_nat k h1 h2, vk_comm h k h1 h2]
  cases hk : h k
  · simp only [Bool.false_eq_true, if_false]
    rw [vk, upd_upd]
    simp only [In.upd, gp, In.mk.injEq, true_and]
    apply List.ext_getElem?
    intro j
    simp only [List.getElem?_modify, List.getElem?_map]
    by_cases hj : j < 16
    · rw [List.getElem?_range hj]
      simp only [Option.map_some]
      by_cases e : k - 1 = j
      · subst e
        have e2 : k - 1 + 1 = k := by omega
        simp only [e2, addH_self, if_true, hk]
        rfl
      · have e3 : addH h k (j + 1) = h (j + 1) := by simp [addH]; omega
        simp only [if_neg e, e3]
        rfl
    · rw [List.getElem?_eq_none (by simpa using hj)]
      rfl
  · simp only [if_true]
    have e : addH h k = h := by
      funext j
      simp only [addH]
      by_cases e : j = k
      · subst e; simp [hk]
      · simp [e]
    rw [e]
    exact upd_id fun p _ => by simp [hk]

def has18 (h : Nat → Bool) : Obj := .cells ((List.range 18).map fun k => .bool (h k)).toArray 67 (0, 0)

theorem has18_cell {W : World} {b : Nat} {h : Nat → Bool} (hb : W.heap[b]? = some (has18 h)) (k : Nat) (hk : k < 18) : W.cell? ⟨b, k, none⟩ = some (.bool (h k)) := by
  rw [block_cell hb]; simp [hk]

theorem has18_set (h : Nat → Bool) (m : Nat) : setIn m (.bool true) (has18 h) = has18 (addH h m) := by
  simp only [has18, setIn, Obj.cells.injEq, and_true]
  apply Array.ext'
  apply List.ext_getElem?
  intro j
  simp only [Array.toList_setIfInBounds, List.getElem?_set, List.getElem?_map]
  by_cases e : m = j
  · subst e
    by_cases hm : m < 18
    · simp [hm, addH]
    · simp [hm]
  · by_cases hj : j < 18
    · simp [e, hj, addH]
      omega
    · simp [e, hj]

/-- No number but those from 1 to 16. -/
def Only (h : Nat → Bool) : Prop := ∀ j, h j = true → 1 ≤ j ∧ j ≤ 16

theorem only_add {h : Nat → Bool} {m : Nat} (ho : Only h) (h1 : 1 ≤ m) (h2 : m ≤ 16) : Only (addH h m) := by
  intro j hj
  simp only [addH, Bool.or_eq_true, decide_eq_true_eq] at hj
  rcases hj with hj | rfl
  · exact ho j hj
  · exact ⟨h1, h2⟩

/-- What is done: what stands from 1 on without a gap. -/
theorem gp_done (h : Nat → Bool) (n : Nat) (hn : n ≤ 16) (h1 : ∀ j, 1 ≤ j → j ≤ n → h j = true) (h2 : n < 16 → h (n + 1) = false) : doneI (gp h) = n := by
  refine take_while _ n (fun j hj hjn => ?_) (by simp [gp]; omega) (fun hj => ?_)
  · simp only [gp, List.getElem_map, List.getElem_range]
    rw [if_pos (h1 (j + 1) (by omega) (by omega))]
    rfl
  · simp only [gp, List.getElem_map, List.getElem_range]
    rw [if_neg (by rw [h2 (by simpa [gp] using hj)]; simp)]
    rfl

end Go.Proofs.Ytdeadekeffficaa
