/- Votes in a slot, and whether they are enough (slot.enough). -/
import Derived.Test.YtdeadekeffficaaSame
namespace Go.Proofs.Ytdeadekeffficaa
open Go.RowKit Go.Heap

/-- A node's vote in a slot. -/
structure Vt where
  has : Bool
  sl : Int
  batch : List Rq

/-- Votes of a certificate: nodes and their seals. -/
abbrev Vs := List (Int × Int)
def vsCells (l : Vs) : List Value := l.flatMap fun p => [.int .i64 p.1, .int .i64 p.2]
theorem vsCells_length (l : Vs) : (vsCells l).length = l.length * 2 := by
  induction l with
  | nil => rfl
  | cons p ps ih => simp only [vsCells, List.flatMap_cons, List.length_append] at *; rw [ih]; simp; omega
theorem vsCells_get (l : Vs) : ∀ k p, l[k]? = some p → (vsCells l)[k * 2]? = some (.int .i64 p.1) ∧ (vsCells l)[k * 2 + 1]? = some (.int .i64 p.2) := by
  induction l with
  | nil => intro k p h; simp at h
  | cons q l ih =>
    intro k p h
    match k with
    | 0 => simp at h; subst h; exact ⟨rfl, rfl⟩
    | k + 1 =>
      have := ih k p (by simpa using h)
      rw [show (k + 1) * 2 = k * 2 + 2 by omega]
      exact this
theorem vsCells_app (l : Vs) (p : Int × Int) : vsCells (l ++ [p]) = vsCells l ++ [.int .i64 p.1, .int .i64 p.2] := by simp [vsCells]

/-- v is a list of votes. -/
def Vts (w : World) (v : Value) (l : Vs) : Prop := Reads w v 2 l.length (vsCells l)

/-- Block b holds the votes of all nodes; their batches lie in blocks of D. -/
def VotesAt (w : World) (b : Nat) (vs : List Vt) (D : List Nat) : Prop :=
  ∃ arr, w.heap[b]? = some (.cells arr 109 (0, 0)) ∧ vs.length * 3 ≤ arr.size ∧
    ∀ i t, vs[i]? = some t → ∃ v, arr[i * 3]? = some (.bool t.has) ∧ arr[i * 3 + 1]? = some (.int .i64 t.sl) ∧ arr[i * 3 + 2]? = some v ∧ Bat w v t.batch ∧ ∀ k ∈ blkOf v, k ∈ D

theorem VotesAt.upd {w w' : World} {M : List Nat} {b : Nat} {vs : List Vt} {D : List Nat} (h : VotesAt w b vs D) (hu : Upd M w w') (hb : b ∉ M) (hD : ∀ k ∈ D, k ∉ M) : VotesAt w' b vs D := by
  obtain ⟨arr, h1, h2, h3⟩ := h
  refine ⟨arr, by rw [hu.block b (block_lt h1) hb]; exact h1, h2, fun i t hi => ?_⟩
  obtain ⟨v, a1, a2, a3, a4, a5⟩ := h3 i t hi
  exact ⟨v, a1, a2, a3, a4.upd hu (fun k hk => hD k (a5 k hk)), a5⟩

theorem VotesAt.cells {w : World} {b : Nat} {vs : List Vt} {D : List Nat} (h : VotesAt w b vs D) (i : Nat) (t : Vt) (hi : vs[i]? = some t) :
    ∃ v, w.cell? ⟨b, i * 3, none⟩ = some (.bool t.has) ∧ w.cell? ⟨b, i * 3 + 1, none⟩ = some (.int .i64 t.sl) ∧ w.cell? ⟨b, i * 3 + 2, none⟩ = some v ∧ Bat w v t.batch ∧ b < w.heap.size ∧ (∀ k ∈ blkOf v, k ∈ D) ∧ ∀ o, w.frozen? ⟨b, o, none⟩ = false := by
  obtain ⟨arr, h1, h2, h3⟩ := h
  obtain ⟨v, a1, a2, a3, a4, a5⟩ := h3 i t hi
  exact ⟨v, by rw [block_cell h1]; exact a1, by rw [block_cell h1]; exact a2, by rw [block_cell h1]; exact a3, a4, block_lt h1, a5, block_frozen h1⟩

/-! ### The plain side -/

def goodB (batch : List Rq) (t : Vt) : Bool := t.has && decide (t.batch = batch)

def picks (batch : List Rq) : List Vt → Nat → Vs
  | [], _ => []
  | t :: l, k => if goodB batch t then ((k : Int), t.sl) :: picks batch l (k + 1) else picks batch l (k + 1)

theorem picks_app (batch : List Rq) (t : Vt) : ∀ (l : List Vt) (k : Nat), picks batch (l ++ [t]) k = picks batch l k ++ if goodB batch t then [(((k + l.length : Nat) : Int), t.sl)] else [] := by
  intro l
  induction l with
  | nil => intro k; simp [picks]
  | cons s l ih =>
    intro k
    simp only [List.cons_append, picks, ih, List.length_cons]
    rw [show k + 1 + l.length = k + (l.length + 1) by omega]
    split <;> simp

def picked (batch : List Rq) (l : List Vt) (q k : Nat) : Vs := (picks batch (l.take k) 0).take q

theorem picked_zero (batch : List Rq) (l : List Vt) (q : Nat) : picked batch l q 0 = [] := by simp [picked, picks]

theorem picked_le (batch : List Rq) (l : List Vt) (q k : Nat) : (picked batch l q k).length ≤ q := by simp [picked]; omega

theorem picked_succ (batch : List Rq) (l : List Vt) (q k : Nat) (hk : k < l.length) :
    picked batch l q (k + 1) = if goodB batch l[k] && decide ((picked batch l q k).length < q) then picked batch l q k ++ [((k : Int), l[k].sl)] else picked batch l q k := by
  unfold picked
  rw [List.take_succ_eq_append_getElem hk, picks_app, List.length_take, Nat.min_eq_left (by omega), Nat.zero_add]
  generalize picks batch (l.take k) 0 = A
  cases hg : goodB batch l[k]
  · simp
  · by_cases hl : A.length < q
    · have e1 : (A.take q).length < q := by rw [List.length_take]; omega
      rw [if_pos rfl, if_pos (by simp only [Bool.true_and, decide_eq_true_eq]; exact e1), List.take_append, List.take_of_length_le (by omega : A.length ≤ q)]
      congr 1
      rw [List.take_of_length_le (by simp; omega)]
    · have e1 : ¬ (A.take q).length < q := by rw [List.length_take]; omega
      rw [if_pos rfl, if_neg (by simp only [Bool.true_and, decide_eq_true_eq]; exact e1), List.take_append_of_le_length (by omega)]

/-- The votes of the lowest q nodes for a batch, if there are so many. -/
def enoughS (l : List Vt) (batch : List Rq) (q : Nat) : Option Vs :=
  if (picks batch l 0).length < q then none else some ((picks batch l 0).take q)

theorem picked_all (batch : List Rq) (l : List Vt) (q : Nat) : picked batch l q l.length = (picks batch l 0).take q := by simp [picked]

theorem enough_none {l : List Vt} {batch : List Rq} {q : Nat} (h : (picked batch l q l.length).length < q) : enoughS l batch q = none := by
  rw [picked_all, List.length_take] at h
  unfold enoughS
  rw [if_pos (by omega)]

theorem enough_some {l : List Vt} {batch : List Rq} {q : Nat} (h : ¬ (picked batch l q l.length).length < q) : enoughS l batch q = some (picked batch l q l.length) := by
  rw [picked_all, List.length_take] at h
  unfold enoughS
  rw [if_neg (by omega), picked_all]

/-! ### ballot -/

set_option maxHeartbeats 400000 in
theorem may_any (f : Int) (w : World) (h1 : 1 ≤ f) (h2 : f ≤ 4) : Calls Try.prog 87 #[.int .i64 f] w fun e w' => e = .returned (.bool true) ∧ w = w' := by
  go_enter Try.func87, Try.ntmps87
  go_wp2
  go_ret
  exact ⟨rfl, rfl⟩

set_option maxHeartbeats 400000 in
theorem quorum_any (f : Int) (w : World) (h1 : 1 ≤ f) (h2 : f ≤ 4) : Calls Try.prog 85 #[.int .i64 f] w fun e w' => e = .returned (.int .i64 (2 * f + 1)) ∧ w = w' := by
  go_enter Try.func85, Try.ntmps85
  go_wp2_with fail
  refine (may_any f _ h1 h2).mono ?_
  rintro e w' ⟨rfl, rfl⟩
  go_wp2_with fail
  go_ret
  exact ⟨rfl, rfl⟩

set_option maxHeartbeats 400000 in
theorem nodes_any (f : Int) (w : World) (h1 : 1 ≤ f) (h2 : f ≤ 4) : Calls Try.prog 64 #[.int .i64 f] w fun e w' => e = .returned (.int .i64 (3 * f + 1)) ∧ w = w' := by
  go_enter Try.func64, Try.ntmps64
  go_wp2_with fail
  refine (may_any f _ h1 h2).mono ?_
  rintro e w' ⟨rfl, rfl⟩
  go_wp2_with fail
  go_ret
  exact ⟨rfl, rfl⟩

end Go.Proofs.Ytdeadekeffficaa
