/- The document's votes and the slot's: plain laws. -/
import Derived.Test.YtdeadekeffficaaRefComm
import Derived.Test.YtdeadekeffficaaAlike
namespace Go.Proofs.Ytdeadekeffficaa

/-- The votes that are there, by rising node. -/
def refs : List Vt → Nat → List (Int × Int × List Rq)
  | [], _ => []
  | t :: l, k => if t.has then ((k : Int), t.sl, t.batch) :: refs l (k + 1) else refs l (k + 1)

def rvOf (r : Rv) : Int × Int × List Rq := (r.node, r.sl, r.rs)

theorem pickR_refs (b : List Rq) : ∀ (ps : List Vt) (k : Nat) (l : List Rv), l.map rvOf = refs ps k → pickR b l = picks b ps k
  | [], k, l, h => by
    have : l = [] := by simpa [refs] using h
    subst this; rfl
  | t :: ps, k, l, h => by
    unfold refs at h
    cases ht : t.has
    · rw [ht, if_neg (by simp)] at h
      rw [pickR_refs b ps (k + 1) l h]
      simp [picks, goodB, ht]
    · rw [ht, if_pos rfl] at h
      match l, h with
      | r :: l', h =>
        simp only [List.map_cons, List.cons.injEq, rvOf, Prod.mk.injEq] at h
        obtain ⟨⟨h1, h2, h3⟩, h4⟩ := h
        have ih := pickR_refs b ps (k + 1) l' h4
        unfold picks
        simp only [goodB, ht, Bool.true_and, ← h3]
        have hc : pickR b (r :: l') = (if r.rs = b then [(r.node, r.sl)] else []) ++ pickR b l' := by
          unfold pickR
          by_cases hb : r.rs = b <;> simp [hb]
        rw [hc, ih, h1, h2]
        by_cases hb : r.rs = b <;> simp [hb]

theorem for_refs {ps : List Vt} {l : List Rv} (h : l.map rvOf = refs ps 0) (b : List Rq) (q : Nat) : forS l b q = enoughS ps b q := by
  unfold forS enoughS
  rw [pickR_refs b ps 0 l h]

theorem rcommL_refs {all : List Vt} {al : List Rv} (ha : al.map rvOf = refs all 0) (q : Nat) : ∀ (ps : List Vt) (k : Nat) (l : List Rv), l.map rvOf = refs ps k → rcommL al q l = committedL all q ps
  | [], k, l, h => by
    have : l = [] := by simpa [refs] using h
    subst this; rfl
  | t :: ps, k, l, h => by
    unfold refs at h
    unfold committedL
    cases ht : t.has
    · rw [ht, if_neg (by simp)] at h
      exact rcommL_refs ha q ps (k + 1) l h
    · rw [ht, if_pos rfl] at h
      match l, h with
      | r :: l', h =>
        simp only [List.map_cons, List.cons.injEq, rvOf, Prod.mk.injEq] at h
        obtain ⟨⟨_, _, h3⟩, h4⟩ := h
        rw [if_pos rfl, rcommL, rcommL_refs ha q ps (k + 1) l' h4, for_refs ha, h3]
        cases enoughS all t.batch q <;> rfl

theorem refs_append : ∀ (a b : List Vt) (k : Nat), refs (a ++ b) k = refs a k ++ refs b (k + a.length)
  | [], b, k => rfl
  | t :: a, b, k => by
    simp only [List.cons_append, refs, refs_append a b (k + 1), List.length_cons]
    rw [show k + 1 + a.length = k + (a.length + 1) by omega]
    split <;> rfl

theorem refs_range : ∀ (l : List Vt) (k : Nat), ∀ x ∈ refs l k, (k : Int) ≤ x.1 ∧ x.1 < ((k + l.length : Nat) : Int)
  | [], k, x, h => by simp [refs] at h
  | t :: l, k, x, h => by
    have ih := refs_range l (k + 1) x
    unfold refs at h
    have : x = ((k : Int), t.sl, t.batch) ∨ x ∈ refs l (k + 1) := by
      split at h
      · exact List.mem_cons.1 h
      · exact .inr h
    rcases this with rfl | h
    · simp only [List.length_cons]; omega
    · have := ih h; simp only [List.length_cons]; omega

/-- What is there, parted at a node. -/
theorem refs_at (ps : List Vt) (m : Nat) (hm : m < ps.length) : refs ps 0 = refs (ps.take m) 0 ++ ((if ps[m].has then [((m : Int), ps[m].sl, ps[m].batch)] else []) ++ refs (ps.drop (m + 1)) (m + 1)) := by
  have h : ps = ps.take m ++ ps[m] :: ps.drop (m + 1) := by rw [List.getElem_cons_drop, List.take_append_drop]
  conv => lhs; rw [h]
  rw [refs_append, List.length_take, Nat.min_eq_left (by omega), Nat.zero_add]
  simp only [refs]
  split <;> rfl

theorem refs_set (ps : List Vt) (m : Nat) (hm : m < ps.length) (sl : Int) (rs : List Rq) : refs (ps.set m ⟨true, sl, rs⟩) 0 = refs (ps.take m) 0 ++ ((m : Int), sl, rs) :: refs (ps.drop (m + 1)) (m + 1) := by
  rw [refs_at (ps.set m ⟨true, sl, rs⟩) m (by simpa using hm)]
  simp [List.take_set, List.drop_set]
  rw [List.set_eq_of_length_le (by simp; omega)]

end Go.Proofs.Ytdeadekeffficaa
