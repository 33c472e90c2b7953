/- Votes that all go for one batch, sealed alike: plain laws. -/
import Derived.Test.YtdeadekeffficaaWs
import Derived.Test.YtdeadekeffficaaWakes
namespace Go.Proofs.Ytdeadekeffficaa
open Go.RowKit Go.Heap

/-- The votes of the nodes of h: seals c + node, for b. -/
def lv (f : Nat) (c : Int) (b : List Rq) (h : Nat → Bool) : List Vt := (List.range (3 * f + 1)).map fun k => if h k then ⟨true, c + (k : Int), b⟩ else noVt
def addB (h : Nat → Bool) (m : Nat) : Nat → Bool := fun j => h j || decide (j = m)

section
variable (f : Nat) (c : Int) (b : List Rq) (h : Nat → Bool)
theorem lv_length : (lv f c b h).length = 3 * f + 1 := by simp [lv]
theorem lv_get (k : Nat) (hk : k < 3 * f + 1) : (lv f c b h)[k]? = some (if h k then ⟨true, c + (k : Int), b⟩ else noVt) := by
  simp [lv, hk]
theorem lv_none : lv f c b (fun _ => false) = List.replicate (3 * f + 1) noVt := by
  apply List.ext_getElem?
  intro k
  by_cases hk : k < 3 * f + 1
  · rw [lv_get f c b _ k hk]; simp [hk]
  · simp [lv, hk]
theorem lv_open (m : Nat) (hm : m < 3 * f + 1) : openB (lv f c b h) m = !h m := by
  simp only [openB, Int.toNat_natCast, lv_get f c b h m hm]
  cases h m <;> simp [noVt]
theorem lv_set (m : Nat) (hm : m < 3 * f + 1) : (lv f c b h).set m ⟨true, c + (m : Int), b⟩ = lv f c b (addB h m) := by
  apply List.ext_getElem?
  intro k
  by_cases hk : k < 3 * f + 1
  · rw [lv_get f c b _ k hk]
    by_cases hkm : k = m
    · subst hkm
      rw [List.getElem?_set_self (by rw [lv_length]; exact hk)]
      simp [addB]
    · rw [List.getElem?_set_ne (fun e => hkm e.symm), lv_get f c b h k hk]
      simp [addB, hkm]
  · simp [lv, hk]
theorem add_same (m : Nat) (hm : h m = true) : addB h m = h := by
  funext j
  unfold addB
  by_cases hj : j = m
  · subst hj; simp [hm]
  · simp [hj]
theorem lv_batch : ∀ t ∈ lv f c b h, t.has = true → t.batch = b := by
  intro t ht hh
  simp only [lv, List.mem_map] at ht
  obtain ⟨k, _, rfl⟩ := ht
  by_cases hk : h k = true
  · rw [if_pos hk]
  · rw [if_neg hk] at hh; simp [noVt] at hh
end

/-- A vote for b, sealed c + node, by a node of a slot whose votes of that kind are lv's. -/
theorem vote4 (f : Nat) (c : Int) (b : List Rq) (h : Nat → Bool) (hs : Bool) (bt : List Rq) (cs : List Vt) (m : Nat) (hm : m < 3 * f + 1) (sl : Int) (hsl : sl = c + m) :
    canVote ⟨hs, bt, lv f c b h, cs⟩ 4 m = !h m ∧ voteS ⟨hs, bt, lv f c b h, cs⟩ 4 m sl b = ⟨hs, bt, lv f c b (addB h m), cs⟩ := by
  have hc : canVote ⟨hs, bt, lv f c b h, cs⟩ 4 m = !h m := lv_open f c b h m hm
  refine ⟨hc, ?_⟩
  unfold voteS
  rw [hc]
  subst hsl
  cases hh : h m
  · rw [if_pos (by rfl), if_pos rfl]; simp only [Int.toNat_natCast, lv_set f c b h m hm]
  · rw [if_neg (by simp), add_same h m hh]

theorem vote5 (f : Nat) (c : Int) (b : List Rq) (h : Nat → Bool) (hs : Bool) (bt : List Rq) (ps : List Vt) (m : Nat) (hm : m < 3 * f + 1) (sl : Int) (hsl : sl = c + m) :
    canVote ⟨hs, bt, ps, lv f c b h⟩ 5 m = !h m ∧ voteS ⟨hs, bt, ps, lv f c b h⟩ 5 m sl b = ⟨hs, bt, ps, lv f c b (addB h m)⟩ := by
  have hc : canVote ⟨hs, bt, ps, lv f c b h⟩ 5 m = !h m := lv_open f c b h m hm
  refine ⟨hc, ?_⟩
  unfold voteS
  rw [hc]
  subst hsl
  cases hh : h m
  · rw [if_pos (by rfl), if_neg (by omega)]; simp only [Int.toNat_natCast, lv_set f c b h m hm]
  · rw [if_neg (by simp), add_same h m hh]

theorem committedL_one {all : List Vt} {q : Nat} {b : List Rq} : ∀ l : List Vt, (∀ t ∈ l, t.has = true → t.batch = b) → committedL all q l = if l.any (·.has) then (enoughS all b q).map (Prod.mk b) else none
  | [], _ => rfl
  | t :: r, hl => by
    unfold committedL
    rw [committedL_one r (fun t ht => hl t (List.mem_cons_of_mem _ ht))]
    cases hh : t.has
    · simp [hh]
    · rw [hl t (by simp) hh]
      cases he : enoughS all b q <;> simp [hh]

theorem picks_none {b : List Rq} : ∀ (l : List Vt) (k : Nat), l.any (·.has) = false → picks b l k = []
  | [], _, _ => rfl
  | t :: r, k, h => by
    simp only [List.any_cons, Bool.or_eq_false_iff] at h
    unfold picks
    rw [if_neg (by simp [goodB, h.1]), picks_none r _ h.2]

theorem committedS_one {f : Nat} {st : Sl} {b : List Rq} (h : ∀ t ∈ st.cs, t.has = true → t.batch = b) : committedS f st = (enoughS st.cs b (2 * f + 1)).map (Prod.mk b) := by
  unfold committedS
  rw [committedL_one _ h]
  split
  · rfl
  · rename_i hn
    have hn : st.cs.any (·.has) = false := by simpa using hn
    unfold enoughS
    rw [picks_none _ _ hn, if_pos (by simp)]
    rfl

theorem one_comm (f : Nat) (c : Int) (b : List Rq) (h : Nat → Bool) (hs : Bool) (bt : List Rq) (ps : List Vt) : committedS f ⟨hs, bt, ps, lv f c b h⟩ = (enoughS (lv f c b h) b (2 * f + 1)).map (Prod.mk b) := committedS_one (lv_batch f c b h)

theorem lv_picked (f : Nat) (c : Int) (b : List Rq) (h : Nat → Bool) (q k : Nat) (hk : k < 3 * f + 1) :
    picked b (lv f c b h) q (k + 1) = if h k && decide ((picked b (lv f c b h) q k).length < q) then picked b (lv f c b h) q k ++ [((k : Int), c + (k : Int))] else picked b (lv f c b h) q k := by
  have hl : k < (lv f c b h).length := by rw [lv_length]; exact hk
  have hg : (lv f c b h)[k] = if h k then ⟨true, c + (k : Int), b⟩ else noVt := by
    have := lv_get f c b h k hk
    rw [List.getElem?_eq_getElem hl] at this
    exact Option.some.inj this
  rw [picked_succ b _ q k hl, hg]
  cases hh : h k <;> simp [goodB, noVt]

/-- Where there are enough, the later ones do not count. -/
theorem lv_full (f : Nat) (c : Int) (b : List Rq) (h : Nat → Bool) (q k : Nat) (hq : ¬ (picked b (lv f c b h) q k).length < q) : ∀ d, k + d ≤ 3 * f + 1 → picked b (lv f c b h) q (k + d) = picked b (lv f c b h) q k
  | 0, _ => rfl
  | d + 1, hd => by
    rw [show k + (d + 1) = (k + d) + 1 by omega, lv_picked f c b h q (k + d) (by omega), lv_full f c b h q k hq d (by omega)]
    simp [hq]

theorem lv_all (f : Nat) (c : Int) (b : List Rq) (h : Nat → Bool) (q k : Nat) (hk : k ≤ 3 * f + 1) (hq : ¬ (picked b (lv f c b h) q k).length < q) : picked b (lv f c b h) q (3 * f + 1) = picked b (lv f c b h) q k := by
  have := lv_full f c b h q k hq (3 * f + 1 - k) (by omega)
  rwa [show k + (3 * f + 1 - k) = 3 * f + 1 by omega] at this

theorem lv_enough (f : Nat) (c : Int) (b : List Rq) (h : Nat → Bool) (q : Nat) : enoughS (lv f c b h) b q = if (picked b (lv f c b h) q (3 * f + 1)).length < q then none else some (picked b (lv f c b h) q (3 * f + 1)) := by
  have hl := lv_length f c b h
  split
  · rename_i hn
    exact enough_none (by rw [hl]; exact hn)
  · rename_i hn
    have := enough_some (l := lv f c b h) (batch := b) (q := q) (by rw [hl]; exact hn)
    rw [this, hl]

end Go.Proofs.Ytdeadekeffficaa
