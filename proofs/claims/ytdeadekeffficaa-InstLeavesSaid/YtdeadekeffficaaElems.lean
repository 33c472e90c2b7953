/- A slice that came in, element by element: its cells as a list. No program. -/
import Derived.Test.YtdeadekeffficaaLift
import Derived.Test.YtdeadekeffficaaHeap
import Derived.Deep.Slices
namespace Go.Heap
open Go Go.ChangeShapes Go.WideShapes Go.ChangeAt Go.RowKit Go.Deep

theorem flat_length {α : Type} {cells : α → List Value} {sz : Nat} (hl : ∀ x, (cells x).length = sz) : ∀ xs : List α, (xs.flatMap cells).length = xs.length * sz
  | [] => by simp
  | x :: xs => by rw [List.flatMap_cons, List.length_append, hl, flat_length hl xs, List.length_cons, Nat.succ_mul]; omega

theorem flat_get {α : Type} {cells : α → List Value} {sz : Nat} (hl : ∀ x, (cells x).length = sz) : ∀ (xs : List α) (i r : Nat) (x : α), xs[i]? = some x → r < sz → (xs.flatMap cells)[i * sz + r]? = (cells x)[r]?
  | [], i, r, x, h, _ => by simp at h
  | y :: ys, 0, r, x, h, hr => by
    simp only [List.getElem?_cons_zero, Option.some.injEq] at h
    subst h
    rw [List.flatMap_cons, List.getElem?_append_left (by rw [hl]; omega), Nat.zero_mul, Nat.zero_add]
  | y :: ys, i + 1, r, x, h, hr => by
    rw [List.flatMap_cons, List.getElem?_append_right (by rw [hl, Nat.succ_mul]; omega), hl]
    rw [show (i + 1) * sz + r - sz = i * sz + r by rw [Nat.succ_mul]; omega]
    exact flat_get hl ys i r x (by simpa using h) hr

section
variable {H : Type} {enc : TypeId × Value → H} {W : World} {P : Program} {base : Nat} {spare : Nat → Bool} {held : Bool}

theorem slice_reads {t e : TypeId} {sz fuel : Nat} {v : Value} {x : DataW H × List MemPlace} {α : Type} {cells : α → List Value} {Q : α → Prop} (ht : P.underlying t = some (.slice e)) (hC : P.cellsOf e = sz) (hsz : 0 < sz) (hlen : ∀ a, (cells a).length = sz)
    (hel : ∀ n cs' y, cs'.length = sz → DataW.trod enc P W base spare held n e cs' = some y → ∃ a, cs' = cells a ∧ Q a) (h : DataW.trod enc P W base spare held fuel t [v] = some x) :
    ∃ xs : List α, Reads W v sz xs.length (xs.flatMap cells) ∧ ∀ a ∈ xs, Q a := by
  rcases open_slice ht h with ⟨hcs, _⟩ | ⟨a, len, cap, m, n, D, Pl, hcs, hb, hl, hm, hmm, _, hi⟩
  · simp only [List.cons.injEq, and_true] at hcs
    subst hcs
    exact ⟨[], Reads.nil _ _, by simp⟩
  · simp only [List.cons.injEq, and_true] at hcs
    subst hcs
    have hmle : len ≤ m := by rw [hmm]; split <;> omega
    have each : ∀ i, ∃ b : Option α, i < len → ∃ a', b = some a' ∧ Q a' ∧ ∀ j, j < sz → W.cell? ((a.add (i * sz)).add j) = (cells a')[j]? := by
      intro i
      by_cases hil : i < len
      · obtain ⟨cs', hc, ht'⟩ := hi i (by omega)
        rw [hC] at hc
        obtain ⟨_, hcl, hat⟩ := World.cells?_some hc
        obtain ⟨a', ha, hq⟩ := hel n cs' _ hcl ht'
        subst ha
        exact ⟨some a', fun _ => ⟨a', rfl, hq, hat⟩⟩
      · exact ⟨none, fun h => absurd h hil⟩
    obtain ⟨F, hF⟩ := Classical.axiomOfChoice each
    by_cases hz : len = 0
    · subst hz
      exact ⟨[], ⟨some a, cap, rfl, by omega, hm, by simp, (fun e => by cases e), fun h => absurd h (by simp)⟩, by simp⟩
    · obtain ⟨a0, _⟩ := hF 0 (by omega)
      have : Nonempty α := ⟨a0⟩
      let G : Nat → α := fun i => (F i).getD a0
      have hG : ∀ i, i < len → Q (G i) ∧ ∀ j, j < sz → W.cell? ((a.add (i * sz)).add j) = (cells (G i))[j]? := by
        intro i hil
        obtain ⟨a', e, q1, q2⟩ := hF i hil
        simp only [G, e, Option.getD_some]
        exact ⟨q1, q2⟩
      have hspot : a.spot = none := by
        have h0 := (hG 0 (by omega)).2 0 hsz
        rw [List.getElem?_eq_getElem (by rw [hlen]; exact hsz)] at h0
        have := World.cell?_spot h0
        simpa [Addr.add] using this
      obtain ⟨b, o, spot⟩ := a
      simp only at hspot
      subst hspot
      have hll : ((List.range len).map G).length = len := by simp
      refine ⟨(List.range len).map G, ⟨some ⟨b, o, none⟩, cap, by rw [hll], by rw [hll]; exact hl, hm, by rw [flat_length hlen], (fun e => by cases e), fun _ => ⟨b, o, rfl, ?_, fun j hj => ?_⟩⟩, ?_⟩
      · have h0 := (hG 0 (by omega)).2 0 hsz
        rw [List.getElem?_eq_getElem (by rw [hlen]; exact hsz), add_plain, add_plain] at h0
        by_cases hbl : b < W.heap.size
        · exact hbl
        · have : W.heap[b]? = none := by simp; omega
          simp [World.cell?, this] at h0
      · rw [hll] at hj
        have hd := Nat.div_add_mod j sz
        have hmod := Nat.mod_lt j hsz
        have hi' : j / sz < len := Nat.div_lt_of_lt_mul (by rw [Nat.mul_comm]; exact hj)
        have h1 := (hG (j / sz) hi').2 (j % sz) hmod
        rw [add_plain, add_plain] at h1
        have hjj : j = j / sz * sz + j % sz := by rw [Nat.mul_comm]; omega
        rw [hjj, ← Nat.add_assoc, h1, flat_get hlen _ (j / sz) (j % sz) (G (j / sz)) (by simp [hi']) hmod]
      · intro x hx
        simp only [List.mem_map, List.mem_range] at hx
        obtain ⟨i, hil, rfl⟩ := hx
        exact (hG i hil).1

end
end Go.Heap
