/- Small facts on worlds: blocks, what a call may write (Upd), slices that read as lists (Reads). No program. -/
import Derived.WalkKit
import Derived.WalkSpells
import Derived.WalkLawsBesides
import Derived.Lib.Hide
import Derived.IntWalk
import Derived.Deep.AppendLies
namespace Go.Heap
open Go Go.RowKit

theorem block_cell {w : World} {b : Nat} {cs : Array Value} {T : TypeId} {fz : Nat × Nat} (h : w.heap[b]? = some (.cells cs T fz)) (o : Nat) : w.cell? ⟨b, o, none⟩ = cs[o]? := by
  simp [World.cell?, h]

theorem block_frozen {w : World} {b : Nat} {cs : Array Value} {T : TypeId} (h : w.heap[b]? = some (.cells cs T (0, 0))) (o : Nat) : w.frozen? ⟨b, o, none⟩ = false := by
  simp [World.frozen?, h]

theorem block_lt {w : World} {b : Nat} {o : Obj} (h : w.heap[b]? = some o) : b < w.heap.size := (Array.getElem?_eq_some_iff.1 h).1

theorem heap_set_same {w : World} {b : Nat} {cs : Array Value} {T : TypeId} {fz : Nat × Nat} (h : w.heap[b]? = some (.cells cs T fz)) (o : Nat) (v : Value) :
    (w.setCell ⟨b, o, none⟩ v).heap[b]? = some (.cells (cs.setIfInBounds o v) T fz) := by
  simp [World.setCell, Array.getElem?_modify, h]

theorem heap_set_other {w : World} {a : Addr} {b : Nat} (h : b ≠ a.block) (v : Value) : (w.setCell a v).heap[b]? = w.heap[b]? := by
  simp only [World.setCell, Array.getElem?_modify]
  rw [if_neg (by omega)]

theorem heap_alloc_lt {w : World} {o : Obj} {b : Nat} (h : b < w.heap.size) : (w.alloc o).heap[b]? = w.heap[b]? := Below.heap_alloc _ _ _ h

theorem heap_alloc_ne {w : World} {o : Obj} {b : Nat} (h : b ≠ w.heap.size) : (w.alloc o).heap[b]? = w.heap[b]? := by
  show (w.heap.push o)[b]? = _
  rw [Array.getElem?_push, if_neg h]

/-- FROM w TO w' nothing that was there has turned but in the blocks of M. -/
structure Upd (M : List Nat) (w w' : World) : Prop where
  os : w'.os = w.os
  tape : w'.tape = w.tape
  output : w'.output = w.output
  size : w.heap.size ≤ w'.heap.size
  block : ∀ k, k < w.heap.size → k ∉ M → w'.heap[k]? = w.heap[k]?

section
variable {M N : List Nat} {a w w' : World}
theorem Upd.refl (M : List Nat) (w : World) : Upd M w w := ⟨rfl, rfl, rfl, Nat.le_refl _, fun _ _ _ => rfl⟩
theorem Upd.trans {b c : World} (h : Upd M a b) (k : Upd M b c) : Upd M a c :=
  ⟨k.os.trans h.os, k.tape.trans h.tape, k.output.trans h.output, Nat.le_trans h.size k.size, fun i hi hm => (k.block i (Nat.lt_of_lt_of_le hi h.size) hm).trans (h.block i hi hm)⟩
theorem Upd.mono (h : Upd M w w') (hs : ∀ k, k < w.heap.size → k ∈ M → k ∈ N) : Upd N w w' :=
  ⟨h.os, h.tape, h.output, h.size, fun k hk hm => h.block k hk (fun hin => hm (hs k hk hin))⟩
/-- A step from a later world: what it wrote was new, or is let. -/
theorem Upd.then {w1 w2 : World} (h : Upd M w w1) (k : Upd N w1 w2) (hs : ∀ i ∈ N, i ∈ M ∨ w.heap.size ≤ i) : Upd M w w2 :=
  ⟨k.os.trans h.os, k.tape.trans h.tape, k.output.trans h.output, Nat.le_trans h.size k.size, fun i hi hm =>
    (k.block i (Nat.lt_of_lt_of_le hi h.size) (fun hin => (hs i hin).elim hm (fun h => by omega))).trans (h.block i hi hm)⟩
theorem Upd.drew (h : Upd M a w) : Upd M a w.drew := ⟨h.os, h.tape, h.output, h.size, h.block⟩
theorem Upd.drewN (h : Upd M a w) (n : Nat) : Upd M a (w.drewN n) := ⟨h.os, h.tape, h.output, h.size, h.block⟩
theorem Upd.alloc (h : Upd M a w) (o : Obj) : Upd M a (w.alloc o) :=
  ⟨h.os, h.tape, h.output, Nat.le_trans h.size (by simp), fun k hk hm => (Below.heap_alloc _ _ _ (Nat.lt_of_lt_of_le hk h.size)).trans (h.block k hk hm)⟩
theorem Upd.setCell (h : Upd M a w) {p : Addr} (hp : p.block ∈ M ∨ a.heap.size ≤ p.block) (u : Value) : Upd M a (w.setCell p u) :=
  ⟨h.os, h.tape, h.output, by have := h.size; simpa [World.setCell] using this, fun k hk hm => (heap_set_other (a := p) (b := k) (fun e => hp.elim (fun h => hm (by rw [e]; exact h)) (fun h => by omega)) u).trans (h.block k hk hm)⟩
theorem Upd.grown (h : Upd M a w) {row : Option Nat} (hg : w.grownBy w' row) (hr : ∀ k, row = some k → k ∈ M ∨ a.heap.size ≤ k) : Upd M a w' :=
  ⟨hg.os.trans h.os, hg.tape.trans h.tape, hg.output.trans h.output, Nat.le_trans h.size hg.size, fun k hk hm =>
    (hg.block k (Nat.lt_of_lt_of_le hk h.size) (fun e => (hr k e.symm).elim hm (fun h => by omega))).trans (h.block k hk hm)⟩
theorem Upd.of_below (h : Below w.heap.size w w') : Upd M w w' := ⟨h.os, h.tape, h.output, h.size, fun k hk _ => h.block k hk⟩
theorem Upd.below (h : Upd [] w w') : Below w.heap.size w w' := ⟨h.os, h.tape, h.output, h.size, fun k hk => h.block k hk (by simp)⟩
/-- Below B, if all that may be written lies from B on. -/
theorem Upd.belowB {B : Nat} (h : Upd M w w') (hB : B ≤ w.heap.size) (hM : ∀ k ∈ M, B ≤ k) : Below B w w' :=
  ⟨h.os, h.tape, h.output, h.size, fun k hk => h.block k (by omega) (fun hin => by have := hM k hin; omega)⟩
theorem Upd.cell (h : Upd M w w') {b o : Nat} (hb : b < w.heap.size) (hm : b ∉ M) : w'.cell? ⟨b, o, none⟩ = w.cell? ⟨b, o, none⟩ := World.cell?_of_block (h.block b hb hm)
theorem Upd.frozen (h : Upd M w w') {b o : Nat} (hb : b < w.heap.size) (hm : b ∉ M) : w'.frozen? ⟨b, o, none⟩ = w.frozen? ⟨b, o, none⟩ := World.frozen?_of_block (h.block b hb hm)
end

/-- The block that a slice's cells lie in. -/
def blkOf : Value → List Nat
  | .slice (some a) _ _ => [a.block]
  | _ => []

/-- v is a slice of n elements of sz cells each; its cells are xs. -/
def Reads (w : World) (v : Value) (sz : Nat) (n : Nat) (xs : List Value) : Prop :=
  ∃ ao cap, v = .slice ao n cap ∧ n ≤ cap ∧ cap ≤ maxLen ∧ xs.length = n * sz ∧ (ao = none → n = 0 ∧ cap = 0) ∧ (0 < n → ∃ b o, ao = some ⟨b, o, none⟩ ∧ b < w.heap.size ∧ ∀ j, j < n * sz → w.cell? ⟨b, o + j, none⟩ = xs[j]?)

theorem Reads.nil (w : World) (sz : Nat) : Reads w (.slice none 0 0) sz 0 [] := ⟨none, 0, rfl, Nat.le_refl _, by simp [maxLen], by simp, fun _ => ⟨rfl, rfl⟩, fun h => by omega⟩

theorem Reads.keep {w w' : World} {v : Value} {sz n : Nat} {xs : List Value} (h : Reads w v sz n xs) (hk : ∀ b ∈ blkOf v, b < w.heap.size → w'.heap[b]? = w.heap[b]?) (hs : w.heap.size ≤ w'.heap.size) : Reads w' v sz n xs := by
  obtain ⟨ao, cap, rfl, h1, h2, h3, h4, h5⟩ := h
  refine ⟨ao, cap, rfl, h1, h2, h3, h4, fun hn => ?_⟩
  obtain ⟨b, o, rfl, hb, hc⟩ := h5 hn
  refine ⟨b, o, rfl, by omega, fun j hj => ?_⟩
  rw [World.cell?_of_block (w := w) (hk b (by simp [blkOf]) hb)]
  exact hc j hj

theorem Reads.upd {M : List Nat} {w w' : World} {v : Value} {sz n : Nat} {xs : List Value} (h : Reads w v sz n xs) (hu : Upd M w w') (hm : ∀ b ∈ blkOf v, b ∉ M) : Reads w' v sz n xs :=
  h.keep (fun b hb hlt => hu.block b hlt (hm b hb)) hu.size

theorem Reads.drew {w : World} {v : Value} {sz n : Nat} {xs : List Value} (h : Reads w v sz n xs) : Reads w.drew v sz n xs := h

theorem Reads.len {w : World} {v : Value} {sz n : Nat} {xs : List Value} (h : Reads w v sz n xs) : xs.length = n * sz := by
  obtain ⟨ao, cap, _, _, _, h3, _⟩ := h; exact h3

theorem Reads.of_own {w : World} {B E sz n cap g : Nat} {xs : List Value} (h : w.ownsRow B E sz (.slice (some ⟨g, 0, none⟩) n cap) n xs) : Reads w (.slice (some ⟨g, 0, none⟩) n cap) sz n xs := by
  rcases h.2 with ⟨h', _⟩ | ⟨g', cap', cur, h', hb, hg, hnc, hcm, hcs, htake⟩
  · simp at h'
  · simp only [Value.slice.injEq, Option.some.injEq, Addr.mk.injEq, and_true, true_and] at h'
    obtain ⟨rfl, rfl⟩ := h'
    refine ⟨some ⟨g, 0, none⟩, cap, rfl, hnc, hcm, h.1, (fun e => by cases e), fun _ => ⟨g, 0, rfl, block_lt hg, fun j hj => ?_⟩⟩
    rw [Nat.zero_add]
    exact h.cellAt j hj

theorem owns_upd {w w' : World} {M : List Nat} {B E sz n : Nat} {v : Value} {xs : List Value} (h : w.ownsRow B E sz v n xs) (hu : Upd M w w') (hm : ∀ k ∈ blkOf v, k ∉ M) : w'.ownsRow B E sz v n xs := by
  refine ⟨h.1, ?_⟩
  rcases h.2 with hn | ⟨g, cap, cur, rfl, hb, hgg, rest⟩
  · exact .inl hn
  · exact .inr ⟨g, cap, cur, rfl, hb, by rw [hu.block g (block_lt hgg) (hm g (by simp [blkOf]))]; exact hgg, rest⟩

theorem owns_set_other {w : World} {B E k : Nat} {v : Value} {n : Nat} {xs : List Value} (h : w.ownsRow B E k v n xs) {a : Addr} (ha : a.block ∉ blkOf v) (u : Value) : (w.setCell a u).ownsRow B E k v n xs :=
  owns_upd (M := [a.block]) h ((Upd.refl _ _).setCell (.inl (by simp)) u) (fun k hk e => ha (by simp at e; rw [← e]; exact hk))

/-- An object with a cell stored. -/
def setIn (o : Nat) (v : Value) : Obj → Obj
  | .cells c T fz => .cells (c.setIfInBounds o v) T fz
  | x => x

/-! Blocks of a world that is written out: 'simp (disch := hp) only [hp_same, hp_other, hp_new, hp_old, hp_drew, hp_drewN]'. -/
theorem hp_same {w : World} {b o : Nat} {v : Value} {k : Nat} (h : k = b) : (w.setCell ⟨b, o, none⟩ v).heap[k]? = (w.heap[b]?).map (setIn o v) := by
  subst h
  simp only [World.setCell, Array.getElem?_modify, if_true]
  cases w.heap[k]? with
  | none => rfl
  | some x => cases x <;> rfl
theorem hp_other {w : World} {b o : Nat} {v : Value} {k : Nat} (h : k ≠ b) : (w.setCell ⟨b, o, none⟩ v).heap[k]? = w.heap[k]? := heap_set_other (by exact h) v
theorem hp_new {w : World} {o : Obj} {k : Nat} (h : k = w.heap.size) : (w.alloc o).heap[k]? = some o := by subst h; exact heap_alloc_new w o
theorem hp_old {w : World} {o : Obj} {k : Nat} (h : k < w.heap.size) : (w.alloc o).heap[k]? = w.heap[k]? := heap_alloc_lt h
theorem hp_drew {w : World} {k : Nat} : w.drew.heap[k]? = w.heap[k]? := rfl
theorem hp_drewN {w : World} {n k : Nat} : (w.drewN n).heap[k]? = w.heap[k]? := rfl
theorem hs_set {w : World} {a : Addr} {v : Value} : (w.setCell a v).heap.size = w.heap.size := by simp [World.setCell]
theorem hs_alloc {w : World} {o : Obj} : (w.alloc o).heap.size = w.heap.size + 1 := by simp
theorem hs_drew {w : World} : w.drew.heap.size = w.heap.size := rfl
theorem hs_drewN {w : World} {n : Nat} : (w.drewN n).heap.size = w.heap.size := rfl

end Go.Heap
