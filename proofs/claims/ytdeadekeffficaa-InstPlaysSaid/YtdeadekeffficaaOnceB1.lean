/- Parts of the proof, one behind the other. -/
import Derived.WalkKit
import Derived.WalkSpells
import Derived.WalkLawsBesides
import Derived.Lib.Hide
import Derived.IntWalk
import Derived.Deep.AppendLies
import Derived.Orders
import Derived.Tactics
import Derived.Laws.Sem
import Derived.Laws.Panics
import Derived.Test.YtdeadekeffficaaRows
import Derived.Deep.QuietTactic
import Derived.BigQuiet
import Derived.Deep.RegionWith

/- Small facts on worlds: blocks, what a call may write (Upd), slices that read as lists (Reads). No program. -/
namespace Go.Heap
open Go Go.RowKit

theorem block_cell {w : World} {b : Nat} {cs : Array Value} {T : TypeId} {fz : Nat × Nat} (h : w.heap[b]? = some (.cells cs T fz)) (o : Nat) : w.cell? ⟨b, o, none⟩ = cs[o]? := by
  simp [World.cell?, h]

theorem block_frozen {w : World} {b : Nat} {cs : Array Value} {T : TypeId} (h : w.heap[b]? = some (.cells cs T (0, 0))) (o : Nat) : w.frozen? ⟨b, o, none⟩ = false := by
  simp [World.frozen?, h]

theorem block_lt {w : World} {b : Nat} {o : Obj} (h : w.heap[b]? = some o) : b < w.heap.size := (Array.getElem?_eq_some_iff.1 h).1

theorem heap_set_same {w : World} {b : Nat} {cs : Array Value} {T : TypeId} {fz : Nat × Nat} (h : w.heap[b]? = some (.cells cs T fz)) (o : Nat) (v : Value) :
    (w.setCell ⟨b, o, none⟩ v).heap[b]? = some (.cells (cs.setIfInBounds o v) T fz) := by
  simp [World.setCell, Array.getElem?_modify, h]

theorem heap_set_other {w : World} {a : Addr} {b : Nat} (h : b ≠ a.block) (v : Value) : (w.setCell a v).heap[b]? = w.heap[b]? := by
  simp only [World.setCell, Array.getElem?_modify]
  rw [if_neg (by omega)]

theorem heap_alloc_lt {w : World} {o : Obj} {b : Nat} (h : b < w.heap.size) : (w.alloc o).heap[b]? = w.heap[b]? := Below.heap_alloc _ _ _ h

theorem heap_alloc_ne {w : World} {o : Obj} {b : Nat} (h : b ≠ w.heap.size) : (w.alloc o).heap[b]? = w.heap[b]? := by
  show (w.heap.push o)[b]? = _
  rw [Array.getElem?_push, if_neg h]

/-- FROM w TO w' nothing that was there has turned but in the blocks of M. -/
structure Upd (M : List Nat) (w w' : World) : Prop where
  os : w'.os = w.os
  tape : w'.tape = w.tape
  output : w'.output = w.output
  size : w.heap.size ≤ w'.heap.size
  block : ∀ k, k < w.heap.size → k ∉ M → w'.heap[k]? = w.heap[k]?

section
variable {M N : List Nat} {a w w' : World}
theorem Upd.refl (M : List Nat) (w : World) : Upd M w w := ⟨rfl, rfl, rfl, Nat.le_refl _, fun _ _ _ => rfl⟩
theorem Upd.trans {b c : World} (h : Upd M a b) (k : Upd M b c) : Upd M a c :=
  ⟨k.os.trans h.os, k.tape.trans h.tape, k.output.trans h.output, Nat.le_trans h.size k.size, fun i hi hm => (k.block i (Nat.lt_of_lt_of_le hi h.size) hm).trans (h.block i hi hm)⟩
theorem Upd.mono (h : Upd M w w') (hs : ∀ k, k < w.heap.size → k ∈ M → k ∈ N) : Upd N w w' :=
  ⟨h.os, h.tape, h.output, h.size, fun k hk hm => h.block k hk (fun hin => hm (hs k hk hin))⟩
/-- A step from a later world: what it wrote was new, or is let. -/
theorem Upd.then {w1 w2 : World} (h : Upd M w w1) (k : Upd N w1 w2) (hs : ∀ i ∈ N, i ∈ M ∨ w.heap.size ≤ i) : Upd M w w2 :=
  ⟨k.os.trans h.os, k.tape.trans h.tape, k.output.trans h.output, Nat.le_trans h.size k.size, fun i hi hm =>
    (k.block i (Nat.lt_of_lt_of_le hi h.size) (fun hin => (hs i hin).elim hm (fun h => by omega))).trans (h.block i hi hm)⟩
theorem Upd.drew (h : Upd M a w) : Upd M a w.drew := ⟨h.os, h.tape, h.output, h.size, h.block⟩
theorem Upd.drewN (h : Upd M a w) (n : Nat) : Upd M a (w.drewN n) := ⟨h.os, h.tape, h.output, h.size, h.block⟩
theorem Upd.alloc (h : Upd M a w) (o : Obj) : Upd M a (w.alloc o) :=
  ⟨h.os, h.tape, h.output, Nat.le_trans h.size (by simp), fun k hk hm => (Below.heap_alloc _ _ _ (Nat.lt_of_lt_of_le hk h.size)).trans (h.block k hk hm)⟩
theorem Upd.setCell (h : Upd M a w) {p : Addr} (hp : p.block ∈ M ∨ a.heap.size ≤ p.block) (u : Value) : Upd M a (w.setCell p u) :=
  ⟨h.os, h.tape, h.output, by have := h.size; simpa [World.setCell] using this, fun k hk hm => (heap_set_other (a := p) (b := k) (fun e => hp.elim (fun h => hm (by rw [e]; exact h)) (fun h => by omega)) u).trans (h.block k hk hm)⟩
theorem Upd.grown (h : Upd M a w) {row : Option Nat} (hg : w.grownBy w' row) (hr : ∀ k, row = some k → k ∈ M ∨ a.heap.size ≤ k) : Upd M a w' :=
  ⟨hg.os.trans h.os, hg.tape.trans h.tape, hg.output.trans h.output, Nat.le_trans h.size hg.size, fun k hk hm =>
    (hg.block k (Nat.lt_of_lt_of_le hk h.size) (fun e => (hr k e.symm).elim hm (fun h => by omega))).trans (h.block k hk hm)⟩
theorem Upd.of_below (h : Below w.heap.size w w') : Upd M w w' := ⟨h.os, h.tape, h.output, h.size, fun k hk _ => h.block k hk⟩
theorem Upd.below (h : Upd [] w w') : Below w.heap.size w w' := ⟨h.os, h.tape, h.output, h.size, fun k hk => h.block k hk (by simp)⟩
/-- Below B, if all that may be written lies from B on. -/
theorem Upd.belowB {B : Nat} (h : Upd M w w') (hB : B ≤ w.heap.size) (hM : ∀ k ∈ M, B ≤ k) : Below B w w' :=
  ⟨h.os, h.tape, h.output, h.size, fun k hk => h.block k (by omega) (fun hin => by have := hM k hin; omega)⟩
theorem Upd.cell (h : Upd M w w') {b o : Nat} (hb : b < w.heap.size) (hm : b ∉ M) : w'.cell? ⟨b, o, none⟩ = w.cell? ⟨b, o, none⟩ := World.cell?_of_block (h.block b hb hm)
theorem Upd.frozen (h : Upd M w w') {b o : Nat} (hb : b < w.heap.size) (hm : b ∉ M) : w'.frozen? ⟨b, o, none⟩ = w.frozen? ⟨b, o, none⟩ := World.frozen?_of_block (h.block b hb hm)
end

/-- The block that a slice's cells lie in. -/
def blkOf : Value → List Nat
  | .slice (some a) _ _ => [a.block]
  | _ => []

/-- v is a slice of n elements of sz cells each; its cells are xs. -/
def Reads (w : World) (v : Value) (sz : Nat) (n : Nat) (xs : List Value) : Prop :=
  ∃ ao cap, v = .slice ao n cap ∧ n ≤ cap ∧ cap ≤ maxLen ∧ xs.length = n * sz ∧ (ao = none → n = 0 ∧ cap = 0) ∧ (0 < n → ∃ b o, ao = some ⟨b, o, none⟩ ∧ b < w.heap.size ∧ ∀ j, j < n * sz → w.cell? ⟨b, o + j, none⟩ = xs[j]?)

theorem Reads.nil (w : World) (sz : Nat) : Reads w (.slice none 0 0) sz 0 [] := ⟨none, 0, rfl, Nat.le_refl _, by simp [maxLen], by simp, fun _ => ⟨rfl, rfl⟩, fun h => by omega⟩

theorem Reads.keep {w w' : World} {v : Value} {sz n : Nat} {xs : List Value} (h : Reads w v sz n xs) (hk : ∀ b ∈ blkOf v, b < w.heap.size → w'.heap[b]? = w.heap[b]?) (hs : w.heap.size ≤ w'.heap.size) : Reads w' v sz n xs := by
  obtain ⟨ao, cap, rfl, h1, h2, h3, h4, h5⟩ := h
  refine ⟨ao, cap, rfl, h1, h2, h3, h4, fun hn => ?_⟩
  obtain ⟨b, o, rfl, hb, hc⟩ := h5 hn
  refine ⟨b, o, rfl, by omega, fun j hj => ?_⟩
  rw [World.cell?_of_block (w := w) (hk b (by simp [blkOf]) hb)]
  exact hc j hj

theorem Reads.upd {M : List Nat} {w w' : World} {v : Value} {sz n : Nat} {xs : List Value} (h : Reads w v sz n xs) (hu : Upd M w w') (hm : ∀ b ∈ blkOf v, b ∉ M) : Reads w' v sz n xs :=
  h.keep (fun b hb hlt => hu.block b hlt (hm b hb)) hu.size

theorem Reads.drew {w : World} {v : Value} {sz n : Nat} {xs : List Value} (h : Reads w v sz n xs) : Reads w.drew v sz n xs := h

theorem Reads.len {w : World} {v : Value} {sz n : Nat} {xs : List Value} (h : Reads w v sz n xs) : xs.length = n * sz := by
  obtain ⟨ao, cap, _, _, _, h3, _⟩ := h; exact h3

theorem Reads.of_own {w : World} {B E sz n cap g : Nat} {xs : List Value} (h : w.ownsRow B E sz (.slice (some ⟨g, 0, none⟩) n cap) n xs) : Reads w (.slice (some ⟨g, 0, none⟩) n cap) sz n xs := by
  rcases h.2 with ⟨h', _⟩ | ⟨g', cap', cur, h', hb, hg, hnc, hcm, hcs, htake⟩
  · simp at h'
  · simp only [Value.slice.injEq, Option.some.injEq, Addr.mk.injEq, and_true, true_and] at h'
    obtain ⟨rfl, rfl⟩ := h'
    refine ⟨some ⟨g, 0, none⟩, cap, rfl, hnc, hcm, h.1, (fun e => by cases e), fun _ => ⟨g, 0, rfl, block_lt hg, fun j hj => ?_⟩⟩
    rw [Nat.zero_add]
    exact h.cellAt j hj

theorem owns_upd {w w' : World} {M : List Nat} {B E sz n : Nat} {v : Value} {xs : List Value} (h : w.ownsRow B E sz v n xs) (hu : Upd M w w') (hm : ∀ k ∈ blkOf v, k ∉ M) : w'.ownsRow B E sz v n xs := by
  refine ⟨h.1, ?_⟩
  rcases h.2 with hn | ⟨g, cap, cur, rfl, hb, hgg, rest⟩
  · exact .inl hn
  · exact .inr ⟨g, cap, cur, rfl, hb, by rw [hu.block g (block_lt hgg) (hm g (by simp [blkOf]))]; exact hgg, rest⟩

theorem owns_set_other {w : World} {B E k : Nat} {v : Value} {n : Nat} {xs : List Value} (h : w.ownsRow B E k v n xs) {a : Addr} (ha : a.block ∉ blkOf v) (u : Value) : (w.setCell a u).ownsRow B E k v n xs :=
  owns_upd (M := [a.block]) h ((Upd.refl _ _).setCell (.inl (by simp)) u) (fun k hk e => ha (by simp at e; rw [← e]; exact hk))

/-- An object with a cell stored. -/
def setIn (o : Nat) (v : Value) : Obj → Obj
  | .cells c T fz => .cells (c.setIfInBounds o v) T fz
  | x => x

/-! Blocks of a world that is written out: 'simp (disch := hp) only [hp_same, hp_other, hp_new, hp_old, hp_drew, hp_drewN]'. -/
theorem hp_same {w : World} {b o : Nat} {v : Value} {k : Nat} (h : k = b) : (w.setCell ⟨b, o, none⟩ v).heap[k]? = (w.heap[b]?).map (setIn o v) := by
  subst h
  simp only [World.setCell, Array.getElem?_modify, if_true]
  cases w.heap[k]? with
  | none => rfl
  | some x => cases x <;> rfl
theorem hp_other {w : World} {b o : Nat} {v : Value} {k : Nat} (h : k ≠ b) : (w.setCell ⟨b, o, none⟩ v).heap[k]? = w.heap[k]? := heap_set_other (by exact h) v
theorem hp_new {w : World} {o : Obj} {k : Nat} (h : k = w.heap.size) : (w.alloc o).heap[k]? = some o := by subst h; exact heap_alloc_new w o
theorem hp_old {w : World} {o : Obj} {k : Nat} (h : k < w.heap.size) : (w.alloc o).heap[k]? = w.heap[k]? := heap_alloc_lt h
theorem hp_drew {w : World} {k : Nat} : w.drew.heap[k]? = w.heap[k]? := rfl
theorem hp_drewN {w : World} {n k : Nat} : (w.drewN n).heap[k]? = w.heap[k]? := rfl
theorem hs_set {w : World} {a : Addr} {v : Value} : (w.setCell a v).heap.size = w.heap.size := by simp [World.setCell]
theorem hs_alloc {w : World} {o : Obj} : (w.alloc o).heap.size = w.heap.size + 1 := by simp
theorem hs_drew {w : World} : w.drew.heap.size = w.heap.size := rfl
theorem hs_drewN {w : World} {n : Nat} : (w.drewN n).heap.size = w.heap.size := rfl

end Go.Heap

/- Resources: parts of memory that are owned apart, and what they share. No program. -/
namespace Go.Heap
open Go Go.RowKit

/-- A part of memory: the blocks M that it owns, and what it says (Q) of a world, where what it shares lies in the blocks D. -/
structure Res where
  M : List Nat
  Q : World → List Nat → Prop
  dep : ∀ {w w' : World} {D : List Nat}, Q w D → (∀ k, k ∈ M ∨ k ∈ D → w'.heap[k]? = w.heap[k]?) → w.heap.size ≤ w'.heap.size → Q w' D
  lt : ∀ {w : World} {D : List Nat}, Q w D → ∀ k, k ∈ M ∨ k ∈ D → k < w.heap.size
  sep : ∀ {w : World} {D : List Nat}, Q w D → ∀ k ∈ M, k ∉ D

/-- It holds, and what it shares lies outside of A. -/
def Res.At (r : Res) (w : World) (A : List Nat) : Prop := ∃ D, r.Q w D ∧ (∀ k ∈ D, k ∉ A) ∧ ∀ k ∈ A, k < w.heap.size

section
variable {r r' s : Res} {w w' W W' w0 : World} {A A' N : List Nat} {rs ss : List Res} {B : Nat}

theorem Res.At.upd (h : r.At w A) (hu : Upd N w w') (hN : ∀ k ∈ N, k < w.heap.size → k ∉ r.M ∧ k ∈ A) : r.At w' A := by
  obtain ⟨D, h1, h2, h3⟩ := h
  refine ⟨D, r.dep h1 (fun k hk => hu.block k (r.lt h1 k hk) (fun hn => ?_)) hu.size, h2, fun k hk => Nat.lt_of_lt_of_le (h3 k hk) hu.size⟩
  obtain ⟨q1, q2⟩ := hN k hn (r.lt h1 k hk)
  rcases hk with hk | hk
  · exact q1 hk
  · exact h2 k hk q2

theorem Res.At.upd0 (h : r.At w A) (hu : Upd [] w w') : r.At w' A := h.upd hu (by simp)

theorem Res.At.avoid (h : r.At w A) (hs : ∀ k ∈ A', k ∈ A) : r.At w A' := by
  obtain ⟨D, h1, h2, h3⟩ := h
  exact ⟨D, h1, fun k hk hn => h2 k hk (hs k hn), fun k hk => h3 k (hs k hk)⟩

/-- Keep out of more: of what is new, and of its own. -/
theorem Res.At.more (h : r.At w A) (hu : Upd N w w') (hN : ∀ k ∈ N, k < w.heap.size → k ∉ r.M ∧ k ∈ A) (hA : ∀ k ∈ A', k < w'.heap.size ∧ (k ∈ A ∨ k ∈ r.M ∨ w.heap.size ≤ k)) : r.At w' A' := by
  obtain ⟨D', k1, k2, k3⟩ := h.upd hu hN
  obtain ⟨D, h1, h2, h3⟩ := h
  have h1' := r.dep h1 (w' := w') (fun k hk => hu.block k (r.lt h1 k hk) (fun hn => by
    obtain ⟨q1, q2⟩ := hN k hn (r.lt h1 k hk)
    exact hk.elim q1 (fun hk => h2 k hk q2))) hu.size
  refine ⟨D, h1', fun k hk hn => ?_, fun k hk => (hA k hk).1⟩
  rcases (hA k hn).2 with hq | hq | hq
  · exact h2 k hk hq
  · exact r.sep h1 k hq hk
  · have := r.lt h1 k (.inr hk); omega

theorem Res.At.lt (h : r.At w A) : ∀ k ∈ r.M, k < w.heap.size := by
  obtain ⟨D, h1, _, _⟩ := h
  exact fun k hk => r.lt h1 k (.inl hk)

def Ms (rs : List Res) : List Nat := rs.flatMap Res.M
theorem Ms_cons (r : Res) (rs : List Res) (k : Nat) : k ∈ Ms (r :: rs) ↔ k ∈ r.M ∨ k ∈ Ms rs := by simp [Ms]
theorem mem_Ms {r : Res} (h : r ∈ rs) {k : Nat} (hk : k ∈ r.M) : k ∈ Ms rs := by simp only [Ms, List.mem_flatMap]; exact ⟨r, h, hk⟩
theorem Ms_iff (rs : List Res) (k : Nat) : k ∈ Ms rs ↔ ∃ r ∈ rs, k ∈ r.M := by simp [Ms]

/-- From w0 on: below B all is as it was; what is there from B on belongs to rs, each for itself. -/
structure Own (B : Nat) (w0 W : World) (rs : List Res) : Prop where
  below : Below B w0 W
  size : B ≤ W.heap.size
  all : ∀ r ∈ rs, r.At W (Ms rs) ∧ ∀ k ∈ r.M, B ≤ k
  apart : rs.Pairwise fun r s => ∀ k ∈ r.M, k ∉ s.M

theorem Own.lt (h : Own B w0 W rs) : ∀ k ∈ Ms rs, k < W.heap.size := by
  intro k hk
  obtain ⟨r, hr, hk⟩ := (Ms_iff _ _).1 hk
  exact (h.all r hr).1.lt k hk

theorem Own.fresh (h : Own B w0 W rs) {k : Nat} (hk : W.heap.size ≤ k) : k ∉ Ms rs := fun hn => by have := h.lt k hn; omega
theorem Own.elder (h : Own B w0 W rs) {k : Nat} (hk : k < B) : k ∉ Ms rs := fun hn => by
  obtain ⟨r, hr, hm⟩ := (Ms_iff _ _).1 hn
  have := (h.all r hr).2 k hm
  omega

theorem Own.start (hb : Below B w0 W) (hB : B ≤ W.heap.size) : Own B w0 W [] := ⟨hb, hB, by simp, .nil⟩

theorem Own.upd0 (h : Own B w0 W rs) (hu : Upd [] W W') : Own B w0 W' rs :=
  ⟨h.below.trans (hu.below.mono h.size), Nat.le_trans h.size hu.size, fun r hr => ⟨(h.all r hr).1.upd0 hu, (h.all r hr).2⟩, h.apart⟩

theorem Own.alloc (h : Own B w0 W rs) (o : Obj) : Own B w0 (W.alloc o) rs := h.upd0 ((Upd.refl _ _).alloc o)
theorem Own.drew (h : Own B w0 W rs) : Own B w0 W.drew rs := h.upd0 (Upd.refl _ _).drew
theorem Own.to (h : Own B w0 W rs) (hb : Below W.heap.size W W') : Own B w0 W' rs := h.upd0 (Upd.of_below hb)

theorem Own.head (h : Own B w0 W (r :: rs)) : r.At W (Ms (r :: rs)) := (h.all r (by simp)).1

/-- A step of the first one. -/
theorem Own.step (h : Own B w0 W (r :: rs)) (hu : Upd r.M W W') (hr : r'.At W' (Ms (r :: rs))) (hM : ∀ k ∈ r'.M, k ∈ r.M ∨ W.heap.size ≤ k) : Own B w0 W' (r' :: rs) := by
  have hap := List.pairwise_cons.1 h.apart
  have hB := (h.all r (by simp)).2
  have hlt : ∀ k ∈ Ms (r' :: rs), k < W'.heap.size := by
    intro k hk
    rcases (Ms_cons _ _ _).1 hk with hk | hk
    · exact hr.lt k hk
    · exact Nat.lt_of_lt_of_le (h.lt k ((Ms_cons _ _ _).2 (.inr hk))) hu.size
  refine ⟨h.below.trans (hu.belowB h.size hB), Nat.le_trans h.size hu.size, fun s hs => ?_, ?_⟩
  · rcases List.mem_cons.1 hs with rfl | hs
    · refine ⟨hr.more (Upd.refl [] _) (by simp) (fun k hk => ⟨hlt k hk, ?_⟩), fun k hk => ?_⟩
      · rcases (Ms_cons _ _ _).1 hk with hk | hk
        · exact .inr (.inl hk)
        · exact .inl ((Ms_cons _ _ _).2 (.inr hk))
      · rcases hM k hk with hk | hk
        · exact hB k hk
        · exact Nat.le_trans h.size hk
    · obtain ⟨q1, q2⟩ := h.all s (List.mem_cons_of_mem _ hs)
      refine ⟨q1.more hu (fun k hk _ => ⟨hap.1 s hs k hk, (Ms_cons _ _ _).2 (.inl hk)⟩) (fun k hk => ⟨hlt k hk, ?_⟩), q2⟩
      rcases (Ms_cons _ _ _).1 hk with hk | hk
      · rcases hM k hk with hk | hk
        · exact .inl ((Ms_cons _ _ _).2 (.inl hk))
        · exact .inr (.inr hk)
      · exact .inl ((Ms_cons _ _ _).2 (.inr hk))
  · rw [List.pairwise_cons]
    refine ⟨fun s hs k hk hn => ?_, hap.2⟩
    rcases hM k hk with hk | hk
    · exact hap.1 s hs k hk hn
    · have := h.lt k ((Ms_cons _ _ _).2 (.inr (mem_Ms hs hn))); omega

/-- A new one. -/
theorem Own.new (h : Own B w0 W rs) (hu : Upd [] W W') (hr : r.At W' (Ms rs)) (hM : ∀ k ∈ r.M, W.heap.size ≤ k) : Own B w0 W' (r :: rs) := by
  have h' := h.upd0 hu
  have hlt : ∀ k ∈ Ms (r :: rs), k < W'.heap.size := by
    intro k hk
    rcases (Ms_cons _ _ _).1 hk with hk | hk
    · exact hr.lt k hk
    · exact h'.lt k hk
  refine ⟨h'.below, h'.size, fun s hs => ?_, ?_⟩
  · rcases List.mem_cons.1 hs with rfl | hs
    · exact ⟨hr.more (Upd.refl [] _) (by simp) (fun k hk => ⟨hlt k hk, ((Ms_cons _ _ _).1 hk).elim (fun h => .inr (.inl h)) .inl⟩), fun k hk => Nat.le_trans h.size (hM k hk)⟩
    · obtain ⟨q1, q2⟩ := h.all s hs
      exact ⟨q1.more hu (by simp) (fun k hk => ⟨hlt k hk, ((Ms_cons _ _ _).1 hk).elim (fun h => .inr (.inr (hM k h))) .inl⟩), q2⟩
  · rw [List.pairwise_cons]
    exact ⟨fun s hs k hk hn => by have := hM k hk; have := h.lt k (mem_Ms hs hn); omega, h.apart⟩

/-- One of them may be said otherwise, at the same world. -/
theorem Own.alter (h : Own B w0 W (r :: rs)) (hr : r'.At W (Ms (r :: rs))) (hM : ∀ k ∈ r'.M, k ∈ r.M) : Own B w0 W (r' :: rs) :=
  h.step ((Upd.refl [] _).mono (by simp)) hr (fun k hk => .inl (hM k hk))

/-- Some of them, in any order. -/
theorem Own.perm (h : Own B w0 W rs) (hp : rs.Perm ss) : Own B w0 W ss := by
  refine ⟨h.below, h.size, fun r hr => ?_, ?_⟩
  · obtain ⟨q1, q2⟩ := h.all r (hp.mem_iff.2 hr)
    refine ⟨q1.avoid (fun k hk => ?_), q2⟩
    obtain ⟨s, hs, hk⟩ := (Ms_iff _ _).1 hk
    exact mem_Ms (hp.mem_iff.2 hs) hk
  · exact hp.pairwise h.apart (fun hab k hk hn => hab k hn hk)

theorem Own.drop (h : Own B w0 W (r :: rs)) : Own B w0 W rs :=
  ⟨h.below, h.size, fun s hs => ⟨(h.all s (List.mem_cons_of_mem _ hs)).1.avoid (fun _k hk => (Ms_cons _ _ _).2 (.inr hk)), (h.all s (List.mem_cons_of_mem _ hs)).2⟩, (List.pairwise_cons.1 h.apart).2⟩

theorem Own.perm3 {r1 r2 r3 : Res} (h : Own B w0 W (r :: r1 :: r2 :: r3 :: rs)) : Own B w0 W (r1 :: r2 :: r3 :: r :: rs) :=
  h.perm ((List.Perm.swap _ _ _).trans (((List.Perm.swap _ _ _).trans ((List.Perm.swap _ _ _).cons _)).cons _))
theorem Own.perm3' {r1 r2 r3 : Res} (h : Own B w0 W (r1 :: r2 :: r3 :: r :: rs)) : Own B w0 W (r :: r1 :: r2 :: r3 :: rs) :=
  h.perm ((List.Perm.swap _ _ _).trans (((List.Perm.swap _ _ _).trans ((List.Perm.swap _ _ _).cons _)).cons _)).symm
theorem Own.swap (h : Own B w0 W (r :: s :: rs)) : Own B w0 W (s :: r :: rs) := h.perm (.swap _ _ _)
theorem Own.rot' {t : Res} (h : Own B w0 W (r :: s :: t :: rs)) : Own B w0 W (s :: t :: r :: rs) := h.perm ((List.Perm.swap _ _ _).trans ((List.Perm.swap _ _ _).cons _))
theorem Own.rot {t : Res} (h : Own B w0 W (r :: s :: t :: rs)) : Own B w0 W (t :: r :: s :: rs) := h.perm (((List.Perm.swap _ _ _).cons _).trans (.swap _ _ _))
/-- Two become one. -/
theorem Own.join (h : Own B w0 W (r :: s :: rs)) (hr : r'.At W (Ms (r :: s :: rs))) (hM : ∀ k ∈ r'.M, k ∈ r.M ∨ k ∈ s.M) : Own B w0 W (r' :: rs) := by
  have hap := List.pairwise_cons.1 h.apart
  have hap2 := List.pairwise_cons.1 hap.2
  have hs := h.drop.drop
  have hsub : ∀ k ∈ Ms (r' :: rs), k ∈ Ms (r :: s :: rs) := by
    intro k hk
    rcases (Ms_cons _ _ _).1 hk with hk | hk
    · rcases hM k hk with hk | hk
      · exact (Ms_cons _ _ _).2 (.inl hk)
      · exact (Ms_cons _ _ _).2 (.inr ((Ms_cons _ _ _).2 (.inl hk)))
    · exact (Ms_cons _ _ _).2 (.inr ((Ms_cons _ _ _).2 (.inr hk)))
  refine ⟨h.below, h.size, fun t ht => ?_, ?_⟩
  · rcases List.mem_cons.1 ht with rfl | ht
    · refine ⟨hr.avoid hsub, fun k hk => ?_⟩
      rcases hM k hk with hk | hk
      · exact (h.all r (by simp)).2 k hk
      · exact (h.all s (by simp)).2 k hk
    · obtain ⟨q1, q2⟩ := h.all t (by simp [ht])
      exact ⟨q1.avoid hsub, q2⟩
  · rw [List.pairwise_cons]
    refine ⟨fun t ht k hk => ?_, hap2.2⟩
    rcases hM k hk with hk | hk
    · exact hap.1 t (by simp [ht]) k hk
    · exact hap2.1 t ht k hk

/-! ### A block that is known whole; a slice that is only read -/

/-- Block b is the object o. -/
def blk (b : Nat) (o : Obj) : Res where
  M := [b]
  Q := fun w D => w.heap[b]? = some o ∧ D = []
  dep := fun ⟨h, e⟩ hk _ => ⟨(hk _ (by simp)).trans h, e⟩
  lt := fun ⟨h, e⟩ k hk => by subst e; simp at hk; subst hk; exact block_lt h
  sep := fun ⟨_, e⟩ k _ hn => by rw [e] at hn; simp at hn

theorem blk_out {b : Nat} {o : Obj} (h : (blk b o).At w A) : w.heap[b]? = some o := let ⟨_, h, _⟩ := h; h.1
theorem blk_at {b : Nat} {o : Obj} (h : w.heap[b]? = some o) (hA : ∀ k ∈ A, k < w.heap.size) : (blk b o).At w A := ⟨[], ⟨h, rfl⟩, by simp, hA⟩

theorem Own.blk_out {b : Nat} {o : Obj} (h : Own B w0 W (blk b o :: rs)) : W.heap[b]? = some o := Heap.blk_out h.head

/-- A new block. -/
theorem Own.box (h : Own B w0 W rs) (o : Obj) : Own B w0 (W.alloc o) (blk W.heap.size o :: rs) :=
  h.new ((Upd.refl _ _).alloc o) (blk_at (heap_alloc_new W o) (fun k hk => by have := h.lt k hk; simp; omega)) (by simp [blk])

theorem Own.store {b : Nat} {o : Obj} (h : Own B w0 W (blk b o :: rs)) (i : Nat) (v : Value) : Own B w0 (W.setCell ⟨b, i, none⟩ v) (blk b (setIn i v o) :: rs) := by
  have hu : Upd [b] W (W.setCell ⟨b, i, none⟩ v) := (Upd.refl _ _).setCell (.inl (by simp)) v
  refine h.step (r' := blk b (setIn i v o)) hu (blk_at ?_ (fun k hk => by rw [hs_set]; exact h.lt k hk)) (fun k hk => .inl hk)
  rw [hp_same rfl, h.blk_out]; rfl

/-- A block is written by a call that names it. -/
theorem Own.turn {b : Nat} {o o' : Obj} (h : Own B w0 W (blk b o :: rs)) (hu : Upd [b] W W') (hb : W'.heap[b]? = some o') : Own B w0 W' (blk b o' :: rs) :=
  h.step (r' := blk b o') hu (blk_at hb (fun k hk => Nat.lt_of_lt_of_le (h.lt k hk) hu.size)) (fun _k hk => .inl hk)

/-- A slice that is only read: its cells lie in D. -/
def ReadsIn (w : World) (v : Value) (sz n : Nat) (xs : List Value) (D : List Nat) : Prop := Reads w v sz n xs ∧ (0 < n → ∀ k ∈ blkOf v, k ∈ D)

theorem ReadsIn.mono {v : Value} {sz n : Nat} {xs : List Value} {D D' : List Nat} (h : ReadsIn w v sz n xs D) (hs : ∀ k ∈ D, k ∈ D') : ReadsIn w v sz n xs D' := ⟨h.1, fun hn k hk => hs k (h.2 hn k hk)⟩

theorem ReadsIn.nil (w : World) (sz : Nat) (D : List Nat) : ReadsIn w (.slice none 0 0) sz 0 [] D := ⟨Reads.nil _ _, fun h => by omega⟩

theorem ReadsIn.dep {v : Value} {sz n : Nat} {xs : List Value} {D : List Nat} (h : ReadsIn w v sz n xs D) (hk : ∀ k ∈ D, w'.heap[k]? = w.heap[k]?) (hs : w.heap.size ≤ w'.heap.size) : ReadsIn w' v sz n xs D := by
  obtain ⟨⟨ao, cap, rfl, h1, h2, h3, h4, h5⟩, h6⟩ := h
  refine ⟨⟨ao, cap, rfl, h1, h2, h3, h4, fun hn => ?_⟩, h6⟩
  obtain ⟨b, o, rfl, hb, hc⟩ := h5 hn
  refine ⟨b, o, rfl, by omega, fun j hj => ?_⟩
  rw [World.cell?_of_block (w := w) (hk b (h6 hn b (by simp [blkOf])))]
  exact hc j hj

theorem Reads.lt {v : Value} {sz n : Nat} {xs : List Value} (h : Reads w v sz n xs) (hn : 0 < n) : ∀ k ∈ blkOf v, k < w.heap.size := by
  obtain ⟨ao, cap, rfl, _, _, _, _, h5⟩ := h
  obtain ⟨b, o, rfl, hb, _⟩ := h5 hn
  intro k hk
  simp [blkOf] at hk
  omega

/-- Blocks of a slice that has something in it. -/
def blkIf (n : Nat) (v : Value) : List Nat := if 0 < n then blkOf v else []
theorem Reads.lies {v : Value} {sz n : Nat} {xs : List Value} (h : Reads w v sz n xs) : ReadsIn w v sz n xs (blkIf n v) := ⟨h, fun hn k hk => by unfold blkIf; rw [if_pos hn]; exact hk⟩
theorem Reads.lies_lt {v : Value} {sz n : Nat} {xs : List Value} (h : Reads w v sz n xs) : ∀ k ∈ blkIf n v, k < w.heap.size := by
  intro k hk
  unfold blkIf at hk
  split at hk
  · exact h.lt (by assumption) k hk
  · simp at hk
theorem blkIf_sub {n : Nat} {v : Value} {k : Nat} (h : k ∈ blkIf n v) : k ∈ blkOf v := by unfold blkIf at h; split at h; exact h; simp at h

/-- Something that is only read. -/
def imm (Q : World → List Nat → Prop) (dep : ∀ {w w' : World} {D : List Nat}, Q w D → (∀ k ∈ D, w'.heap[k]? = w.heap[k]?) → w.heap.size ≤ w'.heap.size → Q w' D) : Res where
  M := []
  Q := fun w D => Q w D ∧ ∀ k ∈ D, k < w.heap.size
  dep := fun ⟨h, e⟩ hk hs => ⟨dep h (fun k hkD => hk k (.inr hkD)) hs, fun k hk => Nat.lt_of_lt_of_le (e k hk) hs⟩
  lt := fun ⟨_, e⟩ k hk => e k (by simpa using hk)
  sep := fun _ k hk => by simp at hk

end
end Go.Heap

/- A region that draws its order may be walked in the order of the text: each operation that only computes is asked for its value in every world where S holds, each that only reads for its value where it stands, each other keeps S. -/
namespace Go.Mix
open Go

section
variable {P : Program} {ops : Array Oper} {Q : Exit → Act → World → Prop} {S : World → Prop}

def NoQ : Exit → Act → World → Prop := fun _ _ _ => False

/-- Operation o yields v: class 0: wherever S holds; else in this world. -/
def Gives (P : Program) (ops : Array Oper) (S : World → Prop) (c : Nat) (o : Oper) (v : Value) (a : Act) (w : World) : Prop :=
  (Region.wanted o (yielded ops a.tmps) = true ∧ ∀ w', (if c = 0 then S w' else w' = w) → (execOp a.eval o).run P w' = .ok (.value v) w') ∨
  (Region.wanted o (yielded ops a.tmps) = false ∧ v = undef)

def Loud (P : Program) (ops : Array Oper) (S : World → Prop) (o : Oper) (K : Act → World → Prop) (a : Act) (w : World) : Prop :=
  if Region.wanted o (yielded ops a.tmps) then o.wp P a w (fun a' w' => S w' ∧ K a' w') NoQ else S w ∧ K (a.put o.dst undef) w

def stepMix (P : Program) (ops : Array Oper) (S : World → Prop) (c : Nat) (o : Oper) (K : Act → World → Prop) (a : Act) (w : World) : Prop :=
  if c ≤ 1 then ∃ v, Gives P ops S c o v a w ∧ K (a.put o.dst v) w else Loud P ops S o K a w

theorem Oper.wp_post {o : Oper} {a : Act} {w : World} {K K' : Act → World → Prop} (h : ∀ a w, K a w → K' a w) (hh : o.wp P a w K NoQ) : o.wp P a w K' Q := by
  unfold Oper.wp at *
  generalize (execOp a.eval o).run P w = r at *
  cases r with
  | ok n w' =>
    cases n <;> simp only [Oper.upon] at hh ⊢
    case value v => exact h _ _ hh
    case skip => exact h _ _ hh
    case defer d => exact h _ _ hh
    case enter f args =>
      refine Calls.mono hh fun e w'' he => ?_
      cases e with
      | returned v => exact h _ _ he
      | panicked ch => exact he.elim
      | outgrown => obtain ⟨_, _, hq⟩ := he; exact hq.elim
    case row row args => exact Rows.mono hh fun _ _ he => h _ _ he
  | halt x w' => cases x <;> simp only [Oper.upon] at hh; exact hh.elim

theorem loud_mono {o : Oper} {K K' : Act → World → Prop} (h : ∀ a w, K a w → K' a w) {a : Act} {w : World} (hh : Loud P ops S o K a w) : Loud P ops S o K' a w := by
  unfold Loud at *
  split
  · rename_i hw; rw [if_pos hw] at hh; exact Oper.wp_post (fun a w ⟨h1, h2⟩ => ⟨h1, h a w h2⟩) hh
  · rename_i hw; rw [if_neg hw] at hh; exact ⟨hh.1, h _ _ hh.2⟩

theorem step_mono {c : Nat} {o : Oper} {K K' : Act → World → Prop} (h : ∀ a w, K a w → K' a w) {a : Act} {w : World} (hh : stepMix P ops S c o K a w) : stepMix P ops S c o K' a w := by
  unfold stepMix at *
  split
  · rename_i hc; rw [if_pos hc] at hh; obtain ⟨v, h1, h2⟩ := hh; exact ⟨v, h1, h _ _ h2⟩
  · rename_i hc; rw [if_neg hc] at hh; exact loud_mono h hh

/-! ### Two operations change places -/

theorem gives_same {c : Nat} {o : Oper} {v : Value} {a a' : Act} {w : World} (he : execOp a'.eval o = execOp a.eval o) (hw : Region.wanted o (yielded ops a'.tmps) = Region.wanted o (yielded ops a.tmps)) :
    Gives P ops S c o v a' w ↔ Gives P ops S c o v a w := by
  unfold Gives; rw [he, hw]

theorem gives_put {c : Nat} {o : Oper} (hs : ∀ cs b, o.op ≠ .select cs b) {v : Value} {a : Act} {dst : Option Tmp} {u : Value} {w : World} (h : ∀ d, dst = some d → d ∉ o.looksAt ops) :
    Gives P ops S c o v (a.put dst u) w ↔ Gives P ops S c o v a w :=
  gives_same (execOp_put o hs a dst u h) (wanted_put o a dst u h)

theorem gives_world {c : Nat} (hc : c = 0) {o : Oper} {v : Value} {a : Act} {w w' : World} (h : Gives P ops S c o v a w) : Gives P ops S c o v a w' := by
  subst hc; exact h

theorem gives_one {o : Oper} {v u : Value} {a : Act} {w w' : World} (hS : S w') (h1 : Gives P ops S 0 o v a w) (h2 : Gives P ops S 0 o u a w) : v = u := by
  rcases h1 with ⟨a1, b1⟩ | ⟨a1, b1⟩ <;> rcases h2 with ⟨a2, b2⟩ | ⟨a2, b2⟩
  · have := (b1 w' hS).symm.trans (b2 w' hS); simpa using this
  · rw [a1] at a2; cases a2
  · rw [a1] at a2; cases a2
  · rw [b1, b2]

/-- A loud operation comes to some end. -/
theorem loud_out {o : Oper} {K : Act → World → Prop} {a : Act} {w : World} (h : Loud P ops S o K a w) : ∃ ds x w', S w' ∧ K (({ a with defers := ds } : Act).put o.dst x) w' := by
  unfold Loud at h
  split at h
  · unfold Oper.wp at h
    generalize (execOp a.eval o).run P w = r at h
    cases r with
    | ok n w' =>
      cases n <;> simp only [Oper.upon] at h
      case value v => exact ⟨a.defers, v, w', h⟩
      case skip => exact ⟨a.defers, undef, w', h⟩
      case defer d => exact ⟨d :: a.defers, undef, w', h⟩
      case enter f args =>
        obtain ⟨e, w'', _, he, _⟩ := h []
        cases e with
        | returned v => exact ⟨a.defers, v, w'', he⟩
        | panicked ch => exact he.elim
        | outgrown => obtain ⟨_, _, hq⟩ := he; exact hq.elim
      case row row args =>
        obtain ⟨v, w'', he, _⟩ := h default []
        exact ⟨a.defers, v, w'', he⟩
    | halt x w' => cases x <;> simp only [Oper.upon] at h; exact h.elim
  · exact ⟨a.defers, undef, w, h⟩

theorem eval_defers (a : Act) (ds : List Deferred) : ({ a with defers := ds } : Act).eval = a.eval := by
  funext x; cases x <;> rfl

theorem gives_defers {c : Nat} {o : Oper} {v : Value} {a : Act} {ds : List Deferred} {w : World} : Gives P ops S c o v ({ a with defers := ds } : Act) w ↔ Gives P ops S c o v a w :=
  gives_same (by rw [eval_defers]) rfl

/-- The quiet one, o, goes ahead of the loud one, p. -/
theorem loud_quiet {o p : Oper} (hap : o.apart ops p = true) (hso : ∀ cs b, o.op ≠ .select cs b) (hsp : ∀ cs b, p.op ≠ .select cs b) {K : Act → World → Prop} {a : Act} {w : World}
    (h : Loud P ops S p (fun a' w' => ∃ v, Gives P ops S 0 o v a' w' ∧ K (a'.put o.dst v) w') a w) : ∃ v, Gives P ops S 0 o v a w ∧ Loud P ops S p K (a.put o.dst v) w := by
  obtain ⟨h1, h2, h3⟩ := Oper.apart_spec hap
  obtain ⟨ds, x, w', _, v, hv, _⟩ := loud_out h
  rw [gives_put hso h3, gives_defers] at hv
  have hv : Gives P ops S 0 o v a w := gives_world rfl hv
  refine ⟨v, hv, ?_⟩
  have keep : ∀ (ds : List Deferred) (u : Value) (w' : World), S w' → (∃ v', Gives P ops S 0 o v' (({ a with defers := ds } : Act).put p.dst u) w' ∧ K ((({ a with defers := ds } : Act).put p.dst u).put o.dst v') w') →
      K ((({ a with defers := ds } : Act).put p.dst u).put o.dst v) w' := by
    rintro ds u w' hS ⟨v', h4, h5⟩
    rw [gives_put hso h3, gives_defers] at h4
    have : v = v' := gives_one hS (w := w) hv (gives_world rfl h4)
    rw [this]; exact h5
  unfold Loud at *
  rw [wanted_put p a o.dst v h1]
  split
  · rename_i hw
    rw [if_pos hw] at h
    unfold Oper.wp at *
    rw [execOp_put p hsp a o.dst v h1]
    generalize (execOp a.eval p).run P w = r at *
    cases r with
    | ok n w' =>
      cases n <;> simp only [Oper.upon] at h ⊢
      case value u => exact ⟨h.1, by rw [Act.put_comm a v u h2]; exact keep a.defers u w' h.1 h.2⟩
      case skip => exact ⟨h.1, by rw [Act.put_comm a v undef h2]; exact keep a.defers undef w' h.1 h.2⟩
      case defer d =>
        refine ⟨h.1, ?_⟩
        rw [Act.put_defers, Act.put_comm _ v undef h2]
        exact keep _ undef w' h.1 h.2
      case enter f args =>
        refine Calls.mono h fun e w'' he => ?_
        cases e with
        | returned u => exact ⟨he.1, by rw [Act.put_comm a v u h2]; exact keep a.defers u w'' he.1 he.2⟩
        | panicked ch => exact he.elim
        | outgrown => obtain ⟨_, _, hq⟩ := he; exact hq.elim
      case row row args => exact Rows.mono h fun u w'' he => ⟨he.1, by rw [Act.put_comm a v u h2]; exact keep a.defers u w'' he.1 he.2⟩
    | halt x w' => cases x <;> simp only [Oper.upon] at h; exact h.elim
  · rename_i hw
    rw [if_neg hw] at h
    exact ⟨h.1, by rw [Act.put_comm a v undef h2]; exact keep a.defers undef w h.1 h.2⟩

/-- The loud one, p, goes ahead of the quiet one, o. -/
theorem quiet_loud {o p : Oper} (hap : o.apart ops p = true) (hso : ∀ cs b, o.op ≠ .select cs b) (hsp : ∀ cs b, p.op ≠ .select cs b) {K : Act → World → Prop} {a : Act} {w : World} {v : Value}
    (hv : Gives P ops S 0 o v a w) (h : Loud P ops S p K (a.put o.dst v) w) : Loud P ops S p (fun a' w' => ∃ v, Gives P ops S 0 o v a' w' ∧ K (a'.put o.dst v) w') a w := by
  obtain ⟨h1, h2, h3⟩ := Oper.apart_spec hap
  have keep : ∀ (ds : List Deferred) (u : Value) (w' : World), K ((({ a with defers := ds } : Act).put p.dst u).put o.dst v) w' →
      (∃ v', Gives P ops S 0 o v' (({ a with defers := ds } : Act).put p.dst u) w' ∧ K ((({ a with defers := ds } : Act).put p.dst u).put o.dst v') w') := by
    intro ds u w' hk
    refine ⟨v, ?_, hk⟩
    rw [gives_put hso h3, gives_defers]
    exact gives_world rfl hv
  unfold Loud at *
  rw [wanted_put p a o.dst v h1] at h
  split
  · rename_i hw
    rw [if_pos hw] at h
    unfold Oper.wp at *
    rw [execOp_put p hsp a o.dst v h1] at h
    generalize (execOp a.eval p).run P w = r at *
    cases r with
    | ok n w' =>
      cases n <;> simp only [Oper.upon] at h ⊢
      case value u => exact ⟨h.1, keep a.defers u w' (by have := h.2; rw [Act.put_comm a v u h2] at this; exact this)⟩
      case skip => exact ⟨h.1, keep a.defers undef w' (by have := h.2; rw [Act.put_comm a v undef h2] at this; exact this)⟩
      case defer d =>
        refine ⟨h.1, keep _ undef w' ?_⟩
        have := h.2
        rw [Act.put_defers, Act.put_comm _ v undef h2] at this
        exact this
      case enter f args =>
        refine Calls.mono h fun e w'' he => ?_
        cases e with
        | returned u => exact ⟨he.1, keep a.defers u w'' (by have := he.2; rw [Act.put_comm a v u h2] at this; exact this)⟩
        | panicked ch => exact he.elim
        | outgrown => obtain ⟨_, _, hq⟩ := he; exact hq.elim
      case row row args => exact Rows.mono h fun u w'' he => ⟨he.1, keep a.defers u w'' (by have := he.2; rw [Act.put_comm a v u h2] at this; exact this)⟩
    | halt x w' => cases x <;> simp only [Oper.upon] at h; exact h.elim
  · rename_i hw
    rw [if_neg hw] at h
    exact ⟨h.1, keep a.defers undef w (by have := h.2; rw [Act.put_comm a v undef h2] at this; exact this)⟩

/-- Which two may change places. -/
def mayPass (c d : Nat) : Bool := c == 0 || d == 0 || (decide (c ≤ 1) && decide (d ≤ 1))

theorem swap {c d : Nat} {o p : Oper} (hcd : mayPass c d = true) (hap : o.apart ops p = true) (hso : ∀ cs b, o.op ≠ .select cs b) (hsp : ∀ cs b, p.op ≠ .select cs b) {K : Act → World → Prop} {a : Act} {w : World}
    (h : stepMix P ops S d p (fun a' w' => stepMix P ops S c o K a' w') a w) : stepMix P ops S c o (fun a' w' => stepMix P ops S d p K a' w') a w := by
  obtain ⟨h1, h2, h3⟩ := Oper.apart_spec hap
  by_cases hd : d ≤ 1
  · by_cases hc : c ≤ 1
    · simp only [stepMix, if_pos hd, if_pos hc] at *
      obtain ⟨v, hv, u, hu, hk⟩ := h
      rw [gives_put hso h3] at hu
      refine ⟨u, hu, v, ?_, ?_⟩
      · rw [gives_put hsp h1]; exact hv
      · rw [Act.put_comm a u v h2]; exact hk
    · simp only [stepMix, if_pos hd, if_neg hc] at *
      have hd0 : d = 0 := by
        simp only [mayPass, Bool.or_eq_true, beq_iff_eq, Bool.and_eq_true, decide_eq_true_eq] at hcd
        omega
      subst hd0
      obtain ⟨v, hv, hl⟩ := h
      have hap' : p.apart ops o = true := by
        simp only [Oper.apart, Bool.and_eq_true] at hap ⊢
        refine ⟨?_, ?_⟩
        · cases hpd : p.dst with
          | none => rfl
          | some e =>
            simp only [Bool.and_eq_true, Bool.not_eq_true', bne_iff_ne, ne_eq]
            refine ⟨?_, fun he => h2 e he (by rw [hpd])⟩
            have := h3 e hpd
            simpa using this
        · cases hod : o.dst with
          | none => rfl
          | some e => have := h1 e hod; simpa using this
      exact quiet_loud hap' hsp hso hv hl
  · by_cases hc : c ≤ 1
    · simp only [stepMix, if_neg hd, if_pos hc] at *
      have hc0 : c = 0 := by
        simp only [mayPass, Bool.or_eq_true, beq_iff_eq, Bool.and_eq_true, decide_eq_true_eq] at hcd
        omega
      subst hc0
      exact loud_quiet hap hso hsp h
    · simp only [mayPass, Bool.or_eq_true, beq_iff_eq, Bool.and_eq_true, decide_eq_true_eq] at hcd
      omega

/-! ### The list of what is still to come -/

def mix (P : Program) (ops : Array Oper) (S : World → Prop) (Q : Exit → Act → World → Prop) (c : Nat → Nat) : List Nat → Act → World → Prop
  | [], a, w => Q .normal a w
  | i :: R, a, w => ∃ o, ops[i]? = some o ∧ stepMix P ops S (c i) o (mix P ops S Q c R) a w

/-- i may go ahead of j, which stands before it in the text. -/
def pairOk (ops : Array Oper) (c : Nat → Nat) (i j : Nat) : Bool :=
  match ops[i]?, ops[j]? with
  | some o, some p => mayPass (c i) (c j) && o.apart ops p
  | _, _ => false

theorem pull (c : Nat → Nat) (hsel : Region.noSelect ops = true) : ∀ (R : List Nat) (i : Nat) (a : Act) (w : World), R.Pairwise (· < ·) → i ∈ R → (∀ j ∈ R, j < i → pairOk ops c i j = true) →
    mix P ops S Q c R a w → ∃ o, ops[i]? = some o ∧ stepMix P ops S (c i) o (mix P ops S Q c (R.erase i)) a w := by
  intro R
  induction R with
  | nil => intro i a w _ hi; cases hi
  | cons j R ih =>
    intro i a w hs hi hp h
    by_cases hji : j = i
    · subst hji
      simp only [List.erase_cons_head]
      exact h
    · have hi' : i ∈ R := by
        rcases List.mem_cons.1 hi with e | e
        · exact absurd e.symm hji
        · exact e
      have hlt : j < i := (List.pairwise_cons.1 hs).1 i hi'
      have hpij := hp j (by simp) hlt
      obtain ⟨p, hpj, hst⟩ := h
      unfold pairOk at hpij
      rw [hpj] at hpij
      cases hoi : ops[i]? with
      | none => rw [hoi] at hpij; cases hpij
      | some o =>
        rw [hoi] at hpij
        simp only [Bool.and_eq_true] at hpij
        refine ⟨o, rfl, ?_⟩
        rw [List.erase_cons_tail (by simpa using hji)]
        have h2 := step_mono (K' := fun a' w' => stepMix P ops S (c i) o (mix P ops S Q c (R.erase i)) a' w') (fun a' w' hm => by
          obtain ⟨o', ho', hst'⟩ := ih i a' w' (List.pairwise_cons.1 hs).2 hi' (fun k hk => hp k (by simp [hk])) hm
          rw [hoi] at ho'
          cases ho'
          exact hst') hst
        refine step_mono (fun a' w' hm => ⟨p, hpj, hm⟩) (swap hpij.1 hpij.2 (fun cs b => Region.noSelect_spec hsel i o cs b hoi) (fun cs b => Region.noSelect_spec hsel j p cs b hpj) h2)

theorem stepMix_wpOp {c : Nat} {i : Nat} {o : Oper} (ho : ops[i]? = some o) {K : Act → World → Prop} {a : Act} {w : World} (hS : S w) (h : stepMix P ops S c o K a w) : wpOp P ops Q i (fun a' w' => S w' ∧ K a' w') a w := by
  unfold stepMix at h
  unfold wpOp
  simp only [ho]
  split at h
  · obtain ⟨v, hv, hk⟩ := h
    rcases hv with ⟨h1, h2⟩ | ⟨h1, rfl⟩
    · rw [if_pos h1]
      refine .inl ?_
      unfold Oper.wp
      rw [h2 w (by split <;> first | exact hS | rfl)]
      exact ⟨hS, hk⟩
    · rw [if_neg (by simp [h1])]
      exact ⟨hS, hk⟩
  · unfold Loud at h
    split at h
    · rename_i hw
      rw [if_pos hw]
      exact .inl (Oper.wp_post (fun _ _ h => h) h)
    · rename_i hw
      rw [if_neg hw]
      exact h

/-! ### What an operation waits for, at whatever remove -/

inductive Anc (ops : Array Oper) : Nat → Nat → Prop where
  | near {i : Nat} {o : Oper} {e : Edge} : ops[i]? = some o → e ∈ o.after → Region.binds .any e = true → Anc ops i e.on
  | far {i j : Nat} {o : Oper} {e : Edge} : ops[i]? = some o → e ∈ o.after → Region.binds .any e = true → Anc ops e.on j → Anc ops i j

def Closed (ops : Array Oper) (listed : Array Bool) : Prop :=
  ∀ j oj, ops[j]? = some oj → listed.getD j false = true → ∀ e ∈ oj.after, Region.binds .any e = true → listed.getD e.on false = true

theorem Anc.listed {listed : Array Bool} (hc : Closed ops listed) {i j : Nat} (h : Anc ops i j) : (∀ o, ops[i]? = some o → ∀ e ∈ o.after, Region.binds .any e = true → listed.getD e.on false = true) → listed.getD j false = true := by
  induction h with
  | near ho he hb => exact fun h => h _ ho _ he hb
  | far ho he hb _ ih =>
    intro h
    refine ih fun o' ho' e' he' hb' => ?_
    exact hc _ o' ho' (h _ ho _ he hb) e' he' hb'

def maskOf (acc : Array Nat) (es : List Edge) : Nat := es.foldl (fun s e => if Region.binds .any e then s ||| 2 ^ e.on ||| acc.getD e.on 0 else s) 0

def masks : List Oper → Array Nat → Array Nat
  | [], acc => acc
  | o :: rest, acc => masks rest (acc.push (maskOf acc o.after.toList))

theorem maskOf_bit (acc : Array Nat) (j : Nat) : ∀ (es : List Edge) (s : Nat), (es.foldl (fun s e => if Region.binds .any e then s ||| 2 ^ e.on ||| acc.getD e.on 0 else s) s).testBit j = true →
    s.testBit j = true ∨ ∃ e ∈ es, Region.binds .any e = true ∧ (e.on = j ∨ (acc.getD e.on 0).testBit j = true) := by
  intro es
  induction es with
  | nil => intro s h; exact .inl h
  | cons e es ih =>
    intro s h
    simp only [List.foldl_cons] at h
    rcases ih _ h with h1 | ⟨e', he', h2⟩
    · split at h1
      · rename_i hb
        rw [Nat.testBit_or, Nat.testBit_or, Nat.testBit_two_pow, Bool.or_eq_true, Bool.or_eq_true, decide_eq_true_eq] at h1
        rcases h1 with (h1 | h1) | h1
        · exact .inl h1
        · exact .inr ⟨e, by simp, hb, .inl h1⟩
        · exact .inr ⟨e, by simp, hb, .inr h1⟩
      · exact .inl h1
    · exact .inr ⟨e', by simp [he'], h2⟩

theorem masks_anc : ∀ (rest pre : List Oper) (acc : Array Nat), ops.toList = pre ++ rest → acc.size = pre.length → (∀ k j, (acc.getD k 0).testBit j = true → Anc ops k j) →
    ∀ k j, ((masks rest acc).getD k 0).testBit j = true → Anc ops k j := by
  intro rest
  induction rest with
  | nil => intro pre acc _ _ h; exact h
  | cons o rest ih =>
    intro pre acc he hs h
    refine ih (pre ++ [o]) _ (by rw [he]; simp) (by simp [hs]) fun k j hb => ?_
    have hget : ops[acc.size]? = some o := by
      rw [← Array.getElem?_toList, he, hs]
      simp
    by_cases hk : k = acc.size
    · subst hk
      have hm : ((acc.push (maskOf acc o.after.toList)).getD acc.size 0) = maskOf acc o.after.toList := by simp
      rw [hm] at hb
      rcases maskOf_bit acc j _ _ hb with h0 | ⟨e, he', hbe, h1⟩
      · simp at h0
      · have hem : e ∈ o.after := by simpa using he'
        rcases h1 with h1 | h1
        · subst h1; exact .near hget hem hbe
        · exact .far hget hem hbe (h _ _ h1)
    · have hm : ((acc.push (maskOf acc o.after.toList)).getD k 0) = acc.getD k 0 := by
        simp only [Array.getD_eq_getD_getElem?, Array.getElem?_push, if_neg hk]
      rw [hm] at hb
      exact h k j hb

/-- THE CHECK, asked once of a region: whatever is not ordered by the edges may change places. -/
def okRegion (ops : Array Oper) (c : Nat → Nat) : Bool :=
  let m := masks ops.toList #[]
  Region.noSelect ops &&
  (List.range ops.size).all fun i =>
    ((ops[i]?).map fun o => o.after.toList.all fun e => !Region.binds .any e || decide (e.on < i)).getD false &&
    (List.range i).all fun j => (m.getD i 0).testBit j || pairOk ops c i j

theorem okRegion_spec {c : Nat → Nat} (h : okRegion ops c = true) : Region.noSelect ops = true ∧ (∀ i o, ops[i]? = some o → ∀ e ∈ o.after, Region.binds .any e = true → e.on < i) ∧
    ∀ i j, i < ops.size → j < i → Anc ops i j ∨ pairOk ops c i j = true := by
  simp only [okRegion, Bool.and_eq_true, List.all_eq_true, List.mem_range] at h
  obtain ⟨h1, h2⟩ := h
  refine ⟨h1, fun i o ho e he hb => ?_, fun i j hi hj => ?_⟩
  · have := (h2 i (Array.getElem?_eq_some_iff.1 ho).1).1
    rw [ho] at this
    simp only [Option.map_some, Option.getD_some, List.all_eq_true, Bool.or_eq_true, Bool.not_eq_true', decide_eq_true_eq] at this
    rcases this e (by simpa using he) with h | h
    · rw [hb] at h; cases h
    · exact h
  · have := (h2 i hi).2 j hj
    rw [Bool.or_eq_true] at this
    rcases this with h | h
    · exact .inl (masks_anc ops.toList [] #[] (by simp) (by simp) (fun k j h => by simp at h) i j h)
    · exact .inr h

theorem mix_sound {c : Nat → Nat} (hok : okRegion ops c = true) : ∀ (fuel : Nat) (R : List Nat) (listed : Array Bool) (a : Act) (w : World), R.length ≤ fuel → R.Pairwise (· < ·) → listed.size = ops.size →
    (∀ k, k ∈ R ↔ k < ops.size ∧ listed.getD k false = false) → Closed ops listed → S w → mix P ops S Q c R a w → wpAny P .any ops Q fuel listed a w := by
  obtain ⟨hsel, hdep, hpair⟩ := okRegion_spec hok
  have hgd : ∀ (listed : Array Bool) (k : Nat), listed.size = ops.size → k < ops.size → listed.getD k true = listed.getD k false := by
    intro l k hs hk
    have : k < l.size := by omega
    simp [this]
  intro fuel
  induction fuel with
  | zero =>
    intro R listed a w hf _ hs hR _ _ h
    have : R = [] := List.eq_nil_of_length_eq_zero (by omega)
    subst this
    refine ⟨?_, h⟩
    cases hr : Region.ready .any ops listed with
    | nil => rfl
    | cons x xs =>
      have hx : x ∈ Region.ready .any ops listed := by rw [hr]; simp
      obtain ⟨hx1, o, ho, _⟩ := mem_ready.1 hx
      have hlt := (Array.getElem?_eq_some_iff.1 ho).1
      rw [hgd _ _ hs hlt] at hx1
      have := (hR x).2 ⟨hlt, hx1⟩
      cases this
  | succ fuel ih =>
    intro R listed a w hf hsort hs hR hcl hS h
    refine ⟨fun hr => ?_, fun i hi => ?_⟩
    · cases R with
      | nil => exact h
      | cons r R =>
        exfalso
        obtain ⟨hlt, hun⟩ := (hR r).1 (by simp)
        have hro : ops[r]? = some ops[r] := Array.getElem?_eq_getElem hlt
        have hmem : r ∈ Region.ready .any ops listed := by
          rw [mem_ready]
          refine ⟨by rw [hgd _ _ hs hlt]; exact hun, ops[r], hro, fun e he hb => ?_⟩
          have hlt2 := hdep r _ hro e he hb
          cases hl : listed.getD e.on false with
          | true => rfl
          | false =>
            have hin := (hR e.on).2 ⟨by omega, hl⟩
            rcases List.mem_cons.1 hin with h1 | h1
            · omega
            · have := (List.pairwise_cons.1 hsort).1 _ h1; omega
        rw [hr] at hmem
        cases hmem
    · obtain ⟨hi1, o, ho, hall⟩ := mem_ready.1 hi
      have hlt := (Array.getElem?_eq_some_iff.1 ho).1
      rw [hgd _ _ hs hlt] at hi1
      have hiR : i ∈ R := (hR i).2 ⟨hlt, hi1⟩
      obtain ⟨o', ho', hst⟩ := pull c hsel R i a w hsort hiR (fun j hj hji => by
        rcases hpair i j hlt hji with h1 | h1
        · exfalso
          have h2 := h1.listed hcl (fun o' ho' e he hb => by
            rw [ho] at ho'
            cases ho'
            exact hall e he hb)
          rw [((hR j).1 hj).2] at h2
          cases h2
        · exact h1) h
      refine wpOp_mono (fun a' w' ⟨hS', hm⟩ => ?_) (stepMix_wpOp ho' hS hst)
      have hnd : R.Nodup := hsort.imp (fun h => Nat.ne_of_lt h)
      refine ih (R.erase i) _ a' w' ?_ (hsort.sublist List.erase_sublist) (by simp [hs]) (fun k => ?_) (fun j oj hj hl e he hb => ?_) hS' hm
      · rw [List.length_erase_of_mem hiR]; omega
      · rw [hnd.mem_erase_iff, hR k]
        by_cases hki : k = i
        · subst hki
          have : k < listed.size := by omega
          simp [this]
        · rw [getD_set_ne false (Ne.symm hki)]
          exact ⟨fun h => h.2, fun h => ⟨hki, h⟩⟩
      · by_cases hji : i = j
        · subst hji
          rw [ho] at hj
          cases hj
          exact getD_set_true (hall e he hb)
        · rw [getD_set_ne false hji] at hl
          exact getD_set_true (hcl j oj hj hl e he hb)

/-- THE RULE. A region that draws its order is walked in the order of the text. -/
theorem wp_region_mix {id : Nat} {a : Act} {w : World} (S : World → Prop) (c : Nat → Nat) (hm : P.follows .mixedOrders = true) (hok : okRegion ops c = true) (hS : S w.drew)
    (h : mix P ops S Q c (List.range ops.size) a w.drew) : (Code.region id ops true).wp P Q a w := by
  refine wp_region_any hm ?_
  refine mix_sound (S := S) hok ops.size (List.range ops.size) _ a _ (by simp) (List.pairwise_lt_range) (by simp) (fun k => ?_) (fun j oj hj hl => ?_) hS h
  · rw [List.mem_range]
    constructor
    · intro hk; exact ⟨hk, by simp [hk]⟩
    · exact fun h => h.1
  · exfalso
    have : j < ops.size := (Array.getElem?_eq_some_iff.1 hj).1
    simp [this] at hl

end
end Go.Mix

/- A region that draws its order, walked as a plain list in the order of the text: what only computes does so in every world alike. -/
namespace Go.Mix
open Go

/-- What s yields hangs on no world, and turns none. -/
def Ind (P : Program) {α : Type} (s : Sem α) : Prop := ∀ w1 n w', s.run P w1 = .ok n w' → w' = w1 ∧ ∀ w2, s.run P w2 = .ok n w2

section
variable {P : Program} {α β : Type}

theorem Ind.pure (x : α) : Ind P (Pure.pure x : Sem α) := by
  intro w1 n w' h
  simp [Pure.pure] at h ⊢
  obtain ⟨rfl, rfl⟩ := h
  exact ⟨rfl, rfl⟩

theorem Ind.halt (x : Halt) : Ind P (.halt x : Sem α) := by
  intro w1 n w' h
  simp [Sem.run] at h

theorem Ind.stuck (x : String) : Ind P (Go.stuck x : Sem α) := Ind.halt _
theorem Ind.unsupported (x : Unsupported) : Ind P (Go.unsupported x : Sem α) := Ind.halt _

theorem Ind.bind {s : Sem α} {f : α → Sem β} (h1 : Ind P s) (h2 : ∀ a, Ind P (f a)) : Ind P (s >>= f) := by
  intro w1 n w' h
  rw [Sem.run_bind] at h
  cases hr : s.run P w1 with
  | ok a w'' =>
    rw [hr] at h
    obtain ⟨rfl, h3⟩ := h1 _ _ _ hr
    obtain ⟨rfl, h4⟩ := h2 a _ _ _ h
    refine ⟨rfl, fun w2 => ?_⟩
    rw [Sem.run_bind, h3 w2]
    exact h4 w2
  | halt x w'' => rw [hr] at h; cases h

theorem Ind.program : Ind P Go.program := by
  intro w1 n w' h
  simp [Go.program, Sem.run] at h ⊢
  obtain ⟨rfl, rfl⟩ := h
  exact ⟨rfl, rfl⟩

theorem Ind.never {s : Sem α} (h : ∀ w, ∃ x w', s.run P w = .halt x w') : Ind P s := by
  intro w1 n w' hr
  obtain ⟨x, w2, h2⟩ := h w1
  rw [h2] at hr; cases hr

theorem Ind.nilDeref : Ind P (Go.runtimePanic .nilDeref : Sem α) := by
  unfold Go.runtimePanic
  exact Ind.bind Ind.program fun p => Ind.halt _

theorem Ind.panicError (m : String) : Ind P (Go.runtimePanic (.error m) : Sem α) := by
  unfold Go.runtimePanic
  exact Ind.bind Ind.program fun p => Ind.halt _

theorem Ind.boundsPanic (k : IntKind) (x y : Int) (c : BoundsCode) : Ind P (Go.boundsPanic k x y c : Sem α) :=
  Ind.never fun w => by obtain ⟨s, w', h⟩ := run_boundsPanic (α := α) (P := P) (w := w) k x y c; exact ⟨_, _, h⟩

theorem Ind.typeInfo (t : TypeId) : Ind P (Go.typeInfo t) := by
  unfold Go.typeInfo
  refine Ind.bind Ind.program fun p => ?_
  split <;> first | exact Ind.pure _ | exact Ind.halt _

theorem Ind.underlying (t : TypeId) : Ind P (Go.underlying t) := by
  unfold Go.underlying
  refine Ind.bind Ind.program fun p => ?_
  split <;> first | exact Ind.pure _ | exact Ind.halt _

theorem Ind.sizeOf (t : TypeId) : Ind P (Go.sizeOf t) := Ind.bind (Ind.typeInfo t) fun _ => Ind.pure _

theorem Ind.isAgg (t : TypeId) : Ind P (Go.isAgg t) := by
  refine Ind.bind (Ind.underlying t) fun d => ?_
  split <;> exact Ind.pure _

theorem Ind.part (t : TypeId) (cs : Array Value) (o : Nat) : Ind P (Go.part t cs o) := by
  refine Ind.bind (Ind.isAgg t) fun b => ?_
  split
  · exact Ind.bind (Ind.sizeOf t) fun _ => Ind.pure _
  · split <;> first | exact Ind.pure _ | exact Ind.halt _

theorem Ind.asIntOf (v : Value) : Ind P (Go.asIntOf v) := by
  unfold Go.asIntOf; split <;> first | exact Ind.pure _ | exact Ind.halt _
theorem Ind.asBool (v : Value) : Ind P (Go.asBool v) := by
  unfold Go.asBool; split <;> first | exact Ind.pure _ | exact Ind.halt _
theorem Ind.asAgg (v : Value) : Ind P (Go.asAgg v) := by
  unfold Go.asAgg; split <;> first | exact Ind.pure _ | exact Ind.halt _
theorem Ind.asAddr (v : Value) : Ind P (Go.asAddr v) := by
  unfold Go.asAddr; split <;> first | exact Ind.pure _ | exact Ind.nilDeref | exact Ind.halt _
theorem Ind.sureAddr (v : Value) : Ind P (Instr.sureAddr v) := by
  unfold Instr.sureAddr; split <;> first | exact Ind.pure _ | exact Ind.halt _

theorem Ind.field (t : TypeId) (x : Value) (f : Nat) : Ind P (Instr.field t x f) := by
  refine Ind.bind (Ind.underlying t) fun d => ?_
  split
  · split
    · exact Ind.bind (Ind.asAgg _) fun _ => Ind.part _ _ _
    · exact Ind.halt _
  · exact Ind.halt _

theorem Ind.index (t : TypeId) (x i : Value) : Ind P (Instr.index t x i) := by
  refine Ind.bind (Ind.asIntOf i) fun ⟨k, n⟩ => ?_
  refine Ind.bind (Ind.underlying t) fun d => ?_
  split
  · split
    · exact Ind.bind (Ind.sizeOf _) fun _ => Ind.part _ _ _
    · exact Ind.boundsPanic _ _ _ _
  · split <;> first | exact Ind.pure _ | exact Ind.boundsPanic _ _ _ _
  · exact Ind.halt _

theorem Ind.indexAt (t : TypeId) (x i : Value) : Ind P (Instr.indexAt t x i) := by
  unfold Instr.indexAt
  repeat' (first | exact Ind.pure _ | exact Ind.halt _ | exact Ind.boundsPanic _ _ _ _ | exact Ind.asIntOf _ | exact Ind.underlying _ | exact Ind.sizeOf _ | exact Ind.sureAddr _ | refine Ind.bind ?_ fun _ => ?_ | split | dsimp only)

theorem Ind.sliceBound (x : Value) (y : Nat) (c : BoundsCode) : Ind P (Instr.sliceBound x y c) := by
  refine Ind.bind (Ind.asIntOf x) fun ⟨k, n⟩ => ?_
  dsimp only
  split
  · exact Ind.pure _
  · exact Ind.boundsPanic _ _ _ _

theorem Ind.sliceBounds (b : Bool) (n c : Nat) (l h m : Option Value) : Ind P (Instr.sliceBounds b n c l h m) := by
  unfold Instr.sliceBounds
  cases m <;> cases h <;> cases l <;> dsimp only
  all_goals (repeat' (first | exact Ind.pure _ | exact Ind.halt _ | exact Ind.sliceBound _ _ _ | exact Ind.underlying _ | exact Ind.sizeOf _ | exact Ind.asAddr _ | exact Ind.sureAddr _ | refine Ind.bind ?_ fun _ => ?_ | split | dsimp only))

theorem Ind.slice (t : TypeId) (x : Value) (l h m : Option Value) : Ind P (Instr.slice t x l h m) := by
  unfold Instr.slice
  repeat' (first | exact Ind.pure _ | exact Ind.halt _ | exact Ind.sliceBound _ _ _ | exact Ind.sliceBounds _ _ _ _ _ _ | exact Ind.underlying _ | exact Ind.sizeOf _ | exact Ind.asAddr _ | exact Ind.sureAddr _ | refine Ind.bind ?_ fun _ => ?_ | split | dsimp only)

theorem Ind.sliceAt (t : TypeId) (x : Value) (l h m : Option Value) : Ind P (Instr.sliceAt t x l h m) := by
  unfold Instr.sliceAt
  repeat' (first | exact Ind.pure _ | exact Ind.halt _ | exact Ind.sliceBound _ _ _ | exact Ind.sliceBounds _ _ _ _ _ _ | exact Ind.underlying _ | exact Ind.sizeOf _ | exact Ind.asAddr _ | exact Ind.sureAddr _ | exact Ind.slice _ _ _ _ _ | refine Ind.bind ?_ fun _ => ?_ | split | dsimp only)

theorem Ind.extract (t : Value) (i : Nat) : Ind P (Instr.extract t i) := by
  unfold Instr.extract
  split
  · split <;> first | exact Ind.pure _ | exact Ind.halt _
  · exact Ind.halt _

theorem Ind.makeInterface (t : TypeId) (x : Value) : Ind P (Instr.makeInterface t x) := by
  refine Ind.bind (Ind.underlying t) fun d => ?_
  split <;> first | exact Ind.pure _ | exact Ind.halt _

theorem Ind.foldlM {α β : Type} {f : β → α → Sem β} (hf : ∀ b a, Ind P (f b a)) : ∀ (l : List α) (b : β), Ind P (l.foldlM f b)
  | [], b => Ind.pure b
  | a :: l, b => by
    rw [List.foldlM_cons]
    exact Ind.bind (hf b a) fun _ => Ind.foldlM hf l _

theorem Ind.mapM {α β : Type} {f : α → Sem β} (hf : ∀ a, Ind P (f a)) (xs : Array α) : Ind P (Array.mapM f xs) := by
  rw [Array.mapM_eq_foldlM, ← Array.foldlM_toList]
  exact Ind.foldlM (fun b a => Ind.bind (hf a) fun _ => Ind.pure _) _ _

theorem Ind.zeroValue (t : TypeId) : Ind P (Go.zeroValue t) := by
  unfold Go.zeroValue
  repeat' (first | exact Ind.pure _ | exact Ind.halt _ | exact Ind.typeInfo _ | exact Ind.underlying _ | refine Ind.bind ?_ fun _ => ?_ | split | dsimp only)

theorem Ind.build (t : TypeId) (ps : Array (Nat × Value)) : Ind P (Instr.build t ps) := by
  unfold Instr.build
  refine Ind.bind (Ind.zeroValue _) fun _ => ?_
  dsimp only
  refine Ind.bind (Ind.underlying _) fun _ => ?_
  split
  · refine Ind.bind (Ind.mapM (fun f => Ind.bind (Ind.sizeOf _) fun _ => Ind.pure _) _) fun _ => ?_
    split <;> first | exact Ind.pure _ | exact Ind.halt _
  · refine Ind.bind (Ind.sizeOf _) fun _ => ?_
    split <;> first | exact Ind.pure _ | exact Ind.halt _
  · exact Ind.halt _

/-- The field takes room. -/
def fieldBig (P : Program) (s : TypeId) (f : Nat) : Bool :=
  match P.underlying s with
  | some (.struct fs) => match fs[f]? with
    | some fd => match P.info? fd.type with
      | some i => i.size != 0
      | none => false
    | none => false
  | _ => false

theorem Ind.fieldAt (s : TypeId) (x : Value) (f : Nat) (hb : fieldBig P s f = true) : Ind P (Instr.fieldAt s x f) := by
  intro w1 n w' h
  unfold fieldBig at hb
  cases hu : P.underlying s with
  | none => rw [hu] at hb; cases hb
  | some d =>
    rw [hu] at hb
    cases d with
    | struct fs =>
      dsimp only at hb
      cases hf : fs[f]? with
      | none => rw [hf] at hb; cases hb
      | some fd =>
        rw [hf] at hb
        dsimp only at hb
        cases hi : P.info? fd.type with
        | none => rw [hi] at hb; cases hb
        | some i =>
          rw [hi] at hb
          have hne : i.size ≠ 0 := by simpa using hb
          have key : ∀ w, (Instr.fieldAt s x f).run P w = ((Instr.sureAddr x).run P w).andThen fun a w => .ok (.pointer (some (a.add fd.offset))) w := by
            intro w
            unfold Instr.fieldAt
            rw [Sem.run_bind]
            have e1 : (Go.underlying s).run P w = .ok (.struct fs) w := by simp [Go.underlying, Go.program, Sem.run_bind, Sem.run, hu, Pure.pure]
            rw [e1]
            simp only [Result.andThen_ok, hf]
            rw [Sem.run_bind]
            congr 1
            funext a w'
            simp [Pure.pure, Sem.run, fieldPlace, Go.sizeOf, Go.typeInfo, Go.program, Sem.run_bind, hi, hne]
          rw [key] at h
          cases hr : (Instr.sureAddr x).run P w1 with
          | ok a w'' =>
            rw [hr] at h
            simp only [Result.andThen_ok, Result.ok.injEq] at h
            obtain ⟨rfl, rfl⟩ := h
            obtain ⟨rfl, h3⟩ := Ind.sureAddr x _ _ _ hr
            exact ⟨rfl, fun w2 => by rw [key, h3 w2]; rfl⟩
          | halt y w'' => rw [hr] at h; cases h
    | _ => cases hb

def pairOf : Value → Value → Bool
  | .int _ _, .int _ _ => true
  | .string _, .string _ => true
  | .bool _, .bool _ => true
  | _, _ => false

theorem Ind.ofInt (op : BinOp) (t : TypeId) (k k' : IntKind) (a b : Int) : Ind P (binOp op t (.int k a) (.int k' b)) := by
  cases op <;> simp only [binOp] <;> (try split) <;>
    first
    | exact Ind.halt _
    | (unfold Op.shift; split <;> first | exact Ind.panicError _ | exact Ind.pure _)
    | (unfold Op.intArith; exact Ind.pure _)
    | (unfold Op.intDiv; split <;> first | exact Ind.panicError _ | exact Ind.pure _)
    | (unfold Op.intBits; exact Ind.pure _)
    | (unfold Op.intCmp; exact Ind.pure _)

theorem Ind.ofString (op : BinOp) (t : TypeId) (a b : ByteArray) : Ind P (binOp op t (.string a) (.string b)) := by
  cases op <;> simp only [binOp] <;> unfold Op.stringOp <;> dsimp only <;> (try split) <;> first | exact Ind.pure _ | exact Ind.halt _

theorem Ind.ofBool (op : BinOp) (t : TypeId) (a b : Bool) : Ind P (binOp op t (.bool a) (.bool b)) := by
  have he : Ind P (Op.equal t (.bool a) (.bool b)) := by
    unfold Op.equal Op.maxDepth
    unfold Op.equalIn
    refine Ind.bind (Ind.underlying t) fun d => ?_
    cases d <;> first | exact Ind.pure _ | exact Ind.halt _
  cases op <;> simp only [binOp] <;> first | exact Ind.halt _ | exact Ind.bind he fun _ => Ind.pure _

theorem Ind.eqGuard (op : BinOp) (t : TypeId) (x y : Operand) (a b : Value) (h : pairOf a b = true) : Ind P (eqGuard op t x y a b) := by
  unfold Go.eqGuard
  cases a <;> cases b <;> simp only [pairOf] at h <;> first | cases h | skip
  all_goals
    dsimp only
    split <;> exact Ind.pure _

theorem Ind.binOp (op : BinOp) (t : TypeId) (a b : Value) (h : pairOf a b = true) : Ind P (binOp op t a b) := by
  cases a <;> cases b <;> simp only [pairOf] at h <;> first | exact Ind.ofInt _ _ _ _ _ _ | exact Ind.ofString _ _ _ _ | exact Ind.ofBool _ _ _ _ | cases h

def plainV : Value → Bool
  | .int _ _ | .bool _ => true
  | _ => false

theorem Ind.unary (op : UnOp) (a : Value) (h : plainV a = true) : Ind P (Op.unary op a) := by
  cases a <;> simp only [plainV] at h <;> first | cases h | skip
  all_goals
    cases op <;> simp only [Op.unary] <;>
      first
      | exact Ind.pure _
      | exact Ind.halt _
      | (unfold Op.intArith; exact Ind.pure _)
      | (unfold Op.intBits; exact Ind.pure _)

end
end Go.Mix

/- The kinds of operations that only compute, or only read. -/
namespace Go.Mix
open Go

/-! ### The kinds of operations -/

def intV : Value → Bool
  | .int _ _ => true
  | _ => false
def lenV : Value → Bool
  | .slice _ _ _ | .string _ => true
  | _ => false
def noFunc : Value → Bool
  | .func _ _ _ => false
  | _ => true

/-- In frame a, o only computes. -/
def pureOp (P : Program) (a : Act) (o : Oper) : Bool :=
  match o.op with
  | .move _ | .assign _ | .extract _ _ | .pick _ _ _ | .field _ _ _ | .indexAddr _ _ _ | .index _ _ _ | .slice _ _ _ _ _ | .makeInterface _ _ | .build _ _ => true
  | .nilCheck x => noFunc (a.eval x)
  | .binOp _ _ x y _ => pairOf (a.eval x) (a.eval y)
  | .unOp _ _ x => plainV (a.eval x)
  | .fieldAddr s _ f => fieldBig P s f
  | .call { callee := .builtin .len, args, .. } => match args.toList with | [x] => lenV (a.eval x) | _ => false
  | .call { callee := .builtin .min, args, .. } => args.toList.all fun x => intV (a.eval x)
  | .call { callee := .builtin .max, args, .. } => args.toList.all fun x => intV (a.eval x)
  | _ => false

/-- 0: it only computes (pureOp says whether, in a frame); 1: a load; 2: all else. -/
def clsOf (o : Oper) : Nat :=
  match o.op with
  | .move _ | .assign _ | .extract _ _ | .pick _ _ _ | .field _ _ _ | .indexAddr _ _ _ | .index _ _ _ | .slice _ _ _ _ _ | .makeInterface _ _ | .build _ _ | .nilCheck _ | .binOp _ _ _ _ _ | .unOp _ _ _ | .fieldAddr _ _ _
  | .call { callee := .builtin .len, .. } | .call { callee := .builtin .min, .. } | .call { callee := .builtin .max, .. } => 0
  | .load _ _ => 1
  | _ => 2

section
variable {P : Program}

/-- s hands back a value, the same in every world, and turns none. -/
def IndV (P : Program) (s : Sem Next) : Prop := ∀ w1 n w', s.run P w1 = .ok n w' → w' = w1 ∧ ∃ v, n = .value v ∧ ∀ w2, s.run P w2 = .ok (.value v) w2

theorem IndV.val {s : Sem Value} (h : Ind P s) : IndV P (do pure (.value (← s))) := by
  intro w1 n w' hr
  rw [Sem.run_bind] at hr
  cases hs : s.run P w1 with
  | ok v w'' =>
    rw [hs] at hr
    obtain ⟨rfl, h2⟩ := h _ _ _ hs
    simp [Pure.pure] at hr
    obtain ⟨rfl, rfl⟩ := hr
    exact ⟨rfl, v, rfl, fun w2 => by rw [Sem.run_bind, h2 w2]; rfl⟩
  | halt x w'' => rw [hs] at hr; cases hr

theorem IndV.pure (v : Value) : IndV P (Pure.pure (.value v)) := by
  intro w1 n w' hr
  simp [Pure.pure] at hr
  obtain ⟨rfl, rfl⟩ := hr
  exact ⟨rfl, v, rfl, fun w2 => rfl⟩

theorem IndV.none {s : Sem Next} (h : ∀ w, ∃ x w', s.run P w = .halt x w') : IndV P s := by
  intro w1 n w' hr
  obtain ⟨x, w2, h2⟩ := h w1
  rw [h2] at hr; cases hr

theorem fold_pure (f : Value → Value → Sem Value) (h : ∀ x y, intV x = true → intV y = true → ∃ z, intV z = true ∧ f x y = Pure.pure z) : ∀ (l : List Value) (x : Value), intV x = true → l.all intV = true → ∃ z, l.foldlM f x = Pure.pure z := by
  intro l
  induction l with
  | nil => intro x _ _; exact ⟨x, rfl⟩
  | cons y l ih =>
    intro x hx hl
    simp only [List.all_cons, Bool.and_eq_true] at hl
    obtain ⟨z, hz, he⟩ := h x y hx hl.1
    obtain ⟨z', hz'⟩ := ih z hz hl.2
    refine ⟨z', ?_⟩
    rw [List.foldlM_cons, he, ← hz']
    rfl

theorem min2_int (x y : Value) (hx : intV x = true) (hy : intV y = true) : ∃ z, intV z = true ∧ Builtin.min2 x y = Pure.pure z := by
  cases x <;> simp only [intV] at hx <;> first | cases hx | skip
  cases y <;> simp only [intV] at hy <;> first | cases hy | skip
  exact ⟨_, by rfl, rfl⟩

theorem max2_int (x y : Value) (hx : intV x = true) (hy : intV y = true) : ∃ z, intV z = true ∧ Builtin.max2 x y = Pure.pure z := by
  cases x <;> simp only [intV] at hx <;> first | cases hx | skip
  cases y <;> simp only [intV] at hy <;> first | cases hy | skip
  exact ⟨_, by rfl, rfl⟩

theorem len_ind (ats : Array TypeId) (type : TypeId) (v : Value) (h : lenV v = true) : Ind P (Builtin.len_ ats type #[v]) := by
  unfold Builtin.len_
  cases hat : ats[0]? with
  | none => exact Ind.halt _
  | some t =>
    show Ind P (Go.underlying t >>= _)
    refine Ind.bind (Ind.underlying t) fun d => ?_
    cases v <;> simp only [lenV] at h <;> first | cases h | skip
    all_goals
      cases d <;> first | exact Ind.pure _ | exact Ind.halt _ | (refine Ind.bind (Ind.underlying _) fun e => ?_; cases e <;> first | exact Ind.pure _ | exact Ind.halt _)

theorem pure_ind {a : Act} {o : Oper} (h : pureOp P a o = true) : IndV P (execOp a.eval o) := by
  obtain ⟨dst, op, type, pos, after, guard⟩ := o
  unfold pureOp at h
  unfold execOp
  dsimp only at h ⊢
  split at h
  · exact IndV.pure _
  · exact IndV.pure _
  · exact IndV.val (Ind.extract _ _)
  · rename_i c x y
    intro w1 n w' hr
    dsimp only at hr ⊢
    cases hb : a.eval c <;> rw [hb] at hr <;> simp [Go.asBool, Go.stuck, Sem.run, Sem.run_bind, Pure.pure] at hr
    obtain ⟨rfl, rfl⟩ := hr
    exact ⟨rfl, _, rfl, fun w2 => by simp [Go.asBool, Sem.run, Pure.pure]⟩
  · exact IndV.val (Ind.field _ _ _)
  · exact IndV.val (Ind.indexAt _ _ _)
  · exact IndV.val (Ind.index _ _ _)
  · exact IndV.val (Ind.sliceAt _ _ _ _ _)
  · exact IndV.val (Ind.makeInterface _ _)
  · exact IndV.val (Ind.build _ _)
  · rename_i x
    dsimp only
    cases hx : a.eval x with
    | func fn fi ca => rw [hx] at h; cases h
    | pointer p =>
      cases p with
      | none => exact IndV.none fun w => ⟨_, _, by simp [runtimePanic, goPanic, Go.program, Sem.run, Sem.run_bind]; exact ⟨rfl, rfl⟩⟩
      | some p => exact IndV.pure _
    | nilIface => exact IndV.none fun w => ⟨_, _, by simp [runtimePanic, goPanic, Go.program, Sem.run, Sem.run_bind]; exact ⟨rfl, rfl⟩⟩
    | nilFunc => exact IndV.none fun w => ⟨_, _, by simp [runtimePanic, goPanic, Go.program, Sem.run, Sem.run_bind]; exact ⟨rfl, rfl⟩⟩
    | _ => exact IndV.pure _
  · exact IndV.val (Ind.bind (Ind.eqGuard _ _ _ _ _ _ h) fun _ => Ind.binOp _ _ _ _ h)
  · exact IndV.val (Ind.unary _ _ h)
  · exact IndV.val (Ind.fieldAt _ _ _ h)
  · rename_i args ats
    intro w1 n w' hr
    split at h
    · rename_i x hx
      have hargs : args = #[x] := by cases args; simp at hx; subst hx; rfl
      subst hargs
      have : IndV P (do pure (.value (← Builtin.len_ ats type ((#[x] : Array Operand).map a.eval)))) := by
        refine IndV.val ?_
        rw [show (#[x] : Array Operand).map a.eval = #[a.eval x] by simp]
        exact len_ind _ _ _ h
      exact this w1 n w' hr
    · cases h
  · rename_i args ats
    intro w1 n w' hr
    have : IndV P (do pure (.value (← Builtin.min_ ats type (args.map a.eval)))) := by
      refine IndV.val ?_
      unfold Builtin.min_
      rw [Array.toList_map]
      cases hl : args.toList with
      | nil => exact Ind.halt _
      | cons x l =>
        rw [hl, List.all_cons, Bool.and_eq_true] at h
        obtain ⟨z, hz⟩ := fold_pure _ min2_int (l.map a.eval) (a.eval x) h.1 (by rw [List.all_map]; exact h.2)
        simp only [List.map_cons]
        rw [hz]
        exact Ind.pure _
    exact this w1 n w' hr
  · rename_i args ats
    intro w1 n w' hr
    have : IndV P (do pure (.value (← Builtin.max_ ats type (args.map a.eval)))) := by
      refine IndV.val ?_
      unfold Builtin.max_
      rw [Array.toList_map]
      cases hl : args.toList with
      | nil => exact Ind.halt _
      | cons x l =>
        rw [hl, List.all_cons, Bool.and_eq_true] at h
        obtain ⟨z, hz⟩ := fold_pure _ max2_int (l.map a.eval) (a.eval x) h.1 (by rw [List.all_map]; exact h.2)
        simp only [List.map_cons]
        rw [hz]
        exact Ind.pure _
    exact this w1 n w' hr
  · cases h

/-! ### A load turns no world -/

def Rd (P : Program) {α : Type} (s : Sem α) : Prop := ∀ w1 n w', s.run P w1 = .ok n w' → w' = w1

theorem Ind.rd {α : Type} {s : Sem α} (h : Ind P s) : Rd P s := fun w1 n w' hr => (h w1 n w' hr).1

theorem Rd.bind {α β : Type} {s : Sem α} {f : α → Sem β} (h1 : Rd P s) (h2 : ∀ a, Rd P (f a)) : Rd P (s >>= f) := by
  intro w1 n w' h
  rw [Sem.run_bind] at h
  cases hr : s.run P w1 with
  | ok a w'' =>
    rw [hr] at h
    have := h1 _ _ _ hr
    subst this
    exact h2 a _ _ _ h
  | halt x w'' => rw [hr] at h; cases h

theorem Rd.load (a : Addr) : Rd P (Go.load a) := by
  intro w1 n w' h
  unfold Go.load at h
  simp only [Sem.run] at h
  split at h
  · simp at h; exact h.2.symm
  · split at h
    · simp at h; exact h.2.symm
    · cases h

theorem Rd.cells (a : Addr) : ∀ (n i : Nat) (acc : Array Value), Rd P (loadCellsFrom a i n acc) := by
  intro n
  induction n with
  | zero => intro i acc; exact (Ind.pure _).rd
  | succ n ih => intro i acc; exact Rd.bind (Rd.load _) fun v => ih _ _

theorem Rd.loadVar (t : TypeId) (a : Addr) : Rd P (loadVar t a) := by
  refine Rd.bind (Ind.isAgg t).rd fun b => ?_
  split
  · exact Rd.bind (Ind.sizeOf t).rd fun _ => Rd.bind (Rd.cells _ _ _ _) fun _ => (Ind.pure _).rd
  · exact Rd.load a

theorem Rd.loadAt (t : TypeId) (x : Value) : Rd P (Instr.loadAt t x) := Rd.bind (Ind.sureAddr x).rd fun _ => Rd.loadVar _ _

theorem load_value {a : Act} {o : Oper} {t : TypeId} {x : Operand} (ho : o.op = .load t x) {w w' : World} {n : Next} (h : (execOp a.eval o).run P w = .ok n w') : w' = w ∧ ∃ v, n = .value v := by
  obtain ⟨dst, op, type, pos, after, guard⟩ := o
  subst ho
  unfold execOp at h
  dsimp only at h
  rw [Sem.run_bind] at h
  cases hr : (Instr.loadAt t (a.eval x)).run P w with
  | ok v w'' =>
    rw [hr] at h
    have := Rd.loadAt t (a.eval x) _ _ _ hr
    subst this
    simp [Pure.pure] at h
    obtain ⟨rfl, rfl⟩ := h
    exact ⟨rfl, v, rfl⟩
  | halt y w'' => rw [hr] at h; cases h

end
end Go.Mix

/- A region that draws its order, walked as a plain list in the order of the text: wp_region_text. -/
namespace Go.Mix
open Go

def autoC (ops : Array Oper) (i : Nat) : Nat := ((ops[i]?).map clsOf).getD 2

/-- At the region's end: whatever was let pass did only compute. -/
def okVals (P : Program) (ops : Array Oper) (a : Act) : Bool :=
  (List.range ops.size).all fun i => match ops[i]? with
    | some o => clsOf o != 0 || !Region.wanted o (yielded ops a.tmps) || pureOp P a o
    | none => true

/-- The post of the list: the end alone, with the look at the frame. -/
def Fin (P : Program) (ops : Array Oper) (Q : Exit → Act → World → Prop) : Exit → Act → World → Prop
  | .normal, a, w => okVals P ops a = true ∧ Q .normal a w
  | _, _, _ => False

/-- No operation writes a slot that this or an earlier one looks at. -/
def stillB (ops : Array Oper) : Bool :=
  (List.range ops.size).all fun i => (List.range ops.size).all fun j => decide (j < i) || match ops[i]?, ops[j]? with
    | some oi, some oj => match oj.dst with
      | some d => !(oi.looksAt ops).contains d
      | none => true
    | _, _ => true

section
variable {P : Program} {ops : Array Oper} {Q : Exit → Act → World → Prop}

theorem wp_NoQ {o : Oper} {a : Act} {w : World} {K : Act → World → Prop} (h : o.wp P a w K (Fin P ops Q)) : o.wp P a w K NoQ := by
  unfold Oper.wp at *
  generalize (execOp a.eval o).run P w = r at *
  cases r with
  | ok n w' =>
    cases n <;> simp only [Oper.upon] at h ⊢
    case value v => exact h
    case skip => exact h
    case defer d => exact h
    case enter f args =>
      refine Calls.mono h fun e w'' he => ?_
      cases e with
      | returned v => exact he
      | panicked ch => exact he.elim
      | outgrown => obtain ⟨_, _, hq⟩ := he; exact hq.elim
    case row row args => exact h
  | halt x w' => cases x <;> simp only [Oper.upon] at h; exact h.elim

theorem wpList_cons_fin {o : Oper} {l : List Oper} {a : Act} {w : World} (h : wpList P ops (Fin P ops Q) (o :: l) a w) :
    if Region.wanted o (yielded ops a.tmps) then o.wp P a w (wpList P ops (Fin P ops Q) l) NoQ else wpList P ops (Fin P ops Q) l (a.put o.dst undef) w := by
  unfold wpList at h
  split
  · rename_i hw
    rw [if_pos hw] at h
    rcases h with h | ⟨_, _, _, hq⟩
    · exact wp_NoQ h
    · exact hq.elim
  · rename_i hw
    rw [if_neg hw] at h
    exact h

theorem wp_out {o : Oper} {K : Act → World → Prop} {a : Act} {w : World} (h : o.wp P a w K NoQ) : ∃ ds x w', K (({ a with defers := ds } : Act).put o.dst x) w' := by
  unfold Oper.wp at h
  generalize (execOp a.eval o).run P w = r at h
  cases r with
  | ok n w' =>
    cases n <;> simp only [Oper.upon] at h
    case value v => exact ⟨a.defers, v, w', h⟩
    case skip => exact ⟨a.defers, undef, w', h⟩
    case defer d => exact ⟨d :: a.defers, undef, w', h⟩
    case enter f args =>
      obtain ⟨e, w'', _, he, _⟩ := h []
      cases e with
      | returned v => exact ⟨a.defers, v, w'', he⟩
      | panicked ch => exact he.elim
      | outgrown => obtain ⟨_, _, hq⟩ := he; exact hq.elim
    case row row args =>
      obtain ⟨v, w'', he, _⟩ := h default []
      exact ⟨a.defers, v, w'', he⟩
  | halt x w' => cases x <;> simp only [Oper.upon] at h; exact h.elim

theorem put_get {a : Act} {dst : Option Tmp} {v : Value} {ds : List Deferred} {t : Tmp} (h : dst ≠ some t) : (({ a with defers := ds } : Act).put dst v).tmps[t]? = a.tmps[t]? := by
  cases dst with
  | none => rfl
  | some d =>
    have hne : d ≠ t := fun e => h (by rw [e])
    simp [Act.put, Array.getElem?_setIfInBounds_ne hne]

/-- The list comes to an end, and what it does not write stays. -/
theorem list_out : ∀ (l : List Oper) (a : Act) (w : World), wpList P ops (Fin P ops Q) l a w → ∃ a' w', okVals P ops a' = true ∧ Q .normal a' w' ∧ ∀ t, (∀ o ∈ l, o.dst ≠ some t) → a'.tmps[t]? = a.tmps[t]? := by
  intro l
  induction l with
  | nil => intro a w h; exact ⟨a, w, h.1, h.2, fun _ _ => rfl⟩
  | cons o l ih =>
    intro a w h
    have h := wpList_cons_fin h
    split at h
    · obtain ⟨ds, x, w', hk⟩ := wp_out h
      obtain ⟨a', w'', h1, h2, h3⟩ := ih _ _ hk
      refine ⟨a', w'', h1, h2, fun t ht => ?_⟩
      rw [h3 t (fun o' ho' => ht o' (by simp [ho'])), put_get (ht o (by simp))]
    · obtain ⟨a', w'', h1, h2, h3⟩ := ih _ _ h
      refine ⟨a', w'', h1, h2, fun t ht => ?_⟩
      rw [h3 t (fun o' ho' => ht o' (by simp [ho']))]
      exact put_get (ds := a.defers) (ht o (by simp))

theorem eval_of {a a' : Act} {o : Oper} (h : ∀ t ∈ o.looksAt ops, a'.tmps[t]? = a.tmps[t]?) : ∀ x ∈ o.op.operands, a'.eval x = a.eval x := by
  intro x hx
  cases x with
  | tmp t =>
    have : t ∈ o.looksAt ops := List.mem_append_left _ (List.mem_filterMap.2 ⟨.tmp t, by simpa using hx, rfl⟩)
    simp only [Act.eval, Array.getD_eq_getD_getElem?, h t this]
  | _ => rfl

theorem wanted_of {a a' : Act} {o : Oper} (h : ∀ t ∈ o.looksAt ops, a'.tmps[t]? = a.tmps[t]?) : Region.wanted o (yielded ops a'.tmps) = Region.wanted o (yielded ops a.tmps) := by
  unfold Region.wanted
  cases hg : o.guard with
  | none => rfl
  | some gw =>
    obtain ⟨g, want⟩ := gw
    have hy : yielded ops a'.tmps g = yielded ops a.tmps g := by
      unfold yielded
      cases ht : (ops[g]?).bind (·.dst) with
      | none => rfl
      | some t =>
        have := h t (by simp [Oper.looksAt, hg, ht])
        simp [this]
    simp only [hy]

theorem pureOp_of {a a' : Act} {o : Oper} (h : ∀ x ∈ o.op.operands, a'.eval x = a.eval x) (hp : pureOp P a' o = true) : pureOp P a o = true := by
  obtain ⟨dst, op, type, pos, after, guard⟩ := o
  unfold pureOp at *
  dsimp only at h hp ⊢
  split at hp <;> (try dsimp only) <;> (try rfl)
  · rename_i x; rw [← h x (by simp [Op.operands])]; exact hp
  · rename_i x y yt; rw [← h x (by simp [Op.operands]), ← h y (by simp [Op.operands])]; exact hp
  · rename_i t x; rw [← h x (by simp [Op.operands])]; exact hp
  · exact hp
  · rename_i args ats
    split at hp
    · rename_i x hx
      rw [← h x (by have : x ∈ args := by rw [← Array.mem_toList_iff, hx]; simp
                    simp [Op.operands, Call.operands, this])]
      exact hp
    · cases hp
  · rename_i args ats
    rw [List.all_eq_true] at hp ⊢
    intro x hx
    rw [← h x (by simp only [Op.operands, Call.operands]; simpa using hx)]
    exact hp x hx
  · rename_i args ats
    rw [List.all_eq_true] at hp ⊢
    intro x hx
    rw [← h x (by simp only [Op.operands, Call.operands]; simpa using hx)]
    exact hp x hx
  · cases hp

theorem stillB_spec (h : stillB ops = true) {i j : Nat} {oi oj : Oper} (hi : ops[i]? = some oi) (hj : ops[j]? = some oj) (hij : i ≤ j) : ∀ t ∈ oi.looksAt ops, oj.dst ≠ some t := by
  intro t ht e
  simp only [stillB, List.all_eq_true, List.mem_range] at h
  have := h i (Array.getElem?_eq_some_iff.1 hi).1 j (Array.getElem?_eq_some_iff.1 hj).1
  rw [hi, hj] at this
  simp only [e, Bool.or_eq_true, decide_eq_true_eq, Bool.not_eq_true', List.contains_eq_mem, decide_eq_false_iff_not] at this
  rcases this with h | h
  · omega
  · exact h ht

theorem text_mix (hst : stillB ops = true) : ∀ (l : List Oper) (k : Nat) (a : Act) (w : World), ops.toList.drop k = l → wpList P ops (Fin P ops Q) l a w → mix P ops (fun _ => True) Q (autoC ops) (List.range' k l.length) a w := by
  intro l
  induction l with
  | nil => intro k a w _ h; exact h.2
  | cons o l ih =>
    intro k a w hl h
    have hk : ops[k]? = some o := by
      have : (ops.toList.drop k)[0]? = some o := by rw [hl]; rfl
      rw [List.getElem?_drop, Array.getElem?_toList] at this
      simpa using this
    have hl' : ops.toList.drop (k + 1) = l := by
      rw [← List.drop_drop, hl]; rfl
    have hlater : ∀ o' ∈ o :: l, ∃ j, k ≤ j ∧ ops[j]? = some o' := by
      intro o' ho'
      rw [← hl] at ho'
      obtain ⟨j, hj⟩ := List.getElem?_of_mem ho'
      rw [List.getElem?_drop, Array.getElem?_toList] at hj
      exact ⟨k + j, by omega, hj⟩
    have hout := list_out _ _ _ h
    have h := wpList_cons_fin h
    rw [List.length_cons, List.range'_succ]
    refine ⟨o, hk, ?_⟩
    have hc : autoC ops k = clsOf o := by simp [autoC, hk]
    rw [hc]
    split at h
    · rename_i hw
      by_cases hcl : clsOf o ≤ 1
      · unfold stepMix
        rw [if_pos hcl]
        -- what it runs to
        have hrun : ∃ v, (∀ w', (if clsOf o = 0 then True else w' = w) → (execOp a.eval o).run P w' = .ok (.value v) w') ∧ wpList P ops (Fin P ops Q) l (a.put o.dst v) w := by
          unfold Oper.wp at h
          cases hr : (execOp a.eval o).run P w with
          | halt x w' => rw [hr] at h; cases x <;> simp only [Oper.upon] at h; exact h.elim
          | ok n w' =>
            by_cases hc0 : clsOf o = 0
            · obtain ⟨a', w'', hv, _, hsame⟩ := hout
              have hlook : ∀ t ∈ o.looksAt ops, a'.tmps[t]? = a.tmps[t]? := fun t ht => hsame t fun o' ho' => by
                obtain ⟨j, hj, hoj⟩ := hlater o' ho'
                exact stillB_spec hst hk hoj hj t ht
              have hpure : pureOp P a o = true := by
                refine pureOp_of (eval_of hlook) ?_
                simp only [okVals, List.all_eq_true, List.mem_range] at hv
                have h1 := hv k (Array.getElem?_eq_some_iff.1 hk).1
                rw [hk] at h1
                simp only [hc0, bne_self_eq_false, Bool.false_or, Bool.or_eq_true, Bool.not_eq_true', wanted_of hlook, hw] at h1
                rcases h1 with h1 | h1
                · cases h1
                · exact h1
              obtain ⟨rfl, v, rfl, hall⟩ := pure_ind hpure _ _ _ hr
              rw [hr] at h
              exact ⟨v, fun w2 _ => hall w2, h⟩
            · have hload : ∃ t x, o.op = .load t x := by
                have h1 : clsOf o = 1 := by omega
                unfold clsOf at h1
                split at h1 <;> first | (rename_i heq; exact ⟨_, _, heq⟩) | omega
              obtain ⟨t, x, hop⟩ := hload
              obtain ⟨rfl, v, rfl⟩ := load_value hop hr
              rw [hr] at h
              refine ⟨v, fun w2 h2 => ?_, h⟩
              rw [if_neg hc0] at h2
              subst h2
              exact hr
        obtain ⟨v, h1, h2⟩ := hrun
        exact ⟨v, .inl ⟨hw, h1⟩, ih (k + 1) _ _ hl' h2⟩
      · unfold stepMix
        rw [if_neg hcl]
        unfold Loud
        rw [if_pos hw]
        exact Oper.wp_post (Q := NoQ) (fun a' w' h' => ⟨trivial, ih (k + 1) _ _ hl' h'⟩) h
    · rename_i hw
      have hw' : Region.wanted o (yielded ops a.tmps) = false := by simpa using hw
      by_cases hcl : clsOf o ≤ 1
      · unfold stepMix
        rw [if_pos hcl]
        exact ⟨undef, .inr ⟨hw', rfl⟩, ih (k + 1) _ _ hl' h⟩
      · unfold stepMix
        rw [if_neg hcl]
        unfold Loud
        rw [if_neg (by simp [hw'])]
        exact ⟨trivial, ih (k + 1) _ _ hl' h⟩

/-- THE RULE: a region that draws its order is walked as a list, in the order of the text; at its end 'okVals' is looked at. -/
theorem wp_region_text {id : Nat} {a : Act} {w : World} (hm : P.follows .mixedOrders = true) (hok : (okRegion ops (autoC ops) && stillB ops) = true)
    (h : wpList P ops (Fin P ops Q) ops.toList a w.drew) : (Code.region id ops true).wp P Q a w := by
  simp only [Bool.and_eq_true] at hok
  refine wp_region_mix (fun _ => True) (autoC ops) hm hok.1 trivial ?_
  have := text_mix hok.2 ops.toList 0 a w.drew rfl h
  rw [Array.length_toList, ← List.range_eq_range'] at this
  exact this

/-- The same, the operations written out. -/
theorem wp_text {id : Nat} {l : List Oper} {a : Act} {w : World} (hm : P.follows .mixedOrders = true) (hok : (okRegion l.toArray (autoC l.toArray) && stillB l.toArray) = true)
    (h : wpList P l.toArray (Fin P l.toArray Q) l a w.drew) : (Code.region id l.toArray true).wp P Q a w := wp_region_text hm hok h

end
end Go.Mix

/- Requests, batches; the copying of a batch (slot.fresh), and whether two are the same (reqs.Same). -/
namespace Go.Proofs.Ytdeadekeffficaa
open Go.RowKit Go.Heap

theorem ret_int {k : IntKind} {a b : Int} (h : a = b) : Ending.returned (.int k a) = .returned (.int k b) := by rw [h]
theorem ret_bool {a b : Bool} (h : a = b) : Ending.returned (.bool a) = .returned (.bool b) := by rw [h]

structure Rq where
  client : Int
  time : Int
  kind : Int
  key : Int
  val : Int
  sl : Int
deriving DecidableEq

def rqCells (r : Rq) : List Value := [.int .i64 r.client, .int .i64 r.time, .int .i64 r.kind, .int .i64 r.key, .int .i64 r.val, .int .i64 r.sl]
def rqsCells (rs : List Rq) : List Value := rs.flatMap rqCells

theorem rqsCells_length (rs : List Rq) : (rqsCells rs).length = rs.length * 6 := by
  induction rs with
  | nil => rfl
  | cons p ps ih => simp only [rqsCells, List.flatMap_cons, List.length_append] at *; rw [ih]; simp [rqCells]; omega

theorem rqsCells_get (rs : List Rq) : ∀ k p, rs[k]? = some p → (rqsCells rs)[k * 6]? = some (.int .i64 p.client) ∧ (rqsCells rs)[k * 6 + 1]? = some (.int .i64 p.time) ∧ (rqsCells rs)[k * 6 + 2]? = some (.int .i64 p.kind) ∧
    (rqsCells rs)[k * 6 + 3]? = some (.int .i64 p.key) ∧ (rqsCells rs)[k * 6 + 4]? = some (.int .i64 p.val) ∧ (rqsCells rs)[k * 6 + 5]? = some (.int .i64 p.sl) := by
  induction rs with
  | nil => intro k p h; simp at h
  | cons q rs ih =>
    intro k p h
    match k with
    | 0 => simp at h; subst h; exact ⟨rfl, rfl, rfl, rfl, rfl, rfl⟩
    | k + 1 =>
      have := ih k p (by simpa using h)
      rw [show (k + 1) * 6 = k * 6 + 6 by omega]
      exact this

theorem rqsCells_one (rs : List Rq) : ∀ u ∈ rqsCells rs, u.oneCell' = true := by
  intro u hu
  simp only [rqsCells, List.mem_flatMap] at hu
  obtain ⟨r, _, h⟩ := hu
  simp only [rqCells, List.mem_cons, List.not_mem_nil, or_false] at h
  rcases h with rfl | rfl | rfl | rfl | rfl | rfl <;> rfl

/-- v is a batch. -/
def Bat (w : World) (v : Value) (rs : List Rq) : Prop := Reads w v 6 rs.length (rqsCells rs)

theorem Try.infoReq : (Try.prog.info? 32).map (fun i => (i.zero, i.size, i.bytes)) = some (some (.agg #[.int .i64 0, .int .i64 0, .int .i64 0, .int .i64 0, .int .i64 0, .int .i64 0]), 6, 48) := by kernel_rfl

set_option maxHeartbeats 400000 in
theorem fresh_any (v : Value) (rs : List Rq) (w : World) (hn : rs.length ≤ 100000) (h : Bat w v rs) :
    Calls Try.prog 56 #[v] w fun e w' => ∃ v', e = .returned v' ∧ Upd [] w w' ∧ Bat w' v' rs ∧ ∀ k ∈ blkOf v', w.heap.size ≤ k ∧ k < w'.heap.size := by
  obtain ⟨i0, hi, hz0, hz1, hz2⟩ := info_parts Try.infoReq
  have h' := h
  obtain ⟨ao, cap, rfl, h1, h2, h3, h4, h5⟩ := h'
  clear h1 h2 h3
  cases ao with
  | none =>
    obtain ⟨hr, rfl⟩ := h4 rfl
    have : rs = [] := List.eq_nil_of_length_eq_zero hr
    subst this
    clear hr h4 h5
    go_enter Try.func56, Try.ntmps56
    go_wp2
    go_ret
    exact ⟨_, rfl, Upd.refl _ _, Reads.nil _ _, by simp [blkOf]⟩
  | some a =>
    clear h4
    by_cases h0 : rs.length = 0
    · have : rs = [] := List.eq_nil_of_length_eq_zero h0
      subst this
      clear h5 h0
      go_enter Try.func56, Try.ntmps56
      go_wp2
      go_ret
      exact ⟨_, rfl, Upd.refl _ _, Reads.nil _ _, by simp [blkOf]⟩
    · obtain ⟨b, o, hab, hb, hc⟩ := h5 (by omega)
      simp only [Option.some.injEq] at hab
      subst hab
      clear h5
      have hpos : 0 < rs.length := by omega
      clear h0
      have hnews : ∀ j u, (rqsCells rs)[j]? = some u → w.cell? ((⟨b, o, none⟩ : Addr).add j) = some u := by
        intro j u hj
        have hl := (List.getElem?_eq_some_iff.1 hj).1
        rw [rqsCells_length] at hl
        have : (⟨b, o, none⟩ : Addr).add j = ⟨b, o + j, none⟩ := by unfold Addr.add; split <;> simp_all
        rw [this, hc j hl]
        exact hj
      have HN := Lib.hid hnews
      clear hc hnews
      go_enter Try.func56, Try.ntmps56
      go_wp2_with (at_builtin; refine wpList_append_lies _ rfl (.const (.slice none 0 0)) (.tmp 3) 33 rfl w.heap.size 32 i0 (.agg #[.int .i64 0, .int .i64 0, .int .i64 0, .int .i64 0, .int .i64 0, .int .i64 0]) 6 48 Try.underlying33 hi hz0 hz1 hz2 rfl (by decide) _ 0 [] rfl (World.ownsRow_nil _ _ _ _) ⟨b, o, none⟩ rs.length cap (rqsCells rs) rfl (rqsCells_length rs) HN.out (rqsCells_one rs) hpos ?c3 ?c4 (Nat.le_refl _) w.heap.size rfl ?c6)
      case c3 => unfold maxLen; omega
      case c4 => omega
      case c6 =>
        intro g cap2 w2 hown hgrow hat hlt
        have hg : g = w.heap.size := by
          rcases hat with h | h
          · cases h
          · exact h
        subst hg
        try simp only [Nat.zero_add, List.nil_append] at hown
        have HO := Lib.hid hown
        clear hown hat
        go_wp2
        go_ret
        refine ⟨_, rfl, (Upd.refl _ _).grown hgrow (by intro k hk; cases hk), Reads.of_own HO.out, by simp [blkOf]; exact hlt⟩

end Go.Proofs.Ytdeadekeffficaa

/- reqs.Same: are two batches the same? -/
namespace Go.Proofs.Ytdeadekeffficaa
open Go.RowKit Go.Heap

def rqAgg (r : Rq) : Value := .agg #[.int .i64 r.client, .int .i64 r.time, .int .i64 r.kind, .int .i64 r.key, .int .i64 r.val, .int .i64 r.sl]

theorem Try.stoodReq : Try.prog.stoodInHeld 32 = false := by kernel_rfl
theorem Try.stoodOp : Try.prog.stoodInHeld 30 = false := by kernel_rfl
theorem Try.guardReq : Try.prog.eqGuardType Try.prog.depth 32 = false := by kernel_rfl
theorem Try.fieldsReq : Try.prog.underlying 32 = some (.struct (Try.prog.fieldsOf 32)) := by kernel_rfl
theorem Try.fieldsOp : Try.prog.underlying 30 = some (.struct (Try.prog.fieldsOf 30)) := by kernel_rfl

theorem run_equal_req (r s : Rq) (w : World) : (Op.equalIn 10000 32 (rqAgg r) (rqAgg s)).run Try.prog w = .ok (decide (r = s)) w := by
  obtain ⟨a, b, c, d, e, f⟩ := r
  obtain ⟨a', b', c', d', e', f'⟩ := s
  simp [rqAgg, go_sem]
  by_cases h1 : a = a'
  · by_cases h2 : b = b'
    · by_cases h3 : c = c'
      · by_cases h4 : d = d'
        · by_cases h5 : e = e'
          · by_cases h6 : f = f' <;> simp [*]
          · simp [*]
        · simp [*]
      · simp [*]
    · simp [*]
  · simp [*]

theorem addr_add (b o j : Nat) : (⟨b, o, none⟩ : Addr).add j = ⟨b, o + j, none⟩ := by unfold Addr.add; split <;> simp_all

/-- The cells of element k, as the walk spells them. -/
theorem bat_cells {w : World} {b o : Nat} {rs : List Rq} (hc : ∀ j, j < rs.length * 6 → w.cell? ⟨b, o + j, none⟩ = (rqsCells rs)[j]?) (k : Nat) (p : Rq) (hp : rs[k]? = some p) :
    w.cell? ⟨b, o + k * 6, none⟩ = some (.int .i64 p.client) ∧ w.cell? ⟨b, o + k * 6 + 1, none⟩ = some (.int .i64 p.time) ∧ w.cell? ⟨b, o + k * 6 + 2, none⟩ = some (.int .i64 p.kind) ∧
    w.cell? ⟨b, o + k * 6 + 3, none⟩ = some (.int .i64 p.key) ∧ w.cell? ⟨b, o + k * 6 + 4, none⟩ = some (.int .i64 p.val) ∧ w.cell? ⟨b, o + k * 6 + 5, none⟩ = some (.int .i64 p.sl) := by
  have hk := (List.getElem?_eq_some_iff.1 hp).1
  obtain ⟨e0, e1, e2, e3, e4, e5⟩ := rqsCells_get rs k p hp
  refine ⟨?_, ?_, ?_, ?_, ?_, ?_⟩
  · exact (hc _ (by omega)).trans e0
  · exact (hc (k * 6 + 1) (by omega)).trans e1
  · exact (hc (k * 6 + 2) (by omega)).trans e2
  · exact (hc (k * 6 + 3) (by omega)).trans e3
  · exact (hc (k * 6 + 4) (by omega)).trans e4
  · exact (hc (k * 6 + 5) (by omega)).trans e5

theorem cells_below {w wr : World} {b o n : Nat} {xs : List Value} {B : Nat} (hb : Below B w wr) (hlt : b < B) (hc : ∀ j, j < n → w.cell? ⟨b, o + j, none⟩ = xs[j]?) : ∀ j, j < n → wr.cell? ⟨b, o + j, none⟩ = xs[j]? :=
  fun j hj => (hb.cell (p := ⟨b, o + j, none⟩) hlt).trans (hc j hj)

theorem take_same {α : Type} {rs ss : List α} {k : Nat} (h : rs.take k = ss.take k) (hk : k < rs.length) (hk' : k < ss.length) (he : rs[k] = ss[k]) : rs.take (k + 1) = ss.take (k + 1) := by
  rw [List.take_succ_eq_append_getElem hk, List.take_succ_eq_append_getElem hk', h, he]

set_option maxHeartbeats 400000 in
theorem same_any (v u : Value) (rs ss : List Rq) (w : World) (hn : rs.length ≤ 100000) (hm : ss.length ≤ 100000) (h : Bat w v rs) (h' : Bat w u ss) :
    Calls Try.prog 84 #[v, u] w fun e w' => e = .returned (.bool (decide (rs = ss))) ∧ Upd [] w w' := by
  obtain ⟨ao, cap, rfl, h1, h2, h3, h4, h5⟩ := h
  obtain ⟨bo, cap', rfl, k1, k2, k3, k4, k5⟩ := h'
  clear h1 h2 h3 h4 k1 k2 k3 k4
  have H5 := Lib.hid h5
  have K5 := Lib.hid k5
  clear h5 k5
  by_cases hlen : rs.length = ss.length
  · have HL := Lib.hid hlen
    have hlb : ((rs.length : Int) != (ss.length : Int)) = false := by simp [hlen]
    have hle1 : rs.length ≤ ss.length := by omega
    have hle2 : ss.length ≤ rs.length := by omega
    clear hlen
    go_enter Try.func84, Try.ntmps84
    go_wp2_with fail
    go_loopw [14] (fun i wr => ∃ k : Nat, k ≤ rs.length ∧ i = .int .i64 k ∧ rs.take k = ss.take k ∧ Below w.heap.size w wr) (fun i _ => rs.length - (intOf i).toNat)
    case atStart => exact ⟨0, by omega, rfl, by simp, Below.refl _ _⟩
    case round =>
      obtain ⟨k, hk, rfl, he, hb⟩ := hrel
      have HE := Lib.hid he
      clear he
      by_cases hlt : k < rs.length
      · obtain ⟨b, o, rfl, hbs, hc⟩ := H5.out (by omega)
        obtain ⟨b', o', rfl, hbs', hc'⟩ := K5.out (by omega)
        have hlt' : k < ss.length := by omega
        obtain ⟨q0, q1, q2, q3, q4, q5⟩ := bat_cells (cells_below hb hbs hc) k rs[k] (by simp)
        obtain ⟨p0, p1, p2, p3, p4, p5⟩ := bat_cells (cells_below hb hbs' hc') k ss[k] (by simp)
        clear hc hc'
        have hkI : (k : Int) < (ss.length : Int) := by omega
        have hbw : b' < wr.heap.size := Nat.lt_of_lt_of_le hbs' hb.size
        have hbn : b' ≠ wr.heap.size := by omega
        by_cases he : rs[k] = ss[k]
        · have heq : ∀ wx, (Op.equalIn 10000 32 (rqAgg rs[k]) (rqAgg ss[k])).run Try.prog wx = .ok true wx := fun wx => by rw [run_equal_req]; simp [he]
          have HEK := Lib.hid he
          clear he
          unfold rqAgg at heq
          have hgd := Try.guardReq
          go_wp2_with fail
          go_quiet (fail)
          go_wp2_with fail
          go_roundw
          case rel => exact ⟨k + 1, by omega, by go_num, take_same HE.out hlt hlt' HEK.out, below_drewN (hb.alloc hb.size _) _⟩
          case measure => simp [intOf]; omega
        · have heq : ∀ wx, (Op.equalIn 10000 32 (rqAgg rs[k]) (rqAgg ss[k])).run Try.prog wx = .ok false wx := fun wx => by rw [run_equal_req]; simp [he]
          have HEK := Lib.hid he
          clear he
          unfold rqAgg at heq
          have hgd := Try.guardReq
          go_wp2_with fail
          go_quiet (fail)
          go_wp2_with fail
          go_ret
          refine ⟨ret_bool ?_, Upd.of_below (below_drewN (hb.alloc hb.size _) _)⟩
          symm
          rw [decide_eq_false_iff_not]
          intro e
          subst e
          exact HEK.out rfl
      · go_wp2_with fail
        go_ret
        refine ⟨ret_bool ?_, Upd.of_below hb⟩
        symm
        rw [decide_eq_true_iff]
        have h1 := HE.out
        rw [List.take_of_length_le (by omega), List.take_of_length_le (by omega)] at h1
        exact h1
  · have hlb : ((rs.length : Int) != (ss.length : Int)) = true := by simp; omega
    have HL := Lib.hid hlen
    clear hlen
    go_enter Try.func84, Try.ntmps84
    go_wp2_with fail
    go_ret
    refine ⟨ret_bool ?_, Upd.refl _ _⟩
    symm
    rw [decide_eq_false_iff_not]
    intro e
    exact HL.out (by rw [e])

end Go.Proofs.Ytdeadekeffficaa

/- Votes in a slot, and whether they are enough (slot.enough). -/
namespace Go.Proofs.Ytdeadekeffficaa
open Go.RowKit Go.Heap

/-- A node's vote in a slot. -/
structure Vt where
  has : Bool
  sl : Int
  batch : List Rq

/-- Votes of a certificate: nodes and their seals. -/
abbrev Vs := List (Int × Int)
def vsCells (l : Vs) : List Value := l.flatMap fun p => [.int .i64 p.1, .int .i64 p.2]
theorem vsCells_length (l : Vs) : (vsCells l).length = l.length * 2 := by
  induction l with
  | nil => rfl
  | cons p ps ih => simp only [vsCells, List.flatMap_cons, List.length_append] at *; rw [ih]; simp; omega
theorem vsCells_get (l : Vs) : ∀ k p, l[k]? = some p → (vsCells l)[k * 2]? = some (.int .i64 p.1) ∧ (vsCells l)[k * 2 + 1]? = some (.int .i64 p.2) := by
  induction l with
  | nil => intro k p h; simp at h
  | cons q l ih =>
    intro k p h
    match k with
    | 0 => simp at h; subst h; exact ⟨rfl, rfl⟩
    | k + 1 =>
      have := ih k p (by simpa using h)
      rw [show (k + 1) * 2 = k * 2 + 2 by omega]
      exact this
theorem vsCells_app (l : Vs) (p : Int × Int) : vsCells (l ++ [p]) = vsCells l ++ [.int .i64 p.1, .int .i64 p.2] := by simp [vsCells]

/-- v is a list of votes. -/
def Vts (w : World) (v : Value) (l : Vs) : Prop := Reads w v 2 l.length (vsCells l)

/-- Block b holds the votes of all nodes; their batches lie in blocks of D. -/
def VotesAt (w : World) (b : Nat) (vs : List Vt) (D : List Nat) : Prop :=
  ∃ arr, w.heap[b]? = some (.cells arr 109 (0, 0)) ∧ vs.length * 3 ≤ arr.size ∧
    ∀ i t, vs[i]? = some t → ∃ v, arr[i * 3]? = some (.bool t.has) ∧ arr[i * 3 + 1]? = some (.int .i64 t.sl) ∧ arr[i * 3 + 2]? = some v ∧ Bat w v t.batch ∧ ∀ k ∈ blkOf v, k ∈ D

theorem VotesAt.upd {w w' : World} {M : List Nat} {b : Nat} {vs : List Vt} {D : List Nat} (h : VotesAt w b vs D) (hu : Upd M w w') (hb : b ∉ M) (hD : ∀ k ∈ D, k ∉ M) : VotesAt w' b vs D := by
  obtain ⟨arr, h1, h2, h3⟩ := h
  refine ⟨arr, by rw [hu.block b (block_lt h1) hb]; exact h1, h2, fun i t hi => ?_⟩
  obtain ⟨v, a1, a2, a3, a4, a5⟩ := h3 i t hi
  exact ⟨v, a1, a2, a3, a4.upd hu (fun k hk => hD k (a5 k hk)), a5⟩

theorem VotesAt.cells {w : World} {b : Nat} {vs : List Vt} {D : List Nat} (h : VotesAt w b vs D) (i : Nat) (t : Vt) (hi : vs[i]? = some t) :
    ∃ v, w.cell? ⟨b, i * 3, none⟩ = some (.bool t.has) ∧ w.cell? ⟨b, i * 3 + 1, none⟩ = some (.int .i64 t.sl) ∧ w.cell? ⟨b, i * 3 + 2, none⟩ = some v ∧ Bat w v t.batch ∧ b < w.heap.size ∧ (∀ k ∈ blkOf v, k ∈ D) ∧ ∀ o, w.frozen? ⟨b, o, none⟩ = false := by
  obtain ⟨arr, h1, h2, h3⟩ := h
  obtain ⟨v, a1, a2, a3, a4, a5⟩ := h3 i t hi
  exact ⟨v, by rw [block_cell h1]; exact a1, by rw [block_cell h1]; exact a2, by rw [block_cell h1]; exact a3, a4, block_lt h1, a5, block_frozen h1⟩

/-! ### The plain side -/

def goodB (batch : List Rq) (t : Vt) : Bool := t.has && decide (t.batch = batch)

def picks (batch : List Rq) : List Vt → Nat → Vs
  | [], _ => []
  | t :: l, k => if goodB batch t then ((k : Int), t.sl) :: picks batch l (k + 1) else picks batch l (k + 1)

theorem picks_app (batch : List Rq) (t : Vt) : ∀ (l : List Vt) (k : Nat), picks batch (l ++ [t]) k = picks batch l k ++ if goodB batch t then [(((k + l.length : Nat) : Int), t.sl)] else [] := by
  intro l
  induction l with
  | nil => intro k; simp [picks]
  | cons s l ih =>
    intro k
    simp only [List.cons_append, picks, ih, List.length_cons]
    rw [show k + 1 + l.length = k + (l.length + 1) by omega]
    split <;> simp

def picked (batch : List Rq) (l : List Vt) (q k : Nat) : Vs := (picks batch (l.take k) 0).take q

theorem picked_zero (batch : List Rq) (l : List Vt) (q : Nat) : picked batch l q 0 = [] := by simp [picked, picks]

theorem picked_le (batch : List Rq) (l : List Vt) (q k : Nat) : (picked batch l q k).length ≤ q := by simp [picked]; omega

theorem picked_succ (batch : List Rq) (l : List Vt) (q k : Nat) (hk : k < l.length) :
    picked batch l q (k + 1) = if goodB batch l[k] && decide ((picked batch l q k).length < q) then picked batch l q k ++ [((k : Int), l[k].sl)] else picked batch l q k := by
  unfold picked
  rw [List.take_succ_eq_append_getElem hk, picks_app, List.length_take, Nat.min_eq_left (by omega), Nat.zero_add]
  generalize picks batch (l.take k) 0 = A
  cases hg : goodB batch l[k]
  · simp
  · by_cases hl : A.length < q
    · have e1 : (A.take q).length < q := by rw [List.length_take]; omega
      rw [if_pos rfl, if_pos (by simp only [Bool.true_and, decide_eq_true_eq]; exact e1), List.take_append, List.take_of_length_le (by omega : A.length ≤ q)]
      congr 1
      rw [List.take_of_length_le (by simp; omega)]
    · have e1 : ¬ (A.take q).length < q := by rw [List.length_take]; omega
      rw [if_pos rfl, if_neg (by simp only [Bool.true_and, decide_eq_true_eq]; exact e1), List.take_append_of_le_length (by omega)]

/-- The votes of the lowest q nodes for a batch, if there are so many. -/
def enoughS (l : List Vt) (batch : List Rq) (q : Nat) : Option Vs :=
  if (picks batch l 0).length < q then none else some ((picks batch l 0).take q)

theorem picked_all (batch : List Rq) (l : List Vt) (q : Nat) : picked batch l q l.length = (picks batch l 0).take q := by simp [picked]

theorem enough_none {l : List Vt} {batch : List Rq} {q : Nat} (h : (picked batch l q l.length).length < q) : enoughS l batch q = none := by
  rw [picked_all, List.length_take] at h
  unfold enoughS
  rw [if_pos (by omega)]

theorem enough_some {l : List Vt} {batch : List Rq} {q : Nat} (h : ¬ (picked batch l q l.length).length < q) : enoughS l batch q = some (picked batch l q l.length) := by
  rw [picked_all, List.length_take] at h
  unfold enoughS
  rw [if_neg (by omega), picked_all]

/-! ### ballot -/

set_option maxHeartbeats 400000 in
theorem may_any (f : Int) (w : World) (h1 : 1 ≤ f) (h2 : f ≤ 4) : Calls Try.prog 87 #[.int .i64 f] w fun e w' => e = .returned (.bool true) ∧ w = w' := by
  go_enter Try.func87, Try.ntmps87
  go_wp2
  go_ret
  exact ⟨rfl, rfl⟩

set_option maxHeartbeats 400000 in
theorem quorum_any (f : Int) (w : World) (h1 : 1 ≤ f) (h2 : f ≤ 4) : Calls Try.prog 85 #[.int .i64 f] w fun e w' => e = .returned (.int .i64 (2 * f + 1)) ∧ w = w' := by
  go_enter Try.func85, Try.ntmps85
  go_wp2_with fail
  refine (may_any f _ h1 h2).mono ?_
  rintro e w' ⟨rfl, rfl⟩
  go_wp2_with fail
  go_ret
  exact ⟨rfl, rfl⟩

set_option maxHeartbeats 400000 in
theorem nodes_any (f : Int) (w : World) (h1 : 1 ≤ f) (h2 : f ≤ 4) : Calls Try.prog 64 #[.int .i64 f] w fun e w' => e = .returned (.int .i64 (3 * f + 1)) ∧ w = w' := by
  go_enter Try.func64, Try.ntmps64
  go_wp2_with fail
  refine (may_any f _ h1 h2).mono ?_
  rintro e w' ⟨rfl, rfl⟩
  go_wp2_with fail
  go_ret
  exact ⟨rfl, rfl⟩

end Go.Proofs.Ytdeadekeffficaa

/- slot.enough: the votes of the lowest nodes for a batch. -/
namespace Go.Proofs.Ytdeadekeffficaa
open Go.RowKit Go.Heap

theorem Try.infoVote : (Try.prog.info? 44).map (fun i => (i.zero, i.size, i.bytes)) = some (some (.agg #[.int .i64 0, .int .i64 0]), 2, 16) := by kernel_rfl

theorem owns_form {w : World} {B E sz n : Nat} {v : Value} {xs : List Value} (h : w.ownsRow B E sz v n xs) : ∃ ao cap, v = .slice ao n cap := by
  rcases h.2 with ⟨rfl, rfl⟩ | ⟨g, cap, cur, rfl, _⟩
  · exact ⟨_, _, rfl⟩
  · exact ⟨_, _, rfl⟩

theorem vts_of_own {w : World} {B : Nat} {v : Value} {l : Vs} {n : Nat} (hn : l.length = n) (h : w.ownsRow B 44 2 v n (vsCells l)) : Vts w v l ∧ ∀ k ∈ blkOf v, B ≤ k := by
  subst hn
  rcases h.2 with ⟨rfl, hn⟩ | ⟨g, cap, cur, rfl, hb, _⟩
  · have : l = [] := List.eq_nil_of_length_eq_zero hn
    subst this
    exact ⟨Reads.nil _ _, by simp [blkOf]⟩
  · exact ⟨Reads.of_own h, by simp [blkOf]; exact hb⟩

theorem bat_form {w : World} {v : Value} {rs : List Rq} (h : Bat w v rs) : ∃ ao cap, v = .slice ao rs.length cap := let ⟨ao, cap, hv, _⟩ := h; ⟨ao, cap, hv⟩

set_option maxHeartbeats 1000000 in
set_option maxRecDepth 100000 in
theorem enough_any (s b cap : Nat) (v : Value) (f : Nat) (l : List Vt) (D : List Nat) (batch : List Rq) (w : World) (h1 : 1 ≤ f) (h2 : f ≤ 4) (hl : l.length ≤ 13) (hs : s < w.heap.size)
    (hcap : 1 ≤ l.length)
    (hf : w.cell? ⟨s, 0, none⟩ = some (.int .i64 f)) (hv : VotesAt w b l D) (hb : Bat w v batch) (hbl : batch.length ≤ 100000) (hbs : ∀ t ∈ l, t.batch.length ≤ 100000) :
    Calls Try.prog 58 #[.pointer (some ⟨s, 0, none⟩), .slice (some ⟨b, 0, none⟩) l.length cap, v] w fun e w' =>
      ∃ u, e = .returned (.tuple #[u, .bool (enoughS l batch (2 * f + 1)).isSome]) ∧ Below w.heap.size w w' ∧ Vts w' u ((enoughS l batch (2 * f + 1)).getD []) ∧ ∀ k ∈ blkOf u, w.heap.size ≤ k := by
  obtain ⟨i0, hi, hz0, hz1, hz2⟩ := info_parts Try.infoVote
  have HV := Lib.hid hv
  have HB := Lib.hid hb
  have HBS := Lib.hid hbs
  clear hv hb hbs
  go_enter Try.func58, Try.ntmps58
  go_wp2_with fail
  go_loopw [8, 13] (fun out i wr => ∃ (k : Nat) (ao : Option Addr) (cp : Nat), k ≤ l.length ∧ i = .int .i64 k ∧ out = .slice ao (picked batch l (2 * f + 1) k).length cp ∧ Below w.heap.size w wr ∧
      Hid (wr.ownsRow w.heap.size 44 2 (.slice ao (picked batch l (2 * f + 1) k).length cp) (picked batch l (2 * f + 1) k).length (vsCells (picked batch l (2 * f + 1) k)))) (fun _ i _ => l.length - (intOf i).toNat)
  case atStart =>
    refine ⟨0, none, 0, by omega, rfl, ?_, Below.refl _ _, ?_⟩
    · rw [picked_zero]; rfl
    · rw [picked_zero]; exact World.ownsRow_nil _ _ _ _
  case round =>
    obtain ⟨k, ao, cp, hk, rfl, rfl, hbel, hown⟩ := hrel
    have hz := hbel.size
    have hple := picked_le batch l (2 * f + 1) k
    have hkf := (hbel.cell (p := ⟨s, 0, none⟩) hs).trans hf
    by_cases hlt : k < l.length
    · have hsucc := Lib.hid (picked_succ batch l (2 * f + 1) k hlt)
      generalize picked batch l (2 * f + 1) k = A at *
      have hvr := HV.out.upd (M := []) (Upd.of_below hbel) (by simp) (by simp)
      obtain ⟨bv, c0, c1, c2, hbat, hbw, _, _⟩ := hvr.cells k l[k] (by simp)
      obtain ⟨bo, bcap, rfl⟩ := bat_form hbat
      have HBAT := Lib.hid hbat
      have HBR := Lib.hid (HB.out.upd (M := []) (Upd.of_below hbel) (by simp))
      have hlk := HBS.out l[k] (by simp)
      have hkI : (k : Int) < (l.length : Int) := by omega
      clear hvr hbat
      by_cases hhas : l[k].has = true
      · rw [hhas] at c0
        have HHAS := Lib.hid hhas
        clear hhas
        go_wp2_with fail
        refine (same_any _ v l[k].batch batch _ hlk hbl (HBAT.out.upd (M := []) ((Upd.refl _ _).alloc _) (by simp)) (HBR.out.upd (M := []) ((Upd.refl _ _).alloc _) (by simp))).mono ?_
        rintro e w2 ⟨rfl, hu2⟩
        have hbB : Below (wr.heap.size + 1) (wr.alloc (.cells #[.bool true, .int .i64 l[k].sl, .slice bo l[k].batch.length bcap] 109)) w2 := by have := hu2.below; simpa using this
        have x1 : w2.cell? ⟨wr.heap.size, 1, none⟩ = some (.int .i64 l[k].sl) := (hbB.cell (p := ⟨wr.heap.size, 1, none⟩) (Nat.lt_succ_self _)).trans (by rw [block_cell (heap_alloc_new wr _)]; rfl)
        have hsr : s < wr.heap.size := Nat.lt_of_lt_of_le hs hz
        have x2 : w2.cell? ⟨s, 0, none⟩ = some (.int .i64 f) := ((hbB.cell (p := ⟨s, 0, none⟩) (Nat.lt_succ_of_lt hsr)).trans (World.cell?_alloc_past _ _ _ hsr)).trans hkf
        have hw2 := hbB.size
        have hbelw : Below w.heap.size w w2 := (hbel.alloc hz _).trans (hbB.mono (by omega))
        clear c0 c1 c2 hkf
        by_cases hsm : l[k].batch = batch
        · have HSM := Lib.hid hsm
          rw [decide_eq_true hsm]
          clear hsm
          go_wp2_with fail
          refine (quorum_any f _ (by omega) (by omega)).mono ?_
          rintro e w' ⟨rfl, rfl⟩
          have hgood : goodB batch l[k] = true := by simp [goodB, HHAS.out, HSM.out]
          rw [hgood, Bool.true_and] at hsucc
          clear hgood
          by_cases hlen : A.length < 2 * f + 1
          · have hq : (A.length : Int) < 2 * (f : Int) + 1 := by omega
            have hle : A.length ≤ 13 := by omega
            have hzz := hbelw.size
            have ho2 := (owns_upd (M := []) hown.out (Upd.of_below ((Below.refl _ _).alloc (Nat.le_refl _) (.cells #[.bool true, .int .i64 l[k].sl, .slice bo l[k].batch.length bcap] 109))) (by simp))
            have ho3 := (owns_upd (M := []) ho2 hu2 (by simp)).alloc (.cells #[.int .i64 k, .int .i64 l[k].sl] 44)
            have HO := Lib.hid ho3
            clear ho2 ho3
            go_wp2_with (at_builtin; refine wpList_append_lies _ rfl (.tmp 36) (.tmp 41) 37 rfl w.heap.size 44 i0 (.agg #[.int .i64 0, .int .i64 0]) 2 16 Try.underlying37 hi hz0 hz1 hz2 rfl (by decide) _ A.length (vsCells A) rfl HO.out ⟨w2.heap.size, 0, none⟩ 1 1 [.int .i64 k, .int .i64 l[k].sl] rfl rfl ?c1 ?c2 (by decide) ?c3 ?c4 ?c5 (w2.heap.size + 1) (by simp) ?c6)
            case c1 => intro j u hj; match j, hj with | 0, hj => simp at hj; subst hj; simp [Addr.add] | 1, hj => simp at hj; subst hj; simp [Addr.add]
            case c2 => intro u hu; simp at hu; rcases hu with rfl | rfl <;> rfl
            case c3 => unfold maxLen; omega
            case c4 => omega
            case c5 => simp; omega
            case c6 =>
              intro g cap2 w3 hown3 hgrow hat hlt3
              have hsucc' : picked batch l (2 * f + 1) (k + 1) = A ++ [((k : Int), l[k].sl)] := by rw [hsucc.out, if_pos (decide_eq_true hlen)]
              have HSU := Lib.hid hsucc'
              clear hsucc'
              have H3 := Lib.hid hown3
              clear hown3
              have hbel3 : Below w.heap.size w w3 := (hbelw.alloc hbelw.size _).grown hgrow (by simp; omega) (by intro j hj; exact (hown.out.lt j hj).1)
              go_wp2_with fail
              go_roundw
              case rel =>
                refine ⟨k + 1, some ⟨g, 0, none⟩, cap2, by omega, by go_num, ?_, hbel3, ?_⟩
                · rw [HSU.out]; simp
                · rw [HSU.out, vsCells_app, List.length_append]; exact H3
              case measure => simp [intOf]; omega
          · have hq : ¬ (A.length : Int) < 2 * (f : Int) + 1 := by omega
            have hqb : decide ((A.length : Int) < 2 * (f : Int) + 1) = false := by simp; omega
            go_wp2_with fail
            go_roundw
            have hsucc' : picked batch l (2 * f + 1) (k + 1) = A := by rw [hsucc.out, if_neg (by simpa using hlen)]
            case rel =>
              refine ⟨k + 1, ao, cp, by omega, by go_num, by rw [hsucc'], hbelw, ?_⟩
              rw [hsucc']
              exact (owns_upd (M := []) (owns_upd (M := []) hown.out (Upd.of_below ((Below.refl _ _).alloc (Nat.le_refl _) (.cells #[.bool true, .int .i64 l[k].sl, .slice bo l[k].batch.length bcap] 109))) (by simp)) hu2 (by simp))
            case measure => simp [intOf]; omega
        · have HSM := Lib.hid hsm
          rw [decide_eq_false hsm]
          clear hsm
          go_wp2_with fail
          go_roundw
          have hgood : goodB batch l[k] = false := by simp [goodB, HSM.out]
          have hsucc' : picked batch l (2 * f + 1) (k + 1) = A := by rw [hsucc.out, hgood]; rfl
          case rel =>
            refine ⟨k + 1, ao, cp, by omega, by go_num, by rw [hsucc'], hbelw, ?_⟩
            rw [hsucc']
            exact (owns_upd (M := []) (owns_upd (M := []) hown.out (Upd.of_below ((Below.refl _ _).alloc (Nat.le_refl _) (.cells #[.bool true, .int .i64 l[k].sl, .slice bo l[k].batch.length bcap] 109))) (by simp)) hu2 (by simp))
          case measure => simp [intOf]; omega
      · have hhas' : l[k].has = false := by simpa using hhas
        rw [hhas'] at c0
        have HHAS := Lib.hid hhas'
        clear hhas hhas'
        go_wp2_with fail
        go_roundw
        have hgood : goodB batch l[k] = false := by simp [goodB, HHAS.out]
        have hsucc' : picked batch l (2 * f + 1) (k + 1) = A := by rw [hsucc.out, hgood]; rfl
        case rel =>
          refine ⟨k + 1, ao, cp, by omega, by go_num, by rw [hsucc'], hbel.alloc hz _, ?_⟩
          rw [hsucc']
          exact owns_upd (M := []) hown.out (Upd.of_below ((Below.refl _ _).alloc (Nat.le_refl _) _)) (by simp)
        case measure => simp [intOf]; omega
    · have hkl : k = l.length := by omega
      subst hkl
      have HN := Lib.hid (fun h => enough_none (l := l) (batch := batch) (q := 2 * f + 1) h)
      have HY := Lib.hid (fun h => enough_some (l := l) (batch := batch) (q := 2 * f + 1) h)
      generalize picked batch l (2 * f + 1) l.length = A at *
      go_wp2_with fail
      refine (quorum_any f _ (by omega) (by omega)).mono ?_
      rintro e w' ⟨rfl, rfl⟩
      by_cases hlen : A.length < 2 * f + 1
      · have hq : (A.length : Int) < 2 * (f : Int) + 1 := by omega
        go_wp2_with fail
        go_ret2
        refine ⟨.slice none 0 0, ?_, hbel, ?_, ?_⟩
        · rw [HN.out hlen]; rfl
        · rw [HN.out hlen]; exact Reads.nil _ _
        · simp [blkOf]
      · have hq : ¬ (A.length : Int) < 2 * (f : Int) + 1 := by omega
        have hqb : decide ((A.length : Int) < 2 * (f : Int) + 1) = false := by simp; omega
        go_wp2_with fail
        go_ret2
        obtain ⟨r1, r2⟩ := vts_of_own rfl hown.out
        refine ⟨.slice ao A.length cp, ?_, hbel, ?_, r2⟩
        · rw [HY.out hlen]; rfl
        · rw [HY.out hlen]; exact r1

end Go.Proofs.Ytdeadekeffficaa
