/- Acts that came in: psephoslaw14.Act. -/
import Derived.Test.YtdeadekeffficaaElems
import Derived.Test.YtdeadekeffficaaBatch
namespace Go.Proofs.Ytdeadekeffficaa
open Go.ChangeShapes Go.WideShapes Go.ChangeAt Go.RowKit Go.Deep Go.Heap

theorem Try.cellsInt : Try.prog.cellsOf 3 = 1 := by kernel_rfl
theorem Try.cellsOp : Try.prog.cellsOf 30 = 3 := by kernel_rfl
theorem Try.cellsBatch : Try.prog.cellsOf 33 = 1 := by kernel_rfl

structure Ac where
  act : Int
  kind : Int
  node : Int
  sl : Int
  which : Int
  b : Value
  rs : List Rq

def acCells (a : Ac) : List Value := [.int .i64 a.act, .int .i64 a.kind, .int .i64 a.node, .int .i64 a.sl, .int .i64 a.which, a.b]

/-- v is a slice of the acts xs; each one's batch can be read. -/
def Acts (w : World) (v : Value) (xs : List Ac) : Prop := Reads w v 6 xs.length (xs.flatMap acCells) ∧ ∀ a ∈ xs, Bat w a.b a.rs

theorem Acts.below {w w' : World} {v : Value} {xs : List Ac} (h : Acts w v xs) (hu : Upd [] w w') : Acts w' v xs :=
  ⟨h.1.upd hu (by simp), fun a ha => (h.2 a ha).upd hu (by simp)⟩

theorem Acts.at {w : World} {ao : Option Addr} {n cap : Nat} {xs : List Ac} (h : Acts w (.slice ao n cap) xs) (k : Nat) (hk : k < xs.length) :
    n = xs.length ∧ ∃ b o, ao = some ⟨b, o, none⟩ ∧ b < w.heap.size ∧ w.cell? ⟨b, o + k * 6, none⟩ = some (.int .i64 xs[k].act) ∧ w.cell? ⟨b, o + k * 6 + 1, none⟩ = some (.int .i64 xs[k].kind) ∧ w.cell? ⟨b, o + k * 6 + 2, none⟩ = some (.int .i64 xs[k].node) ∧
      w.cell? ⟨b, o + k * 6 + 3, none⟩ = some (.int .i64 xs[k].sl) ∧ w.cell? ⟨b, o + k * 6 + 4, none⟩ = some (.int .i64 xs[k].which) ∧ w.cell? ⟨b, o + k * 6 + 5, none⟩ = some xs[k].b ∧ Bat w xs[k].b xs[k].rs := by
  obtain ⟨⟨ao', cap', hv, h1, h2, h3, h4, h5⟩, hb⟩ := h
  simp only [Value.slice.injEq] at hv
  obtain ⟨rfl, rfl, rfl⟩ := hv
  obtain ⟨b, o, rfl, hbs, hc⟩ := h5 (by omega)
  have hg : ∀ r, r < 6 → w.cell? ⟨b, o + k * 6 + r, none⟩ = (acCells xs[k])[r]? := by
    intro r hr
    have := hc (k * 6 + r) (by omega)
    rw [flat_get (cells := acCells) (sz := 6) (fun _ => rfl) xs k r xs[k] (by simp) hr] at this
    rw [← this]
    congr 2
    omega
  exact ⟨rfl, b, o, rfl, hbs, hg 0 (by omega), hg 1 (by omega), hg 2 (by omega), hg 3 (by omega), hg 4 (by omega), hg 5 (by omega), hb _ (by simp)⟩

section
variable {H : Type} {enc : TypeId × Value → H} {W : World} {base : Nat} {spare : Nat → Bool} {held : Bool}

theorem int_cell {n : Nat} {t : TypeId} {cs : List Value} {o : Option (DataW H × List MemPlace)} (ht : Try.prog.underlying t = some (.int .i64)) (ho : o.isSome = true) (h : DataW.trod enc Try.prog W base spare held n t cs = o) : ∃ a, cs = [.int .i64 a] := by
  obtain ⟨y, rfl⟩ := Option.isSome_iff_exists.1 ho
  obtain ⟨a, e, _, _⟩ := DataW.trod_int ht h
  exact ⟨a, e⟩

theorem six {cs : List Value} (h : cs.length = 6) : ∃ a b c d e f, cs = [a, b, c, d, e, f] := by
  match cs, h with
  | [a, b, c, d, e, f], _ => exact ⟨a, b, c, d, e, f, rfl⟩

theorem get_some {α : Type} {xs : List α} {n j : Nat} (h : xs.length = n) (hj : j < n) : xs[j]?.isSome = true := by
  rw [List.getElem?_eq_getElem (by omega)]; rfl

theorem req_cells {n : Nat} {cs : List Value} {y : DataW H × List MemPlace} (hl : cs.length = 6) (h : DataW.trod enc Try.prog W base spare held n 32 cs = some y) : ∃ r : Rq, cs = rqCells r ∧ True := by
  obtain ⟨c0, c1, c2, c3, c4, c5, rfl⟩ := six hl
  obtain ⟨ys, n', _, _, _, hyl, hf⟩ := DataW.trod_struct Try.underlying32 h
  obtain ⟨a0, e0⟩ := int_cell Try.underlying3 (get_some hyl (by decide)) (hf 0 _ rfl)
  obtain ⟨a1, e1⟩ := int_cell Try.underlying3 (get_some hyl (by decide)) (hf 1 _ rfl)
  have h2 := hf 2 _ rfl
  obtain ⟨y2, hy2⟩ := Option.isSome_iff_exists.1 (get_some hyl (show 2 < _ by decide))
  rw [hy2] at h2
  obtain ⟨zs, n2, _, _, _, hzl, hz⟩ := DataW.trod_struct Try.underlying30 h2
  obtain ⟨a2, e2⟩ := int_cell Try.underlying3 (get_some hzl (by decide)) (hz 0 _ rfl)
  obtain ⟨a3, e3⟩ := int_cell Try.underlying3 (get_some hzl (by decide)) (hz 1 _ rfl)
  obtain ⟨a4, e4⟩ := int_cell Try.underlying3 (get_some hzl (by decide)) (hz 2 _ rfl)
  obtain ⟨a5, e5⟩ := int_cell Try.underlying3 (get_some hyl (by decide)) (hf 3 _ rfl)
  simp [Try.cellsInt, Try.cellsOp] at e0 e1 e2 e3 e4 e5
  subst e0 e1 e2 e3 e4 e5
  exact ⟨⟨a0, a1, a2, a3, a4, a5⟩, rfl, trivial⟩

theorem bat_of {n : Nat} {v : Value} {y : DataW H × List MemPlace} (h : DataW.trod enc Try.prog W base spare held n 33 [v] = some y) : ∃ rs : List Rq, Bat W v rs := by
  obtain ⟨rs, h1, _⟩ := slice_reads (sz := 6) (cells := rqCells) (Q := fun _ => True) Try.underlying33 (by kernel_rfl) (by omega) (fun _ => rfl) (fun n cs' y hl hy => req_cells hl hy) h
  exact ⟨rs, h1⟩

theorem act_cells {n : Nat} {cs : List Value} {y : DataW H × List MemPlace} (hl : cs.length = 6) (h : DataW.trod enc Try.prog W base spare held n 50 cs = some y) : ∃ a : Ac, cs = acCells a ∧ Bat W a.b a.rs := by
  obtain ⟨c0, c1, c2, c3, c4, c5, rfl⟩ := six hl
  obtain ⟨ys, n', _, _, _, hyl, hf⟩ := DataW.trod_struct Try.underlying50 h
  obtain ⟨a0, e0⟩ := int_cell Try.underlying3 (get_some hyl (by decide)) (hf 0 _ rfl)
  obtain ⟨a1, e1⟩ := int_cell Try.underlying3 (get_some hyl (by decide)) (hf 1 _ rfl)
  obtain ⟨a2, e2⟩ := int_cell Try.underlying3 (get_some hyl (by decide)) (hf 2 _ rfl)
  obtain ⟨a3, e3⟩ := int_cell Try.underlying3 (get_some hyl (by decide)) (hf 3 _ rfl)
  obtain ⟨a4, e4⟩ := int_cell Try.underlying3 (get_some hyl (by decide)) (hf 4 _ rfl)
  have h5 := hf 5 _ rfl
  obtain ⟨y5, hy5⟩ := Option.isSome_iff_exists.1 (get_some hyl (show 5 < _ by decide))
  rw [hy5] at h5
  simp [Try.cellsInt, Try.cellsBatch] at e0 e1 e2 e3 e4 h5
  subst e0 e1 e2 e3 e4
  obtain ⟨rs, hb⟩ := bat_of h5
  exact ⟨⟨a0, a1, a2, a3, a4, c5, rs⟩, rfl, hb⟩

set_option maxRecDepth 100000 in
theorem acts_of {base' : Nat} {v : Value} {d : DataW H} {p : List MemPlace} {r : Reach} (hv : Value.okWide Try.prog W r base' 48 v) (h : DataW.Trod enc Try.prog W base spare held 48 v d p) : ∃ xs : List Ac, Acts W v xs := by
  obtain ⟨ao, len, cap, rfl⟩ := okWide_slice Try.underlying48 hv
  obtain ⟨fuel, hf⟩ := h
  obtain ⟨xs, h1, h2⟩ := slice_reads (sz := 6) (cells := acCells) (Q := fun a => Bat W a.b a.rs) Try.underlying48 (by kernel_rfl) (by omega) (fun _ => rfl) (fun n cs' y hl hy => act_cells hl hy) hf
  exact ⟨xs, h1, h2⟩

end
end Go.Proofs.Ytdeadekeffficaa
