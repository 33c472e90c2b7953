/- Arguments that are slices: what the walk wants of their cells. -/
import Derived.Test.YtdeadekeffficaaLift
import Derived.Test.YtdeadekeffficaaHeap
namespace Go.Proofs.Ytdeadekeffficaa
open Go.ChangeShapes Go.WideShapes Go.ChangeAt Go.RowKit Go.Heap

/-- v is a slice of the integers zs. -/
def Ints (w : World) (v : Value) (zs : List Int) : Prop := Reads w v 1 zs.length (zs.map fun z => .int .i64 z)

theorem Ints.upd {M : List Nat} {w w' : World} {v : Value} {zs : List Int} (h : Ints w v zs) (hu : Upd M w w') (hm : ∀ b ∈ blkOf v, b ∉ M) : Ints w' v zs := Reads.upd h hu hm

theorem Ints.at {w : World} {ao : Option Addr} {n cap : Nat} {zs : List Int} (h : Ints w (.slice ao n cap) zs) (k : Nat) (hk : k < zs.length) :
    n = zs.length ∧ ∃ b o, ao = some ⟨b, o, none⟩ ∧ b < w.heap.size ∧ w.cell? ⟨b, o + k, none⟩ = some (.int .i64 zs[k]) := by
  obtain ⟨ao', cap', hv, h1, h2, h3, h4, h5⟩ := h
  simp only [Value.slice.injEq] at hv
  obtain ⟨rfl, rfl, rfl⟩ := hv
  obtain ⟨b, o, rfl, hb, hc⟩ := h5 (by omega)
  exact ⟨rfl, b, o, rfl, hb, by rw [hc k (by omega)]; simp [hk]⟩

theorem cell_lt {w : World} {b o : Nat} {v : Value} (h : w.cell? ⟨b, o, none⟩ = some v) : b < w.heap.size := by
  by_cases hb : b < w.heap.size
  · exact hb
  · have : w.heap[b]? = none := by simp; omega
    simp [World.cell?, this] at h

theorem ints_of {H : Type} {enc : TypeId × Value → H} {W : World} {P : Program} {base base' : Nat} {spare : Nat → Bool} {held : Bool} {t e : TypeId} {v : Value} {d : DataW H} {p : List MemPlace} {r : Reach}
    (ht : P.underlying t = some (.slice e)) (he : P.underlying e = some (.int .i64)) (hc : P.cellsOf e = 1) (hv : Value.okWide P W r base' t v) (h : DataW.Trod enc P W base spare held t v d p) :
    ∃ zs : List Int, Ints W v zs := by
  obtain ⟨ao, len, cap, rfl⟩ := okWide_slice ht hv
  obtain ⟨fuel, hf⟩ := h
  rcases open_ints ht he hc hf with ⟨hcs, _⟩ | ⟨a, len', cap', zs, hcs, _, hl, hm, hz, _, hcell, _⟩
  · refine ⟨[], ?_⟩
    simp only [Value.cells, List.cons.injEq, Value.slice.injEq, and_true] at hcs
    obtain ⟨rfl, rfl, rfl⟩ := hcs
    exact Reads.nil _ _
  · simp only [Value.cells, List.cons.injEq, Value.slice.injEq, and_true] at hcs
    obtain ⟨rfl, rfl, rfl⟩ := hcs
    have hzl : len ≤ zs.length := by rw [hz]; split <;> omega
    have hlen : (zs.take len).length = len := by simp; omega
    refine ⟨zs.take len, some a, cap, by rw [hlen], by rw [hlen]; exact hl, hm, by simp, (fun e => by cases e), fun h0 => ?_⟩
    rw [hlen] at h0 ⊢
    obtain ⟨b, o, rfl, hcc⟩ := ints_at hcell (by omega)
    refine ⟨b, o, rfl, cell_lt (hcc 0 (by omega)), fun j hj => ?_⟩
    rw [hcc j (by omega)]
    simp only [List.getElem?_map]
    rw [List.getElem?_take_of_lt (by omega), List.getElem?_eq_getElem (by omega)]
    simp [List.getD, List.getElem?_eq_getElem (show j < zs.length by omega)]

end Go.Proofs.Ytdeadekeffficaa
