/- psephosref12.Add: a vote more, by rising nodes. -/
import Derived.Test.YtdeadekeffficaaRefFor
namespace Go.Proofs.Ytdeadekeffficaa
open Go.RowKit Go.Heap

theorem Try.infoRv : (Try.prog.info? 113).map (fun i => (i.zero, i.size, i.bytes)) = some (some (.agg #[.int .i64 0, .int .i64 0, .slice none 0 0]), 3, 40) := by kernel_rfl

theorem rvs_cell {w : World} {b o : Nat} {n cap : Nat} {l : List Rv} (h : RVs w (.slice (some ⟨b, o, none⟩) n cap) l) (j : Nat) (hj : j < l.length * 3) : w.cell? ⟨b, o + j, none⟩ = (l.flatMap rvCells)[j]? := by
  obtain ⟨⟨ao', cap', hv, h1, h2, h3, h4, h5⟩, hb⟩ := h
  simp only [Value.slice.injEq] at hv
  obtain ⟨rfl, rfl, rfl⟩ := hv
  obtain ⟨b', o', he, hbs, hc⟩ := h5 (by omega)
  simp only [Option.some.injEq, Addr.mk.injEq, and_true] at he
  obtain ⟨rfl, rfl⟩ := he
  exact hc j hj

theorem rv_len (l : List Rv) : (l.flatMap rvCells).length = l.length * 3 := flat_length (cells := rvCells) (sz := 3) (fun _ => rfl) l

theorem rv_one {w : World} {v : Value} {l : List Rv} (h : RVs w v l) : ∀ u ∈ l.flatMap rvCells, u.oneCell' = true := by
  intro u hu
  simp only [List.mem_flatMap] at hu
  obtain ⟨r, hr, hu⟩ := hu
  obtain ⟨ao, cap, hb⟩ := bat_form (h.2 r hr).1
  simp only [rvCells, hb, List.mem_cons, List.not_mem_nil, or_false] at hu
  rcases hu with rfl | rfl | rfl <;> rfl

def AddNo (w : World) (v : Value) (e : Ending) (w' : World) : Prop := e = .returned (.tuple #[v, .bool false]) ∧ Below w.heap.size w w'

set_option maxHeartbeats 1000000 in
set_option maxRecDepth 100000 in
theorem add_no (v bv : Value) (l : List Rv) (node sl : Int) (rs : List Rq) (w : World) (hn : l.length ≤ 1000) (hv : RVs w v l) (hb : Bat w bv rs) (a : Nat) (ha : a < l.length) (hat : l[a].node = node) (hup : ∀ i (hi : i < l.length), a < i → node < l[i].node) :
    Calls Try.prog 61 #[v, .agg #[.int .i64 node, .int .i64 sl, bv]] w (AddNo w v) := by
  obtain ⟨ao, cap, rfl, hl1, hl2, -⟩ := hv.1
  obtain ⟨bo, bcap, rfl⟩ := bat_form hb
  have hmx : l.length ≤ cap := hl1
  clear hl1 hl2
  have HV := Lib.hid hv
  have HUP := Lib.hid hup
  have HAT := Lib.hid hat
  clear hv hup hat hb
  go_enter Try.func61, Try.ntmps61
  have HB := Lib.hid (show (w.alloc (.cells #[.int .i64 node, .int .i64 sl, .slice bo rs.length bcap] 113)).heap[w.heap.size]? = _ from heap_alloc_new w _)
  go_wp2_with fail
  go_loopw [6] (fun i wr => ∃ k : Nat, a < k ∧ k ≤ l.length ∧ i = .int .i64 k ∧ Below w.heap.size w wr ∧ Hid (wr.heap[w.heap.size]? = some (.cells #[.int .i64 node, .int .i64 sl, .slice bo rs.length bcap] 113 (0, 0)))) (fun i _ => (intOf i).toNat)
  case atStart => exact ⟨l.length, by omega, by omega, rfl, (Below.refl _ _).alloc (Nat.le_refl _) _, HB⟩
  case round =>
    clear HB
    obtain ⟨k, hk, hkl, rfl, hbel, hbox⟩ := hrel
    have hz := hbel.size
    have hvr := HV.out.upd0 (Upd.of_below hbel)
    obtain ⟨-, b, o, rfl, hbs, c0, -⟩ := hvr.at (k - 1) (by omega)
    have x0 : wr.cell? ⟨w.heap.size, 0, none⟩ = some (.int .i64 node) := by rw [block_cell hbox.out]; rfl
    have hk1 : (k : Int) - 1 = ((k - 1 : Nat) : Int) := by omega
    have hsub : IntKind.i64.wrap ((k : Int) - 1) = ((k - 1 : Nat) : Int) := by rw [hk1]; exact IntWalk.i64_in _ (by omega)
    have hk0 : (0 : Int) < (k : Int) := by omega
    clear hvr
    by_cases hka : k = a + 1
    · subst hka
      simp only [Nat.add_sub_cancel] at c0 hsub
      rw [HAT.out] at c0
      have heqb : (node == node) = true := by simp
      go_wp2_with fail
      refine Mix.wp_text2 (by kernel_rfl) (by kernel_rfl) ?_
      go_wp2_with fail
      refine ⟨by rfl, ?_⟩
      go_wp2_with fail
      refine Mix.wp_text2 (by kernel_rfl) (by kernel_rfl) ?_
      go_wp2_with fail
      refine ⟨by rfl, ?_⟩
      go_wp2_with fail
      go_ret2
      exact ⟨rfl, hbel.drew.drew⟩
    · have hlt := HUP.out (k - 1) (by omega) (by omega)
      generalize l[k - 1].node = nd at *
      have hne : (nd == node) = false := by simp; omega
      have hge : node ≤ nd := by omega
      go_wp2_with fail
      refine Mix.wp_text2 (by kernel_rfl) (by kernel_rfl) ?_
      go_wp2_with fail
      refine ⟨by rfl, ?_⟩
      go_wp2_with fail
      refine Mix.wp_text2 (by kernel_rfl) (by kernel_rfl) ?_
      go_wp2_with fail
      refine ⟨by rfl, ?_⟩
      go_wp2_with fail
      go_roundw
      case rel => exact ⟨k - 1, by omega, by omega, by go_num, hbel.drew.drew, hbox⟩
      case measure => simp [intOf]; omega

end Go.Proofs.Ytdeadekeffficaa
