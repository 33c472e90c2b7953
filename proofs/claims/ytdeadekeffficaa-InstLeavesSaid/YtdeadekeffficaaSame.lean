/- reqs.Same: are two batches the same? -/
import Derived.Test.YtdeadekeffficaaBatch
namespace Go.Proofs.Ytdeadekeffficaa
open Go.RowKit Go.Heap

def rqAgg (r : Rq) : Value := .agg #[.int .i64 r.client, .int .i64 r.time, .int .i64 r.kind, .int .i64 r.key, .int .i64 r.val, .int .i64 r.sl]

theorem Try.stoodReq : Try.prog.stoodInHeld 32 = false := by kernel_rfl
theorem Try.stoodOp : Try.prog.stoodInHeld 30 = false := by kernel_rfl
theorem Try.guardReq : Try.prog.eqGuardType Try.prog.depth 32 = false := by kernel_rfl
theorem Try.fieldsReq : Try.prog.underlying 32 = some (.struct (Try.prog.fieldsOf 32)) := by kernel_rfl
theorem Try.fieldsOp : Try.prog.underlying 30 = some (.struct (Try.prog.fieldsOf 30)) := by kernel_rfl

theorem run_equal_req (r s : Rq) (w : World) : (Op.equalIn 10000 32 (rqAgg r) (rqAgg s)).run Try.prog w = .ok (decide (r = s)) w := by
  obtain ⟨a, b, c, d, e, f⟩ := r
  obtain ⟨a', b', c', d', e', f'⟩ := s
  simp [rqAgg, go_sem]
  by_cases h1 : a = a'
  · by_cases h2 : b = b'
    · by_cases h3 : c = c'
      · by_cases h4 : d = d'
        · by_cases h5 : e = e'
          · by_cases h6 : f = f' <;> simp [*]
          · simp [*]
        · simp [*]
      · simp [*]
    · simp [*]
  · simp [*]

theorem addr_add (b o j : Nat) : (⟨b, o, none⟩ : Addr).add j = ⟨b, o + j, none⟩ := by unfold Addr.add; split <;> simp_all

/-- The cells of element k, as the walk spells them. -/
theorem bat_cells {w : World} {b o : Nat} {rs : List Rq} (hc : ∀ j, j < rs.length * 6 → w.cell? ⟨b, o + j, none⟩ = (rqsCells rs)[j]?) (k : Nat) (p : Rq) (hp : rs[k]? = some p) :
    w.cell? ⟨b, o + k * 6, none⟩ = some (.int .i64 p.client) ∧ w.cell? ⟨b, o + k * 6 + 1, none⟩ = some (.int .i64 p.time) ∧ w.cell? ⟨b, o + k * 6 + 2, none⟩ = some (.int .i64 p.kind) ∧
    w.cell? ⟨b, o + k * 6 + 3, none⟩ = some (.int .i64 p.key) ∧ w.cell? ⟨b, o + k * 6 + 4, none⟩ = some (.int .i64 p.val) ∧ w.cell? ⟨b, o + k * 6 + 5, none⟩ = some (.int .i64 p.sl) := by
  have hk := (List.getElem?_eq_some_iff.1 hp).1
  obtain ⟨e0, e1, e2, e3, e4, e5⟩ := rqsCells_get rs k p hp
  refine ⟨?_, ?_, ?_, ?_, ?_, ?_⟩
  · exact (hc _ (by omega)).trans e0
  · exact (hc (k * 6 + 1) (by omega)).trans e1
  · exact (hc (k * 6 + 2) (by omega)).trans e2
  · exact (hc (k * 6 + 3) (by omega)).trans e3
  · exact (hc (k * 6 + 4) (by omega)).trans e4
  · exact (hc (k * 6 + 5) (by omega)).trans e5

theorem cells_below {w wr : World} {b o n : Nat} {xs : List Value} {B : Nat} (hb : Below B w wr) (hlt : b < B) (hc : ∀ j, j < n → w.cell? ⟨b, o + j, none⟩ = xs[j]?) : ∀ j, j < n → wr.cell? ⟨b, o + j, none⟩ = xs[j]? :=
  fun j hj => (hb.cell (p := ⟨b, o + j, none⟩) hlt).trans (hc j hj)

theorem take_same {α : Type} {rs ss : List α} {k : Nat} (h : rs.take k = ss.take k) (hk : k < rs.length) (hk' : k < ss.length) (he : rs[k] = ss[k]) : rs.take (k + 1) = ss.take (k + 1) := by
  rw [List.take_succ_eq_append_getElem hk, List.take_succ_eq_append_getElem hk', h, he]

set_option maxHeartbeats 400000 in
theorem same_any (v u : Value) (rs ss : List Rq) (w : World) (hn : rs.length ≤ 100000) (hm : ss.length ≤ 100000) (h : Bat w v rs) (h' : Bat w u ss) :
    Calls Try.prog 84 #[v, u] w fun e w' => e = .returned (.bool (decide (rs = ss))) ∧ Upd [] w w' := by
  obtain ⟨ao, cap, rfl, h1, h2, h3, h4, h5⟩ := h
  obtain ⟨bo, cap', rfl, k1, k2, k3, k4, k5⟩ := h'
  clear h1 h2 h3 h4 k1 k2 k3 k4
  have H5 := Lib.hid h5
  have K5 := Lib.hid k5
  clear h5 k5
  by_cases hlen : rs.length = ss.length
  · have HL := Lib.hid hlen
    have hlb : ((rs.length : Int) != (ss.length : Int)) = false := by simp [hlen]
    have hle1 : rs.length ≤ ss.length := by omega
    have hle2 : ss.length ≤ rs.length := by omega
    clear hlen
    go_enter Try.func84, Try.ntmps84
    go_wp2_with fail
    go_loopw [14] (fun i wr => ∃ k : Nat, k ≤ rs.length ∧ i = .int .i64 k ∧ rs.take k = ss.take k ∧ Below w.heap.size w wr) (fun i _ => rs.length - (intOf i).toNat)
    case atStart => exact ⟨0, by omega, rfl, by simp, Below.refl _ _⟩
    case round =>
      obtain ⟨k, hk, rfl, he, hb⟩ := hrel
      have HE := Lib.hid he
      clear he
      by_cases hlt : k < rs.length
      · obtain ⟨b, o, rfl, hbs, hc⟩ := H5.out (by omega)
        obtain ⟨b', o', rfl, hbs', hc'⟩ := K5.out (by omega)
        have hlt' : k < ss.length := by omega
        obtain ⟨q0, q1, q2, q3, q4, q5⟩ := bat_cells (cells_below hb hbs hc) k rs[k] (by simp)
        obtain ⟨p0, p1, p2, p3, p4, p5⟩ := bat_cells (cells_below hb hbs' hc') k ss[k] (by simp)
        clear hc hc'
        have hkI : (k : Int) < (ss.length : Int) := by omega
        have hbw : b' < wr.heap.size := Nat.lt_of_lt_of_le hbs' hb.size
        have hbn : b' ≠ wr.heap.size := by omega
        by_cases he : rs[k] = ss[k]
        · have heq : ∀ wx, (Op.equalIn 10000 32 (rqAgg rs[k]) (rqAgg ss[k])).run Try.prog wx = .ok true wx := fun wx => by rw [run_equal_req]; simp [he]
          have HEK := Lib.hid he
          clear he
          unfold rqAgg at heq
          have hgd := Try.guardReq
          go_wp2_with fail
          go_quiet (fail)
          go_wp2_with fail
          go_roundw
          case rel => exact ⟨k + 1, by omega, by go_num, take_same HE.out hlt hlt' HEK.out, below_drewN (hb.alloc hb.size _) _⟩
          case measure => simp [intOf]; omega
        · have heq : ∀ wx, (Op.equalIn 10000 32 (rqAgg rs[k]) (rqAgg ss[k])).run Try.prog wx = .ok false wx := fun wx => by rw [run_equal_req]; simp [he]
          have HEK := Lib.hid he
          clear he
          unfold rqAgg at heq
          have hgd := Try.guardReq
          go_wp2_with fail
          go_quiet (fail)
          go_wp2_with fail
          go_ret
          refine ⟨ret_bool ?_, Upd.of_below (below_drewN (hb.alloc hb.size _) _)⟩
          symm
          rw [decide_eq_false_iff_not]
          intro e
          subst e
          exact HEK.out rfl
      · go_wp2_with fail
        go_ret
        refine ⟨ret_bool ?_, Upd.of_below hb⟩
        symm
        rw [decide_eq_true_iff]
        have h1 := HE.out
        rw [List.take_of_length_le (by omega), List.take_of_length_le (by omega)] at h1
        exact h1
  · have hlb : ((rs.length : Int) != (ss.length : Int)) = true := by simp; omega
    have HL := Lib.hid hlen
    clear hlen
    go_enter Try.func84, Try.ntmps84
    go_wp2_with fail
    go_ret
    refine ⟨ret_bool ?_, Upd.refl _ _⟩
    symm
    rw [decide_eq_false_iff_not]
    intro e
    exact HL.out (by rw [e])

end Go.Proofs.Ytdeadekeffficaa
