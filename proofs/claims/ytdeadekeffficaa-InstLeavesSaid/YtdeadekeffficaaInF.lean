/- inst: fresh, cert. -/
import Derived.Test.YtdeadekeffficaaInE
import Derived.Test.YtdeadekeffficaaSt
import Derived.Test.YtdeadekeffficaaFresh
import Derived.Test.YtdeadekeffficaaText2
namespace Go.Proofs.Ytdeadekeffficaa
open Go.RowKit Go.Heap

abbrev ctO (view inst seq : Int) (vb vv : Value) : Obj := .cells #[.int .i64 view, .int .i64 inst, .int .i64 seq, vb, vv] 70 (0, 0)

theorem ct_cells {w : World} {b : Nat} {view inst seq : Int} {vb vv : Value} (h : w.heap[b]? = some (ctO view inst seq vb vv)) : w.cell? ⟨b, 0, none⟩ = some (.int .i64 view) ∧ w.cell? ⟨b, 1, none⟩ = some (.int .i64 inst) ∧ w.cell? ⟨b, 2, none⟩ = some (.int .i64 seq) ∧
    w.cell? ⟨b, 3, none⟩ = some vb ∧ w.cell? ⟨b, 4, none⟩ = some vv ∧ b < w.heap.size ∧ ∀ o, w.frozen? ⟨b, o, none⟩ = false :=
  ⟨by rw [block_cell h]; rfl, by rw [block_cell h]; rfl, by rw [block_cell h]; rfl, by rw [block_cell h]; rfl, by rw [block_cell h]; rfl, block_lt h, block_frozen h⟩

/-- What fresh gives: the same in new memory. -/
def FreshP (w : World) (c : Ct) (e : Ending) (w' : World) : Prop :=
  ∃ c' : Ct, e = .returned (ctAgg c') ∧ c'.cp = c.cp ∧ Upd [] w w' ∧ Bat w' c'.vb c'.rs ∧ Vts w' c'.vv c'.vs ∧ (∀ k ∈ blkOf c'.vb, w.heap.size ≤ k) ∧ ∀ k ∈ blkOf c'.vv, w.heap.size ≤ k

theorem vsCells_one (l : Vs) : ∀ u ∈ vsCells l, u.oneCell' = true := by
  intro u hu
  simp only [vsCells, List.mem_flatMap] at hu
  obtain ⟨r, _, h⟩ := hu
  simp only [List.mem_cons, List.not_mem_nil, or_false] at h
  rcases h with rfl | rfl <;> rfl

theorem row_shape {w : World} {B E sz n : Nat} {v : Value} {xs : List Value} (h : w.ownsRow B E sz v n xs) : ∃ ao cap, v = .slice ao n cap := by
  rcases h.2 with ⟨rfl, rfl⟩ | ⟨g, cap, cur, rfl, _⟩
  · exact ⟨none, 0, rfl⟩
  · exact ⟨_, cap, rfl⟩
theorem owns_reads {w : World} {B E sz n : Nat} {v : Value} {xs : List Value} (h : w.ownsRow B E sz v n xs) : Reads w v sz n xs := by
  rcases h.2 with ⟨rfl, rfl⟩ | ⟨g, cap, cur, rfl, _⟩
  · have : xs = [] := List.eq_nil_of_length_eq_zero (by simpa using h.1)
    subst this
    exact Reads.nil _ _
  · exact Reads.of_own h
theorem owns_new {w : World} {B E sz n : Nat} {v : Value} {xs : List Value} (h : w.ownsRow B E sz v n xs) : ∀ k ∈ blkOf v, B ≤ k ∧ k < w.heap.size := by
  intro k hk
  rcases h.2 with ⟨rfl, rfl⟩ | ⟨g, cap, cur, rfl, hb, hg, _⟩
  · simp [blkOf] at hk
  · simp [blkOf] at hk; subst hk; exact ⟨hb, block_lt hg⟩

set_option maxHeartbeats 1000000 in
theorem fresh_ct (c : Ct) (w : World) (hb : Bat w c.vb c.rs) (hbn : c.rs.length ≤ 100000) (hv : Vts w c.vv c.vs) (hvn : c.vs.length ≤ 100000) :
    Calls Try.prog 67 #[ctAgg c] w (FreshP w c) := by
  obtain ⟨i0, hi, hz0, hz1, hz2⟩ := info_parts Try.infoReq
  obtain ⟨j0, hj, hy0, hy1, hy2⟩ := info_parts Try.infoVote
  obtain ⟨view, inst, seq, vb, vv, rs, vs⟩ := c
  simp only at hb hbn hv hvn
  obtain ⟨ao, cap, rfl⟩ := bat_form hb
  obtain ⟨co, cav, rfl⟩ := vts_form hv
  have h1 := (((((Own.start (Below.refl w.heap.size w) (Nat.le_refl _)).red hb (by simp [Ms])).red hv (by simp [Ms, redR, imm])).box (ctO view inst seq (.slice ao rs.length cap) (.slice co vs.length cav))).box (ctO 0 0 0 (.slice none 0 0) (.slice none 0 0)))
  simp only [hs_alloc] at h1
  have H1 := Lib.hid h1
  clear hb hv h1
  go_enter Try.func67, Try.ntmps67
  go_upto_region 1 with fail
  generalize (w.alloc (ctO view inst seq (.slice ao rs.length cap) (.slice co vs.length cav))).alloc (ctO 0 0 0 (.slice none 0 0) (.slice none 0 0)) = w1 at *
  obtain ⟨f0, f1, f2, f3, f4, fl, fz⟩ := ct_cells H1.out.drop.blk_out
  clear fz
  go_wp2_with (at_builtin; refine wpList_fresh rfl (.tmp 4) 33 rfl 32 i0 (.agg #[.int .i64 0, .int .i64 0, .int .i64 0, .int .i64 0, .int .i64 0, .int .i64 0]) 6 48 Try.underlying33 hi hz0 hz1 hz2 rfl (by decide) _ _ _ rfl (redR_out H1.out.drop.drop.drop.head) (rqsCells_one rs) (by omega) ?_)
  intro v2 w2 hown2 hu2
  obtain ⟨ao2, cap2, rfl⟩ := row_shape hown2
  have H2 := Lib.hid ((H1.out.row1 hu2 hown2).swap.rot)
  clear f0 f1 f2 f3 f4 fl hown2 hu2 H1
  obtain ⟨f0, f1, f2, f3, f4, fl, fz⟩ := ct_cells H2.out.blk_out
  have fz3 := fz 3
  clear fz
  go_upto_region 2 with fail
  have H3 := Lib.hid (H2.out.store 3 (.slice ao2 rs.length cap2))
  generalize w2.setCell ⟨w.heap.size, 3, none⟩ (.slice ao2 rs.length cap2) = w3 at *
  clear f0 f1 f2 f3 f4 fl fz3 H2
  obtain ⟨f0, f1, f2, f3, f4, fl, fz⟩ := ct_cells H3.out.blk_out
  clear fz
  go_wp2_with (at_builtin; refine wpList_fresh rfl (.tmp 8) 37 rfl 44 j0 (.agg #[.int .i64 0, .int .i64 0]) 2 16 Try.underlying37 hj hy0 hy1 hy2 rfl (by decide) _ _ _ rfl (redR_out H3.out.drop.drop.drop.head) (vsCells_one vs) (by omega) ?_)
  intro v4 w4 hown4 hu4
  obtain ⟨ao4, cap4, rfl⟩ := row_shape hown4
  have H4 := Lib.hid ((H3.out.row1 hu4 hown4).swap)
  clear f0 f1 f2 f3 f4 fl hown4 hu4 H3
  obtain ⟨f0, f1, f2, f3, f4, fl, fz⟩ := ct_cells H4.out.blk_out
  have fz4 := fz 4
  clear fz
  go_upto_region 3 with fail
  have H5 := Lib.hid (H4.out.store 4 (.slice ao4 vs.length cap4))
  generalize w4.setCell ⟨w.heap.size, 4, none⟩ (.slice ao4 vs.length cap4) = w5 at *
  clear f0 f1 f2 f3 f4 fl fz4 H4
  obtain ⟨f0, f1, f2, f3, f4, fl, fz⟩ := ct_cells H5.out.blk_out
  obtain ⟨g0, g1, g2, g3, g4, gl, gz⟩ := ct_cells H5.out.drop.drop.blk_out
  have gz0 := gz 0
  have gz1 := gz 1
  have gz2 := gz 2
  have gz3 := gz 3
  have gz4 := gz 4
  clear fz gz
  go_wp2_with fail
  have H6 := Lib.hid ((((((H5.out.rot.store 0 (.int .i64 view)).store 1 (.int .i64 inst)).store 2 (.int .i64 seq)).store 3 (.slice ao2 rs.length cap2)).store 4 (.slice ao4 vs.length cap4)))
  generalize ((((w5.setCell ⟨w.heap.size + 1, 0, none⟩ (.int .i64 view)).setCell ⟨w.heap.size + 1, 1, none⟩ (.int .i64 inst)).setCell ⟨w.heap.size + 1, 2, none⟩ (.int .i64 seq)).setCell ⟨w.heap.size + 1, 3, none⟩ (.slice ao2 rs.length cap2)).setCell ⟨w.heap.size + 1, 4, none⟩ (.slice ao4 vs.length cap4) = w6 at *
  clear f0 f1 f2 f3 f4 fl g0 g1 g2 g3 g4 gl gz0 gz1 gz2 gz3 gz4 H5
  obtain ⟨f0, f1, f2, f3, f4, fl, fz⟩ := ct_cells H6.out.blk_out
  have r1 := ownR_owns H6.out.drop.drop.head
  have r2 := ownR_owns H6.out.drop.drop.drop.head
  refine bodyPost_ret (v := ctAgg ⟨view, inst, seq, .slice ao2 rs.length cap2, .slice ao4 vs.length cap4, rs, vs⟩) (by simp [results, Try.results67, go_sem, f0, f1, f2, f3, f4]) rfl ⟨⟨view, inst, seq, .slice ao2 rs.length cap2, .slice ao4 vs.length cap4, rs, vs⟩, rfl, rfl, Upd.of_below H6.out.below, owns_reads r2, owns_reads r1, ?_, ?_⟩
  · exact (H6.out.drop.drop.drop.all _ List.mem_cons_self).2
  · exact (H6.out.drop.drop.all _ List.mem_cons_self).2

set_option maxHeartbeats 1000000 in
set_option maxRecDepth 100000 in
theorem cert_any (i : Nat) (f : Nat) (num ahead view : Int) (on : Bool) (v : Value) (seq : Int) (ao : Option Addr) (n cap : Nat) (co : Option Addr) (m cav : Nat) (w : World) (h : w.heap[i]? = some (insO f num ahead view on v)) :
    Calls Try.prog 66 #[.pointer (some ⟨i, 0, none⟩), .int .i64 seq, .slice ao n cap, .slice co m cav] w fun e w' => e = .returned (.agg #[.int .i64 view, .int .i64 num, .int .i64 seq, .slice ao n cap, .slice co m cav]) ∧ Upd [] w w' := by
  have hl := block_lt h
  have h1 : w.cell? ⟨i, 1, none⟩ = some (.int .i64 num) := by rw [block_cell h]; rfl
  have h3 : w.cell? ⟨i, 3, none⟩ = some (.int .i64 view) := by rw [block_cell h]; rfl
  clear h
  go_enter Try.func66, Try.ntmps66
  go_wp2_with fail
  refine Mix.wp_text2 (by kernel_rfl) (by kernel_rfl) ?_
  go_wp2_with fail
  refine ⟨by rfl, ?_⟩
  go_wp2_with fail
  exact bodyPost_ret (v := .agg #[.int .i64 view, .int .i64 num, .int .i64 seq, .slice ao n cap, .slice co m cav]) (by simp [results, Try.results66, go_sem]) rfl ⟨rfl, ((Upd.refl _ _).alloc _).drew⟩

end Go.Proofs.Ytdeadekeffficaa
