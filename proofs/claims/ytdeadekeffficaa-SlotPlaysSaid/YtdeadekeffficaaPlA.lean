/- psephoslaw14.batch: an act's batch. -/
import Derived.Test.YtdeadekeffficaaSt
import Derived.Test.YtdeadekeffficaaActs
import Derived.Test.YtdeadekeffficaaRefFor
import Derived.Test.YtdeadekeffficaaRes
namespace Go.Proofs.Ytdeadekeffficaa
open Go.RowKit Go.Heap

def batchS (a : Ac) : List Rq := if a.which % 5 ≤ 2 then [rq 0 1] else if a.which % 5 = 3 then [] else a.rs.take 3

/-- What batch gives: a new block, nothing, or the beginning of what came in. -/
def BatchPost (w : World) (a : Ac) (e : Ending) (w' : World) : Prop :=
  ∃ v, e = .returned v ∧ Below w.heap.size w w' ∧ Bat w' v (batchS a) ∧ ∀ k ∈ blkIf (batchS a).length v, (w.heap.size ≤ k ∧ k < w'.heap.size) ∨ k ∈ blkIf a.rs.length a.b

theorem bat_take {w : World} {ao : Option Addr} {n cap : Nat} {rs : List Rq} (h : Bat w (.slice ao n cap) rs) (m : Nat) (hm : m ≤ rs.length) : Bat w (.slice ao m cap) (rs.take m) := by
  obtain ⟨ao', cap', hv, h1, h2, h3, h4, h5⟩ := h
  simp only [Value.slice.injEq] at hv
  obtain ⟨rfl, rfl, rfl⟩ := hv
  have hl : (rs.take m).length = m := by simp; omega
  refine ⟨ao, cap, by rw [hl], by rw [hl]; omega, h2, by rw [rqsCells_length], fun e => ⟨by rw [hl]; have := (h4 e).1; omega, (h4 e).2⟩, fun h0 => ?_⟩
  rw [hl] at h0 ⊢
  obtain ⟨b, o, rfl, hb, hc⟩ := h5 (by omega)
  refine ⟨b, o, rfl, hb, fun j hj => ?_⟩
  rw [hc j (by omega)]
  have : rqsCells rs = rqsCells (rs.take m) ++ rqsCells (rs.drop m) := by rw [rqsCells, rqsCells, rqsCells, ← List.flatMap_append, List.take_append_drop]
  rw [this, List.getElem?_append_left (by rw [rqsCells_length, hl]; exact hj)]

set_option maxHeartbeats 1000000 in
set_option maxRecDepth 100000 in
theorem batch_any (a : Ac) (w : World) (hb : Bat w a.b a.rs) : Calls Try.prog 60 #[.agg #[.int .i64 a.act, .int .i64 a.kind, .int .i64 a.node, .int .i64 a.sl, .int .i64 a.which, a.b]] w (BatchPost w a) := by
  obtain ⟨ao, cap, hv, hl1, hl2, -⟩ := id hb
  have hB := hb
  rw [hv] at hB ⊢
  have HB := Lib.hid hB
  have HV := Lib.hid hv
  have hmx : a.rs.length ≤ 9223372036854775807 := by unfold maxLen at hl2; omega
  clear hb hB hl2 hv
  obtain ⟨hb1, hb2⟩ := emod_in a.which 5 (by omega)
  go_enter Try.func60, Try.ntmps60
  go_wp2_with fail
  refine (Within_any a.which 5 _ (by omega) (by omega)).mono ?_
  rintro e w' ⟨rfl, rfl⟩
  have HS := Lib.hid (show batchS a = if a.which % 5 ≤ 2 then [rq 0 1] else if a.which % 5 = 3 then [] else a.rs.take 3 from rfl)
  generalize a.which % 5 = m at *
  have hm : m = 0 ∨ m = 1 ∨ m = 2 ∨ m = 3 ∨ m = 4 := by omega
  rcases hm with rfl | rfl | rfl | rfl | rfl
  · go_wp2_with fail
    go_ret
    refine ⟨_, rfl, ((Below.refl _ _).alloc (Nat.le_refl _) _).alloc (by simp) _, ?_, ?_⟩
    · rw [HS.out, if_pos (by omega)]
      refine bat_one ?_
      rw [← hs_alloc]
      exact heap_alloc_new _ _
    · intro k hk; have hk := blkIf_sub hk; simp [blkOf] at hk; subst hk; simp
  · go_wp2_with fail
    go_ret
    refine ⟨_, rfl, ((Below.refl _ _).alloc (Nat.le_refl _) _).alloc (by simp) _, ?_, ?_⟩
    · rw [HS.out, if_pos (by omega)]
      refine bat_one ?_
      rw [← hs_alloc]
      exact heap_alloc_new _ _
    · intro k hk; have hk := blkIf_sub hk; simp [blkOf] at hk; subst hk; simp
  · go_wp2_with fail
    go_ret
    refine ⟨_, rfl, ((Below.refl _ _).alloc (Nat.le_refl _) _).alloc (by simp) _, ?_, ?_⟩
    · rw [HS.out, if_pos (by omega)]
      refine bat_one ?_
      rw [← hs_alloc]
      exact heap_alloc_new _ _
    · intro k hk; have hk := blkIf_sub hk; simp [blkOf] at hk; subst hk; simp
  · go_wp2_with fail
    go_ret
    refine ⟨.slice none 0 0, rfl, (Below.refl _ _).alloc (Nat.le_refl _) _, ?_, fun k hk => by have hk := blkIf_sub hk; simp [blkOf] at hk⟩
    have hs : batchS a = [] := by rw [HS.out]; simp
    rw [hs]
    exact Reads.nil _ _
  · have hs : batchS a = a.rs.take 3 := by rw [HS.out]; simp
    clear HS
    have HS := Lib.hid hs
    clear hs
    by_cases h3 : 3 < a.rs.length
    · have h3I : (3 : Int) < (a.rs.length : Int) := by omega
      go_wp2_with fail
      go_ret
      refine ⟨.slice ao 3 cap, rfl, (Below.refl _ _).alloc (Nat.le_refl _) _, ?_, fun k hk => .inr ?_⟩
      · rw [HS.out]
        exact (bat_take HB.out 3 (by omega)).upd (M := []) ((Upd.refl _ _).alloc _) (by simp)
      · rw [HV.out, blkIf, if_pos (by omega)]
        have hk2 := blkIf_sub hk
        cases ao with
        | none => simp [blkOf] at hk2
        | some ad => exact hk2
    · have h3I : ¬ (3 : Int) < (a.rs.length : Int) := by omega
      have h3J : (a.rs.length : Int) ≤ 3 := by omega
      go_wp2_with fail
      go_ret
      refine ⟨.slice ao a.rs.length cap, rfl, (Below.refl _ _).alloc (Nat.le_refl _) _, ?_, fun k hk => .inr ?_⟩
      · rw [HS.out, List.take_of_length_le (by omega)]
        exact HB.out.upd (M := []) ((Upd.refl _ _).alloc _) (by simp)
      · have hk2 := blkIf_sub hk
        unfold blkIf at hk
        split at hk
        · rename_i hp
          rw [HS.out, List.length_take] at hp
          rw [HV.out, blkIf, if_pos (by omega)]; exact hk2
        · simp at hk

end Go.Proofs.Ytdeadekeffficaa
