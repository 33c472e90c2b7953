/- The law NodeProposes holds: for every input the Go function returns true and leaves its arguments as they were. No condition. -/
import Derived.Test.YtannckelmojkoaaGreatPrpB34
namespace Go.Proofs.YtannckelmojkoaaGreat.nodeProposes
open Go.ChangeShapes Go.WideShapes Go.ChangeAt Go.RowKit

set_option maxRecDepth 100000 in
theorem lifted (os : Os) (started : os.Started) (H : Type) (enc : TypeId × Value → H) :
    ReturnsInHanded {} Tryz.checked os 6 .any (Rows.nodeProposesSpec.pre6 enc Tryz.prog Tryz.f6 Rows.nodeProposesRow.domain false) (Rows.nodeProposesSpec.post enc Tryz.prog Tryz.f6 false true false false) := by
  refine returnsInHanded_of_change (C := Tryz.checked) Tryz.own started (by kernel_rfl) Tryz.func6
    (ChangeSpec.witness6 (enc := enc) (C := Tryz.checked) false ⟨#[], #[.int .i64 0, .int .i64 0, .int .i64 0, .slice none 0 0], []⟩ 8 (by kernel_rfl) (by kernel_rfl) (by kernel_rfl) (by kernel_rfl)) ?_
  intro W base args ds gs before hval0 hW _ _
  have hval : ∀ (j : Nat) t v, Tryz.f6.params[j]? = some t → args[j]? = some v → Value.okWide Tryz.prog W .any base t v := hval0
  have hW' := hW
  obtain ⟨p, q, hA0, hV, rfl, hfz, hnd⟩ := hW
  have hA : DataW.TrodAll enc Tryz.prog W 0 (fun _ => true) true Tryz.f6.params.toList args.toList ds p := hA0
  rw [Tryz.params6] at hA hval
  obtain ⟨v0, vs0, d0, ds0, p0, q0, hargs, rfl, rfl, h0, r0⟩ := trodAll_cons hA
  obtain ⟨v1, vs1, d1, ds1, p1, q1, rfl, rfl, rfl, h1, r1⟩ := trodAll_cons r0
  obtain ⟨v2, vs2, d2, ds2, p2, q2, rfl, rfl, rfl, h2, r2⟩ := trodAll_cons r1
  obtain ⟨v3, vs3, d3, ds3, p3, q3, rfl, rfl, rfl, h3, r3⟩ := trodAll_cons r2
  obtain ⟨rfl, rfl, rfl⟩ := trodAll_nil r3
  obtain rfl : args = #[v0, v1, v2, v3] := by cases args; simp_all
  obtain ⟨rfl, rfl⟩ := trodVars_none hV
  obtain ⟨a0, rfl, -, -, -⟩ := open_int Tryz.underlying3 (hval 0 3 v0 rfl rfl) h0
  obtain ⟨a1, rfl, -, -, -⟩ := open_int Tryz.underlying3 (hval 1 3 v1 rfl rfl) h1
  obtain ⟨a2, rfl, -, -, -⟩ := open_int Tryz.underlying3 (hval 2 3 v2 rfl rfl) h2
  obtain ⟨a3, ha3⟩ := ints_of Tryz.underlying69 Tryz.underlying3 (by kernel_rfl) (hval 3 69 v3 rfl rfl) h3
  refine (zv1 a0 a1 a2 v3 a3 ha3).mono fun e W' ⟨he, hg⟩ => ?_
  subst he
  exact ⟨_, rfl, law_post Tryz.laidOut rfl 4 (by kernel_rfl) Tryz.underlying4 (by rw [Tryz.params6]; decide +kernel) hW' hg.below rfl⟩

theorem inPlace : (Rows.nodeProposesRow.inPlace == Tryz.pinned.checked.prog.inPlace 6) = true := by kernel_rfl
theorem unfollowed : (Rows.nodeProposesRow.unfollowed == Tryz.pinned.checked.prog.unfollowed 6) = true := by kernel_rfl
theorem recurses : (Rows.nodeProposesRow.recurses == Tryz.pinned.checked.prog.recurses 6) = true := by kernel_rfl
theorem named : (Rows.nodeProposesRow.named == Tryz.pinned.checked.prog.varsNamed 6) = true := by kernel_rfl
theorem closed : joinedFacts Tryz.pinned.checked.prog 6 Tryz.f6 Rows.nodeProposesSpec Rows.nodeProposesRow = true := by
  unfold joinedFacts
  exact Ov.band (Ov.band (Ov.band (Ov.band (Ov.band (Ov.band (Ov.band (Ov.band (Ov.band (Ov.band (Ov.band (Ov.band (Ov.band (Ov.band (Ov.band (Ov.band (Ov.band (Ov.band (Ov.band (Ov.band (Ov.band (Ov.band (Ov.band (Ov.band (Ov.band (Ov.band (Ov.band (Ov.band (Ov.band (Ov.band (Ov.band (by kernel_rfl) Ov.laid) Ov.maps) (by kernel_rfl)) (by kernel_rfl)) (by kernel_rfl)) Ov.stops) (by kernel_rfl)) Ov.stopKnobs) inPlace) unfollowed) recurses) named) (by as_aux_lemma => kernel_rfl)) (by as_aux_lemma => kernel_rfl)) (by as_aux_lemma => kernel_rfl)) (by as_aux_lemma => kernel_rfl)) (by as_aux_lemma => kernel_rfl)) (by as_aux_lemma => kernel_rfl)) (by as_aux_lemma => kernel_rfl)) (by as_aux_lemma => kernel_rfl)) (by as_aux_lemma => kernel_rfl)) (beq_iff_eq.mpr Ov.plain.symm)) (by kernel_rfl)) Ov.heard) Ov.enter) (beq_iff_eq.mpr Ov.lifts.symm)) Ov.make) (by as_aux_lemma => kernel_rfl)) (by as_aux_lemma => kernel_rfl)) (by as_aux_lemma => kernel_rfl)) (by as_aux_lemma => kernel_rfl)

theorem inst : Tryz.f6.isInstance Tryz.pinned.checked.prog Rows.nodeProposesRow.origin Rows.nodeProposesRow.targs := of_decide_eq_true (by kernel_rfl)
theorem wrap : Tryz.f6.isWrapper Tryz.pinned.checked.prog Rows.nodeProposesRow.wrapper Rows.nodeProposesRow.mainSum := by unfold Func.isWrapper; first | (rw [if_pos (by decide +kernel)]; kernel_rfl) | (rw [if_neg (by decide +kernel)]; exact ⟨rfl, rfl⟩)

theorem over : Rows.nodeProposesRow.holds Tryz.pinned (OpenSpec.ofChange Rows.nodeProposesSpec) :=
  OpenClaim.holds_of_wide 6 Tryz.f6 rfl rfl rfl rfl rfl rfl rfl ⟨rfl, rfl, rfl, rfl, rfl⟩ rfl rfl rfl rfl rfl (by as_aux_lemma => kernel_rfl) Tryz.func6 closed inst wrap
    (fun os started H enc _ => lifted os started H enc)

theorem proved : Rows.NodeProposesSaid := over
#print axioms proved
end Go.Proofs.YtannckelmojkoaaGreat.nodeProposes
