/- The law NodeViews holds: for every input the Go function returns true and leaves its arguments as they were. No condition. -/
import Derived.Test.YtannckelmojkoaaGreatVwsB34
namespace Go.Proofs.YtannckelmojkoaaGreat.nodeViews
open Go.ChangeShapes Go.WideShapes Go.ChangeAt Go.RowKit

set_option maxRecDepth 100000 in
theorem lifted (os : Os) (started : os.Started) (H : Type) (enc : TypeId × Value → H) :
    ReturnsInHanded {} Tryz.checked os 3 .any (Rows.nodeViewsSpec.pre6 enc Tryz.prog Tryz.f3 Rows.nodeViewsRow.domain false) (Rows.nodeViewsSpec.post enc Tryz.prog Tryz.f3 false true false false):=by
  refine returnsInHanded_of_change (C:=Tryz.checked) Tryz.own started (by kernel_rfl) Tryz.func3
    (ChangeSpec.witness6 (enc:=enc) (C:=Tryz.checked) false ⟨#[],#[.int .i64 0,.int .i64 0,.int .i64 0,.int .i64 0,.agg #[.int .i64 0,.int .i64 0,.int .i64 0]],[]⟩ 8 (by kernel_rfl) (by kernel_rfl) (by kernel_rfl) (by kernel_rfl)) ?_
  intro W base args ds gs before hval0 hW _ _;have hval: ∀(j:Nat) t v,Tryz.f3.params[j]?=some t→args[j]?=some v→Value.okWide Tryz.prog W .any base t v:=hval0;have hW':=hW;obtain ⟨p,q,hA0,hV,rfl,hfz,hnd⟩:=hW;have hA:DataW.TrodAll enc Tryz.prog W 0 (fun _=>true) true Tryz.f3.params.toList args.toList ds p:=hA0;rw [Tryz.params3] at hA hval;obtain ⟨v0,vs0,d0,ds0,p0,q0,hargs,rfl,rfl,h0,r0⟩:=trodAll_cons hA;obtain ⟨v1,vs1,d1,ds1,p1,q1,rfl,rfl,rfl,h1,r1⟩:=trodAll_cons r0;obtain ⟨v2,vs2,d2,ds2,p2,q2,rfl,rfl,rfl,h2,r2⟩:=trodAll_cons r1;obtain ⟨v3,vs3,d3,ds3,p3,q3,rfl,rfl,rfl,h3,r3⟩:=trodAll_cons r2;obtain ⟨v4,vs4,d4,ds4,p4,q4,rfl,rfl,rfl,h4,r4⟩:=trodAll_cons r3;obtain ⟨rfl,rfl,rfl⟩:=trodAll_nil r4;obtain rfl:args=#[v0,v1,v2,v3,v4]:=by cases args;simp_all
  obtain ⟨rfl,rfl⟩:=trodVars_none hV;obtain ⟨a0,rfl,-,-,-⟩:=open_int Tryz.underlying3 (hval 0 3 v0 rfl rfl) h0;obtain ⟨a1,rfl,-,-,-⟩:=open_int Tryz.underlying3 (hval 1 3 v1 rfl rfl) h1;obtain ⟨a2,rfl,-,-,-⟩:=open_int Tryz.underlying3 (hval 2 3 v2 rfl rfl) h2;obtain ⟨a3,rfl,-,-,-⟩:=open_int Tryz.underlying3 (hval 3 3 v3 rfl rfl) h3;obtain ⟨a4a,a4b,a4c,rfl⟩:=op_arg (hval 4 23 v4 rfl rfl) h4;refine (views21_any a0 a1 a2 a3 a4a a4b a4c W).mono fun e W' ⟨he,hg⟩=> ?_;subst he;exact ⟨_,rfl,law_post Tryz.laidOut rfl 4 (by kernel_rfl) Tryz.underlying4 (by rw [Tryz.params3];decide+kernel) hW' hg.below rfl⟩

theorem inPlace:(Rows.nodeViewsRow.inPlace==Tryz.pinned.checked.prog.inPlace 3)=true:=by kernel_rfl
theorem unfollowed:(Rows.nodeViewsRow.unfollowed==Tryz.pinned.checked.prog.unfollowed 3)=true:=by kernel_rfl
theorem recurses:(Rows.nodeViewsRow.recurses==Tryz.pinned.checked.prog.recurses 3)=true:=by kernel_rfl
theorem named:(Rows.nodeViewsRow.named==Tryz.pinned.checked.prog.varsNamed 3)=true:=by kernel_rfl
theorem closed:joinedFacts Tryz.pinned.checked.prog 3 Tryz.f3 Rows.nodeViewsSpec Rows.nodeViewsRow=true:=by
  unfold joinedFacts;exact Ov.band (Ov.band (Ov.band (Ov.band (Ov.band (Ov.band (Ov.band (Ov.band (Ov.band (Ov.band (Ov.band (Ov.band (Ov.band (Ov.band (Ov.band (Ov.band (Ov.band (Ov.band (Ov.band (Ov.band (Ov.band (Ov.band (Ov.band (Ov.band (Ov.band (Ov.band (Ov.band (Ov.band (Ov.band (Ov.band (Ov.band (by kernel_rfl) Ov.laid) Ov.maps) (by kernel_rfl)) (by kernel_rfl)) (by kernel_rfl)) Ov.stops) (by kernel_rfl)) Ov.stopKnobs) inPlace) unfollowed) recurses) named) (by as_aux_lemma=>kernel_rfl)) (by as_aux_lemma=>kernel_rfl)) (by as_aux_lemma=>kernel_rfl)) (by as_aux_lemma=>kernel_rfl)) (by as_aux_lemma=>kernel_rfl)) (by as_aux_lemma=>kernel_rfl)) (by as_aux_lemma=>kernel_rfl)) (by as_aux_lemma=>kernel_rfl)) (by as_aux_lemma=>kernel_rfl)) (beq_iff_eq.mpr Ov.plain.symm)) (by kernel_rfl)) Ov.heard) Ov.enter) (beq_iff_eq.mpr Ov.lifts.symm)) Ov.make) (by as_aux_lemma=>kernel_rfl)) (by as_aux_lemma=>kernel_rfl)) (by as_aux_lemma=>kernel_rfl)) (by as_aux_lemma=>kernel_rfl)

theorem inst:Tryz.f3.isInstance Tryz.pinned.checked.prog Rows.nodeViewsRow.origin Rows.nodeViewsRow.targs:=of_decide_eq_true (by kernel_rfl)
theorem wrap:Tryz.f3.isWrapper Tryz.pinned.checked.prog Rows.nodeViewsRow.wrapper Rows.nodeViewsRow.mainSum:=by unfold Func.isWrapper;first | (rw [if_pos (by decide+kernel)];kernel_rfl) | (rw [if_neg (by decide+kernel)];exact ⟨rfl,rfl⟩)

theorem over:Rows.nodeViewsRow.holds Tryz.pinned (OpenSpec.ofChange Rows.nodeViewsSpec):=
  OpenClaim.holds_of_wide 3 Tryz.f3 rfl rfl rfl rfl rfl rfl rfl ⟨rfl,rfl,rfl,rfl,rfl⟩ rfl rfl rfl rfl rfl (by as_aux_lemma=>kernel_rfl) Tryz.func3 closed inst wrap
    (fun os started H enc _=>lifted os started H enc)

theorem proved:Rows.NodeViewsSaid:=over
#print axioms proved
end Go.Proofs.YtannckelmojkoaaGreat.nodeViews
