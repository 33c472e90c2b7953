/-
  No cell of these rows narrows 'for every input' (looked for: loops, veiled, ifaces, maps, wideKeys, modest, calm, conditions, laid).
  DERIVED. THE GIVEN ROWS OF THIS SEAT. 14 by the template 'for every input the law returns true; each argument reads behind the call as it read before'; 0 by the template 'total and deterministic' (their statements: YtdeadekeffficaaTotals.lean).
  GIVEN WITH THE SEED: the statements are not yours to turn. If you find one false, say at which input.
  Laid BY PROGRAM, IN A SANDBOX (cutbox-rows.mjs): the forced cells as the released guide's own fill.sh prints them over the translation dfc77c2d390af381… (all of the seat's roots in one cut). By AI agents, Wed Nov 11 2026. No macro, syntax, notation, axiom, sorry.
-/
import Derived.Test.YtdeadekeffficaaChecked
import GoSem.Claim
import GoSem.ClaimJoined
import GoSem.ClaimMapViews
import Derived.JoinedTies
import Derived.KernelRfl
namespace Go.Proofs.Ytdeadekeffficaa
/- THE CELL 'sum', in the pinned program and in every row, IS THE sha256 OF THE DUMP (.gsa) THAT YtdeadekeffficaaProg.lean LOADS. Nothing in Lean hashes anything: it is a label: what it is worth is what the hold of that sum in a sandbox is worth. -/
noncomputable def Try.pinned : Pinned := { name := "ytdeadekeffficaa", sum := "dfc77c2d390af381dc600d9c1687aab072802ea8752ec1c89e3c5d8843c645b0", checked := Try.checked }
namespace Rows
def none {H : Type} : Left H := { results := [], args := [] }

/-- 'psephoslaw14.SlotOrders': WHATEVER THE INPUT: true; the input reads as it did. -/
def slotOrdersSpec : ChangeSpec := { name := "slotOrders", fn := fun _ => fun
  | [d1, d2, d3] => { results := [.lit (.bool true)], args := [d1, d2, d3] }
  | _ => none }
def slotOrdersRow : OpenClaim := { program := "ytdeadekeffficaa", sum := "dfc77c2d390af381dc600d9c1687aab072802ea8752ec1c89e3c5d8843c645b0", func := "psephos/psephoslaw14.SlotOrders", spec := "slotOrders", apart := false }
def SlotOrdersSaid : Prop := slotOrdersRow.holds Try.pinned (OpenSpec.ofChange slotOrdersSpec)

/-- ITS FALSE NEIGHBOUR: 'it returns false'. Refute it at one input. -/
def slotOrdersWrong : ChangeSpec := { name := "slotOrders", fn := fun _ => fun
  | [d1, d2, d3] => { results := [.lit (.bool false)], args := [d1, d2, d3] }
  | _ => none }
def SlotOrdersWrongFalsely : Prop := slotOrdersRow.holds Try.pinned (OpenSpec.ofChange slotOrdersWrong)

/-- 'psephoslaw14.SlotLowest': WHATEVER THE INPUT: true; the input reads as it did. -/
def slotLowestSpec : ChangeSpec := { name := "slotLowest", fn := fun _ => fun
  | [d1, d2, d3] => { results := [.lit (.bool true)], args := [d1, d2, d3] }
  | _ => none }
def slotLowestRow : OpenClaim := { program := "ytdeadekeffficaa", sum := "dfc77c2d390af381dc600d9c1687aab072802ea8752ec1c89e3c5d8843c645b0", func := "psephos/psephoslaw14.SlotLowest", spec := "slotLowest", apart := false }
def SlotLowestSaid : Prop := slotLowestRow.holds Try.pinned (OpenSpec.ofChange slotLowestSpec)

/-- ITS FALSE NEIGHBOUR: 'it returns false'. Refute it at one input. -/
def slotLowestWrong : ChangeSpec := { name := "slotLowest", fn := fun _ => fun
  | [d1, d2, d3] => { results := [.lit (.bool false)], args := [d1, d2, d3] }
  | _ => none }
def SlotLowestWrongFalsely : Prop := slotLowestRow.holds Try.pinned (OpenSpec.ofChange slotLowestWrong)

/-- 'psephoslaw14.SlotQuorums': WHATEVER THE INPUT: true; the input reads as it did. -/
def slotQuorumsSpec : ChangeSpec := { name := "slotQuorums", fn := fun _ => fun
  | [d1, d2] => { results := [.lit (.bool true)], args := [d1, d2] }
  | _ => none }
def slotQuorumsRow : OpenClaim := { program := "ytdeadekeffficaa", sum := "dfc77c2d390af381dc600d9c1687aab072802ea8752ec1c89e3c5d8843c645b0", func := "psephos/psephoslaw14.SlotQuorums", spec := "slotQuorums", apart := false }
def SlotQuorumsSaid : Prop := slotQuorumsRow.holds Try.pinned (OpenSpec.ofChange slotQuorumsSpec)

/-- ITS FALSE NEIGHBOUR: 'it returns false'. Refute it at one input. -/
def slotQuorumsWrong : ChangeSpec := { name := "slotQuorums", fn := fun _ => fun
  | [d1, d2] => { results := [.lit (.bool false)], args := [d1, d2] }
  | _ => none }
def SlotQuorumsWrongFalsely : Prop := slotQuorumsRow.holds Try.pinned (OpenSpec.ofChange slotQuorumsWrong)

/-- 'psephoslaw14.SlotNull': WHATEVER THE INPUT: true; the input reads as it did. -/
def slotNullSpec : ChangeSpec := { name := "slotNull", fn := fun _ => fun
  | [d] => { results := [.lit (.bool true)], args := [d] }
  | _ => none }
def slotNullRow : OpenClaim := { program := "ytdeadekeffficaa", sum := "dfc77c2d390af381dc600d9c1687aab072802ea8752ec1c89e3c5d8843c645b0", func := "psephos/psephoslaw14.SlotNull", spec := "slotNull", apart := false }
def SlotNullSaid : Prop := slotNullRow.holds Try.pinned (OpenSpec.ofChange slotNullSpec)

/-- ITS FALSE NEIGHBOUR: 'it returns false'. Refute it at one input. -/
def slotNullWrong : ChangeSpec := { name := "slotNull", fn := fun _ => fun
  | [d] => { results := [.lit (.bool false)], args := [d] }
  | _ => none }
def SlotNullWrongFalsely : Prop := slotNullRow.holds Try.pinned (OpenSpec.ofChange slotNullWrong)

/-- 'psephoslaw14.SlotPlays': WHATEVER THE INPUT: true; the input reads as it did. -/
def slotPlaysSpec : ChangeSpec := { name := "slotPlays", fn := fun _ => fun
  | [d1, d2, d3] => { results := [.lit (.bool true)], args := [d1, d2, d3] }
  | _ => none }
def slotPlaysRow : OpenClaim := { program := "ytdeadekeffficaa", sum := "dfc77c2d390af381dc600d9c1687aab072802ea8752ec1c89e3c5d8843c645b0", func := "psephos/psephoslaw14.SlotPlays", spec := "slotPlays", apart := false }
def SlotPlaysSaid : Prop := slotPlaysRow.holds Try.pinned (OpenSpec.ofChange slotPlaysSpec)

/-- ITS FALSE NEIGHBOUR: 'it returns false'. Refute it at one input. -/
def slotPlaysWrong : ChangeSpec := { name := "slotPlays", fn := fun _ => fun
  | [d1, d2, d3] => { results := [.lit (.bool false)], args := [d1, d2, d3] }
  | _ => none }
def SlotPlaysWrongFalsely : Prop := slotPlaysRow.holds Try.pinned (OpenSpec.ofChange slotPlaysWrong)

/-- 'psephoslaw14.SlotOther': WHATEVER THE INPUT: true; the input reads as it did. -/
def slotOtherSpec : ChangeSpec := { name := "slotOther", fn := fun _ => fun
  | [d1, d2] => { results := [.lit (.bool true)], args := [d1, d2] }
  | _ => none }
def slotOtherRow : OpenClaim := { program := "ytdeadekeffficaa", sum := "dfc77c2d390af381dc600d9c1687aab072802ea8752ec1c89e3c5d8843c645b0", func := "psephos/psephoslaw14.SlotOther", spec := "slotOther", apart := false }
def SlotOtherSaid : Prop := slotOtherRow.holds Try.pinned (OpenSpec.ofChange slotOtherSpec)

/-- ITS FALSE NEIGHBOUR: 'it returns false'. Refute it at one input. -/
def slotOtherWrong : ChangeSpec := { name := "slotOther", fn := fun _ => fun
  | [d1, d2] => { results := [.lit (.bool false)], args := [d1, d2] }
  | _ => none }
def SlotOtherWrongFalsely : Prop := slotOtherRow.holds Try.pinned (OpenSpec.ofChange slotOtherWrong)

/-- 'psephoslaw15.InstGaps': WHATEVER THE INPUT: true; the input reads as it did. -/
def instGapsSpec : ChangeSpec := { name := "instGaps", fn := fun _ => fun
  | [d] => { results := [.lit (.bool true)], args := [d] }
  | _ => none }
def instGapsRow : OpenClaim := { program := "ytdeadekeffficaa", sum := "dfc77c2d390af381dc600d9c1687aab072802ea8752ec1c89e3c5d8843c645b0", func := "psephos/psephoslaw15.InstGaps", spec := "instGaps", apart := false }
def InstGapsSaid : Prop := instGapsRow.holds Try.pinned (OpenSpec.ofChange instGapsSpec)

/-- ITS FALSE NEIGHBOUR: 'it returns false'. Refute it at one input. -/
def instGapsWrong : ChangeSpec := { name := "instGaps", fn := fun _ => fun
  | [d] => { results := [.lit (.bool false)], args := [d] }
  | _ => none }
def InstGapsWrongFalsely : Prop := instGapsRow.holds Try.pinned (OpenSpec.ofChange instGapsWrong)

/-- 'psephoslaw15.InstWindow': WHATEVER THE INPUT: true; the input reads as it did. -/
def instWindowSpec : ChangeSpec := { name := "instWindow", fn := fun _ => fun
  | [d1, d2, d3] => { results := [.lit (.bool true)], args := [d1, d2, d3] }
  | _ => none }
def instWindowRow : OpenClaim := { program := "ytdeadekeffficaa", sum := "dfc77c2d390af381dc600d9c1687aab072802ea8752ec1c89e3c5d8843c645b0", func := "psephos/psephoslaw15.InstWindow", spec := "instWindow", apart := false }
def InstWindowSaid : Prop := instWindowRow.holds Try.pinned (OpenSpec.ofChange instWindowSpec)

/-- ITS FALSE NEIGHBOUR: 'it returns false'. Refute it at one input. -/
def instWindowWrong : ChangeSpec := { name := "instWindow", fn := fun _ => fun
  | [d1, d2, d3] => { results := [.lit (.bool false)], args := [d1, d2, d3] }
  | _ => none }
def InstWindowWrongFalsely : Prop := instWindowRow.holds Try.pinned (OpenSpec.ofChange instWindowWrong)

/-- 'psephoslaw15.InstAdopts': WHATEVER THE INPUT: true; the input reads as it did. -/
def instAdoptsSpec : ChangeSpec := { name := "instAdopts", fn := fun _ => fun
  | [d1, d2, d3] => { results := [.lit (.bool true)], args := [d1, d2, d3] }
  | _ => none }
def instAdoptsRow : OpenClaim := { program := "ytdeadekeffficaa", sum := "dfc77c2d390af381dc600d9c1687aab072802ea8752ec1c89e3c5d8843c645b0", func := "psephos/psephoslaw15.InstAdopts", spec := "instAdopts", apart := false }
def InstAdoptsSaid : Prop := instAdoptsRow.holds Try.pinned (OpenSpec.ofChange instAdoptsSpec)

/-- ITS FALSE NEIGHBOUR: 'it returns false'. Refute it at one input. -/
def instAdoptsWrong : ChangeSpec := { name := "instAdopts", fn := fun _ => fun
  | [d1, d2, d3] => { results := [.lit (.bool false)], args := [d1, d2, d3] }
  | _ => none }
def InstAdoptsWrongFalsely : Prop := instAdoptsRow.holds Try.pinned (OpenSpec.ofChange instAdoptsWrong)

/-- 'psephoslaw15.InstCerts': WHATEVER THE INPUT: true; the input reads as it did. -/
def instCertsSpec : ChangeSpec := { name := "instCerts", fn := fun _ => fun
  | [d1, d2, d3] => { results := [.lit (.bool true)], args := [d1, d2, d3] }
  | _ => none }
def instCertsRow : OpenClaim := { program := "ytdeadekeffficaa", sum := "dfc77c2d390af381dc600d9c1687aab072802ea8752ec1c89e3c5d8843c645b0", func := "psephos/psephoslaw15.InstCerts", spec := "instCerts", apart := false }
def InstCertsSaid : Prop := instCertsRow.holds Try.pinned (OpenSpec.ofChange instCertsSpec)

/-- ITS FALSE NEIGHBOUR: 'it returns false'. Refute it at one input. -/
def instCertsWrong : ChangeSpec := { name := "instCerts", fn := fun _ => fun
  | [d1, d2, d3] => { results := [.lit (.bool false)], args := [d1, d2, d3] }
  | _ => none }
def InstCertsWrongFalsely : Prop := instCertsRow.holds Try.pinned (OpenSpec.ofChange instCertsWrong)

/-- 'psephoslaw15.InstOnce': WHATEVER THE INPUT: true; the input reads as it did. -/
def instOnceSpec : ChangeSpec := { name := "instOnce", fn := fun _ => fun
  | [d1, d2] => { results := [.lit (.bool true)], args := [d1, d2] }
  | _ => none }
def instOnceRow : OpenClaim := { program := "ytdeadekeffficaa", sum := "dfc77c2d390af381dc600d9c1687aab072802ea8752ec1c89e3c5d8843c645b0", func := "psephos/psephoslaw15.InstOnce", spec := "instOnce", apart := false }
def InstOnceSaid : Prop := instOnceRow.holds Try.pinned (OpenSpec.ofChange instOnceSpec)

/-- ITS FALSE NEIGHBOUR: 'it returns false'. Refute it at one input. -/
def instOnceWrong : ChangeSpec := { name := "instOnce", fn := fun _ => fun
  | [d1, d2] => { results := [.lit (.bool false)], args := [d1, d2] }
  | _ => none }
def InstOnceWrongFalsely : Prop := instOnceRow.holds Try.pinned (OpenSpec.ofChange instOnceWrong)

/-- 'psephoslaw15.InstGoes': WHATEVER THE INPUT: true; the input reads as it did. -/
def instGoesSpec : ChangeSpec := { name := "instGoes", fn := fun _ => fun
  | [d1, d2, d3] => { results := [.lit (.bool true)], args := [d1, d2, d3] }
  | _ => none }
def instGoesRow : OpenClaim := { program := "ytdeadekeffficaa", sum := "dfc77c2d390af381dc600d9c1687aab072802ea8752ec1c89e3c5d8843c645b0", func := "psephos/psephoslaw15.InstGoes", spec := "instGoes", apart := false }
def InstGoesSaid : Prop := instGoesRow.holds Try.pinned (OpenSpec.ofChange instGoesSpec)

/-- ITS FALSE NEIGHBOUR: 'it returns false'. Refute it at one input. -/
def instGoesWrong : ChangeSpec := { name := "instGoes", fn := fun _ => fun
  | [d1, d2, d3] => { results := [.lit (.bool false)], args := [d1, d2, d3] }
  | _ => none }
def InstGoesWrongFalsely : Prop := instGoesRow.holds Try.pinned (OpenSpec.ofChange instGoesWrong)

/-- 'psephoslaw15.InstLeaves': WHATEVER THE INPUT: true; the input reads as it did. -/
def instLeavesSpec : ChangeSpec := { name := "instLeaves", fn := fun _ => fun
  | [d1, d2] => { results := [.lit (.bool true)], args := [d1, d2] }
  | _ => none }
def instLeavesRow : OpenClaim := { program := "ytdeadekeffficaa", sum := "dfc77c2d390af381dc600d9c1687aab072802ea8752ec1c89e3c5d8843c645b0", func := "psephos/psephoslaw15.InstLeaves", spec := "instLeaves", apart := false }
def InstLeavesSaid : Prop := instLeavesRow.holds Try.pinned (OpenSpec.ofChange instLeavesSpec)

/-- ITS FALSE NEIGHBOUR: 'it returns false'. Refute it at one input. -/
def instLeavesWrong : ChangeSpec := { name := "instLeaves", fn := fun _ => fun
  | [d1, d2] => { results := [.lit (.bool false)], args := [d1, d2] }
  | _ => none }
def InstLeavesWrongFalsely : Prop := instLeavesRow.holds Try.pinned (OpenSpec.ofChange instLeavesWrong)

/-- 'psephoslaw15.InstPlays': WHATEVER THE INPUT: true; the input reads as it did. -/
def instPlaysSpec : ChangeSpec := { name := "instPlays", fn := fun _ => fun
  | [d1, d2, d3, d4, d5] => { results := [.lit (.bool true)], args := [d1, d2, d3, d4, d5] }
  | _ => none }
def instPlaysRow : OpenClaim := { program := "ytdeadekeffficaa", sum := "dfc77c2d390af381dc600d9c1687aab072802ea8752ec1c89e3c5d8843c645b0", func := "psephos/psephoslaw15.InstPlays", spec := "instPlays", apart := false }
def InstPlaysSaid : Prop := instPlaysRow.holds Try.pinned (OpenSpec.ofChange instPlaysSpec)

/-- ITS FALSE NEIGHBOUR: 'it returns false'. Refute it at one input. -/
def instPlaysWrong : ChangeSpec := { name := "instPlays", fn := fun _ => fun
  | [d1, d2, d3, d4, d5] => { results := [.lit (.bool false)], args := [d1, d2, d3, d4, d5] }
  | _ => none }
def InstPlaysWrongFalsely : Prop := instPlaysRow.holds Try.pinned (OpenSpec.ofChange instPlaysWrong)

/- THE SECOND FORM. 'bulk': how many values and letters a reading holds, each counted each time it is reached (what is shared counts as often as it is met; a slice's spare places count too). A statement '..UptoSaid' is the law's where the arguments, and the package variables that the reading takes, are together of bulk at most 1048576: NARROWER than '..Said'. Prove '..Said' where nothing that the law and all that it calls make is longer than what came in: it says more and counts as full. Else prove '..UptoSaid'. A law counts once. -/
mutual
def uptoBulk {H : Type} : DataW H → Nat
  | .lit (.string bytes) => bytes.length + 1
  | .lit _ => 1
  | .nil => 1
  | .ptr d => uptoBulk d + 1
  | .slice elems spare => uptoBulkAll elems + uptoBulkAll spare + 1
  | .agg parts => uptoBulkAll parts + 1
  | .iface _ d => uptoBulk d + 1
  | .map entries => uptoBulkEntries entries + 1
  | .held _ => 1
def uptoBulkAll {H : Type} : List (DataW H) → Nat
  | [] => 0
  | d :: r => uptoBulk d + uptoBulkAll r
def uptoBulkEntries {H : Type} : List (Lit × DataW H) → Nat
  | [] => 0
  | x :: r => uptoBulkEntry x + uptoBulkEntries r
def uptoBulkEntry {H : Type} : Lit × DataW H → Nat
  | (.string bytes, d) => bytes.length + uptoBulk d + 1
  | (_, d) => uptoBulk d + 1
 end
def uptoSmall : (H : Type) → List (DataW H) → Bool := fun _ ds => decide (uptoBulkAll ds ≤ 1048576)
def OpenSpec.upto (s : _root_.Go.ChangeSpec) : _root_.Go.OpenSpec := { _root_.Go.OpenSpec.ofChange s with cond := some uptoSmall }

/-- 'psephoslaw14.SlotOrders', WHERE WHAT IT READS IS OF BULK AT MOST 1048576: true; the input reads as it did. -/
def slotOrdersUptoRow : OpenClaim := { program := "ytdeadekeffficaa", sum := "dfc77c2d390af381dc600d9c1687aab072802ea8752ec1c89e3c5d8843c645b0", func := "psephos/psephoslaw14.SlotOrders", spec := "slotOrders", apart := false, narrowed := true }
def SlotOrdersUptoSaid : Prop := slotOrdersUptoRow.holds Try.pinned (OpenSpec.upto slotOrdersSpec)

/-- 'psephoslaw14.SlotLowest', WHERE WHAT IT READS IS OF BULK AT MOST 1048576: true; the input reads as it did. -/
def slotLowestUptoRow : OpenClaim := { program := "ytdeadekeffficaa", sum := "dfc77c2d390af381dc600d9c1687aab072802ea8752ec1c89e3c5d8843c645b0", func := "psephos/psephoslaw14.SlotLowest", spec := "slotLowest", apart := false, narrowed := true }
def SlotLowestUptoSaid : Prop := slotLowestUptoRow.holds Try.pinned (OpenSpec.upto slotLowestSpec)

/-- 'psephoslaw14.SlotQuorums', WHERE WHAT IT READS IS OF BULK AT MOST 1048576: true; the input reads as it did. -/
def slotQuorumsUptoRow : OpenClaim := { program := "ytdeadekeffficaa", sum := "dfc77c2d390af381dc600d9c1687aab072802ea8752ec1c89e3c5d8843c645b0", func := "psephos/psephoslaw14.SlotQuorums", spec := "slotQuorums", apart := false, narrowed := true }
def SlotQuorumsUptoSaid : Prop := slotQuorumsUptoRow.holds Try.pinned (OpenSpec.upto slotQuorumsSpec)

/-- 'psephoslaw14.SlotNull', WHERE WHAT IT READS IS OF BULK AT MOST 1048576: true; the input reads as it did. -/
def slotNullUptoRow : OpenClaim := { program := "ytdeadekeffficaa", sum := "dfc77c2d390af381dc600d9c1687aab072802ea8752ec1c89e3c5d8843c645b0", func := "psephos/psephoslaw14.SlotNull", spec := "slotNull", apart := false, narrowed := true }
def SlotNullUptoSaid : Prop := slotNullUptoRow.holds Try.pinned (OpenSpec.upto slotNullSpec)

/-- 'psephoslaw14.SlotPlays', WHERE WHAT IT READS IS OF BULK AT MOST 1048576: true; the input reads as it did. -/
def slotPlaysUptoRow : OpenClaim := { program := "ytdeadekeffficaa", sum := "dfc77c2d390af381dc600d9c1687aab072802ea8752ec1c89e3c5d8843c645b0", func := "psephos/psephoslaw14.SlotPlays", spec := "slotPlays", apart := false, narrowed := true }
def SlotPlaysUptoSaid : Prop := slotPlaysUptoRow.holds Try.pinned (OpenSpec.upto slotPlaysSpec)

/-- 'psephoslaw14.SlotOther', WHERE WHAT IT READS IS OF BULK AT MOST 1048576: true; the input reads as it did. -/
def slotOtherUptoRow : OpenClaim := { program := "ytdeadekeffficaa", sum := "dfc77c2d390af381dc600d9c1687aab072802ea8752ec1c89e3c5d8843c645b0", func := "psephos/psephoslaw14.SlotOther", spec := "slotOther", apart := false, narrowed := true }
def SlotOtherUptoSaid : Prop := slotOtherUptoRow.holds Try.pinned (OpenSpec.upto slotOtherSpec)

/-- 'psephoslaw15.InstGaps', WHERE WHAT IT READS IS OF BULK AT MOST 1048576: true; the input reads as it did. -/
def instGapsUptoRow : OpenClaim := { program := "ytdeadekeffficaa", sum := "dfc77c2d390af381dc600d9c1687aab072802ea8752ec1c89e3c5d8843c645b0", func := "psephos/psephoslaw15.InstGaps", spec := "instGaps", apart := false, narrowed := true }
def InstGapsUptoSaid : Prop := instGapsUptoRow.holds Try.pinned (OpenSpec.upto instGapsSpec)

/-- 'psephoslaw15.InstWindow', WHERE WHAT IT READS IS OF BULK AT MOST 1048576: true; the input reads as it did. -/
def instWindowUptoRow : OpenClaim := { program := "ytdeadekeffficaa", sum := "dfc77c2d390af381dc600d9c1687aab072802ea8752ec1c89e3c5d8843c645b0", func := "psephos/psephoslaw15.InstWindow", spec := "instWindow", apart := false, narrowed := true }
def InstWindowUptoSaid : Prop := instWindowUptoRow.holds Try.pinned (OpenSpec.upto instWindowSpec)

/-- 'psephoslaw15.InstAdopts', WHERE WHAT IT READS IS OF BULK AT MOST 1048576: true; the input reads as it did. -/
def instAdoptsUptoRow : OpenClaim := { program := "ytdeadekeffficaa", sum := "dfc77c2d390af381dc600d9c1687aab072802ea8752ec1c89e3c5d8843c645b0", func := "psephos/psephoslaw15.InstAdopts", spec := "instAdopts", apart := false, narrowed := true }
def InstAdoptsUptoSaid : Prop := instAdoptsUptoRow.holds Try.pinned (OpenSpec.upto instAdoptsSpec)

/-- 'psephoslaw15.InstCerts', WHERE WHAT IT READS IS OF BULK AT MOST 1048576: true; the input reads as it did. -/
def instCertsUptoRow : OpenClaim := { program := "ytdeadekeffficaa", sum := "dfc77c2d390af381dc600d9c1687aab072802ea8752ec1c89e3c5d8843c645b0", func := "psephos/psephoslaw15.InstCerts", spec := "instCerts", apart := false, narrowed := true }
def InstCertsUptoSaid : Prop := instCertsUptoRow.holds Try.pinned (OpenSpec.upto instCertsSpec)

/-- 'psephoslaw15.InstOnce', WHERE WHAT IT READS IS OF BULK AT MOST 1048576: true; the input reads as it did. -/
def instOnceUptoRow : OpenClaim := { program := "ytdeadekeffficaa", sum := "dfc77c2d390af381dc600d9c1687aab072802ea8752ec1c89e3c5d8843c645b0", func := "psephos/psephoslaw15.InstOnce", spec := "instOnce", apart := false, narrowed := true }
def InstOnceUptoSaid : Prop := instOnceUptoRow.holds Try.pinned (OpenSpec.upto instOnceSpec)

/-- 'psephoslaw15.InstGoes', WHERE WHAT IT READS IS OF BULK AT MOST 1048576: true; the input reads as it did. -/
def instGoesUptoRow : OpenClaim := { program := "ytdeadekeffficaa", sum := "dfc77c2d390af381dc600d9c1687aab072802ea8752ec1c89e3c5d8843c645b0", func := "psephos/psephoslaw15.InstGoes", spec := "instGoes", apart := false, narrowed := true }
def InstGoesUptoSaid : Prop := instGoesUptoRow.holds Try.pinned (OpenSpec.upto instGoesSpec)

/-- 'psephoslaw15.InstLeaves', WHERE WHAT IT READS IS OF BULK AT MOST 1048576: true; the input reads as it did. -/
def instLeavesUptoRow : OpenClaim := { program := "ytdeadekeffficaa", sum := "dfc77c2d390af381dc600d9c1687aab072802ea8752ec1c89e3c5d8843c645b0", func := "psephos/psephoslaw15.InstLeaves", spec := "instLeaves", apart := false, narrowed := true }
def InstLeavesUptoSaid : Prop := instLeavesUptoRow.holds Try.pinned (OpenSpec.upto instLeavesSpec)

/-- 'psephoslaw15.InstPlays', WHERE WHAT IT READS IS OF BULK AT MOST 1048576: true; the input reads as it did. -/
def instPlaysUptoRow : OpenClaim := { program := "ytdeadekeffficaa", sum := "dfc77c2d390af381dc600d9c1687aab072802ea8752ec1c89e3c5d8843c645b0", func := "psephos/psephoslaw15.InstPlays", spec := "instPlays", apart := false, narrowed := true }
def InstPlaysUptoSaid : Prop := instPlaysUptoRow.holds Try.pinned (OpenSpec.upto instPlaysSpec)

end Rows
end Go.Proofs.Ytdeadekeffficaa
