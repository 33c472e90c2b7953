/-
  No cell of these rows narrows 'for every input' (looked for: loops, veiled, ifaces, maps, wideKeys, modest, calm, conditions, laid).
  DERIVED. THE GIVEN ROWS OF THIS SEAT. 12 by the template 'for every input the law returns true; each argument reads behind the call as it read before'; 0 by the template 'total and deterministic' (their statements: YtannckelmojkoaaGreatTotals.lean).
  GIVEN WITH THE SEED: the statements are not yours to turn. If you find one false, say at which input.
  Laid BY PROGRAM, IN A SANDBOX (cutbox-rows.mjs): the forced cells as the released guide's own fill.sh prints them over the translation 694fb2482b32e379… (all of the seat's roots in one cut). By AI agents, Wed Nov 11 2026. No macro, syntax, notation, axiom, sorry.
-/
import Derived.Test.YtannckelmojkoaaGreatChecked
import GoSem.Claim
import GoSem.ClaimJoined
import GoSem.ClaimMapViews
import Derived.JoinedTies
import Derived.KernelRfl
namespace Go.Proofs.YtannckelmojkoaaGreat
/- THE CELL 'sum', in the pinned program and in every row, IS THE sha256 OF THE DUMP (.gsa) THAT YtannckelmojkoaaGreatProg.lean LOADS. Nothing in Lean hashes anything: it is a label: what it is worth is what the hold of that sum in a sandbox is worth. -/
noncomputable def Tryz.pinned : Pinned := { name := "ytannckelmojkoaagreat", sum := "694fb2482b32e379cc95f7c20059f989cd1d6eb339b7e9aa53046961e3b2dafa", checked := Tryz.checked }
namespace Rows
def none {H : Type} : Left H := { results := [], args := [] }

/-- 'psephoslaw21.NodeViews': WHATEVER THE INPUT: true; the input reads as it did. -/
def nodeViewsSpec : ChangeSpec := { name := "nodeViews", fn := fun _ => fun
  | [d1, d2, d3, d4, d5] => { results := [.lit (.bool true)], args := [d1, d2, d3, d4, d5] }
  | _ => none }
def nodeViewsRow : OpenClaim := { program := "ytannckelmojkoaagreat", sum := "694fb2482b32e379cc95f7c20059f989cd1d6eb339b7e9aa53046961e3b2dafa", func := "psephos/psephoslaw21.NodeViews", spec := "nodeViews", unfollowed := true, recurses := true, plainKeys := false, apart := false }
def NodeViewsSaid : Prop := nodeViewsRow.holds Tryz.pinned (OpenSpec.ofChange nodeViewsSpec)

/-- ITS FALSE NEIGHBOUR: 'it returns false'. Refute it at one input. -/
def nodeViewsWrong : ChangeSpec := { name := "nodeViews", fn := fun _ => fun
  | [d1, d2, d3, d4, d5] => { results := [.lit (.bool false)], args := [d1, d2, d3, d4, d5] }
  | _ => none }
def NodeViewsWrongFalsely : Prop := nodeViewsRow.holds Tryz.pinned (OpenSpec.ofChange nodeViewsWrong)

/-- 'psephoslaw21.NodeOnce': WHATEVER THE INPUT: true; the input reads as it did. -/
def nodeOnceSpec : ChangeSpec := { name := "nodeOnce", fn := fun _ => fun
  | [d1, d2, d3] => { results := [.lit (.bool true)], args := [d1, d2, d3] }
  | _ => none }
def nodeOnceRow : OpenClaim := { program := "ytannckelmojkoaagreat", sum := "694fb2482b32e379cc95f7c20059f989cd1d6eb339b7e9aa53046961e3b2dafa", func := "psephos/psephoslaw21.NodeOnce", spec := "nodeOnce", unfollowed := true, recurses := true, plainKeys := false, apart := false }
def NodeOnceSaid : Prop := nodeOnceRow.holds Tryz.pinned (OpenSpec.ofChange nodeOnceSpec)

/-- ITS FALSE NEIGHBOUR: 'it returns false'. Refute it at one input. -/
def nodeOnceWrong : ChangeSpec := { name := "nodeOnce", fn := fun _ => fun
  | [d1, d2, d3] => { results := [.lit (.bool false)], args := [d1, d2, d3] }
  | _ => none }
def NodeOnceWrongFalsely : Prop := nodeOnceRow.holds Tryz.pinned (OpenSpec.ofChange nodeOnceWrong)

/-- 'psephoslaw21.NodeMoves': WHATEVER THE INPUT: true; the input reads as it did. -/
def nodeMovesSpec : ChangeSpec := { name := "nodeMoves", fn := fun _ => fun
  | [d1, d2, d3, d4] => { results := [.lit (.bool true)], args := [d1, d2, d3, d4] }
  | _ => none }
def nodeMovesRow : OpenClaim := { program := "ytannckelmojkoaagreat", sum := "694fb2482b32e379cc95f7c20059f989cd1d6eb339b7e9aa53046961e3b2dafa", func := "psephos/psephoslaw21.NodeMoves", spec := "nodeMoves", unfollowed := true, recurses := true, plainKeys := false, apart := false }
def NodeMovesSaid : Prop := nodeMovesRow.holds Tryz.pinned (OpenSpec.ofChange nodeMovesSpec)

/-- ITS FALSE NEIGHBOUR: 'it returns false'. Refute it at one input. -/
def nodeMovesWrong : ChangeSpec := { name := "nodeMoves", fn := fun _ => fun
  | [d1, d2, d3, d4] => { results := [.lit (.bool false)], args := [d1, d2, d3, d4] }
  | _ => none }
def NodeMovesWrongFalsely : Prop := nodeMovesRow.holds Tryz.pinned (OpenSpec.ofChange nodeMovesWrong)

/-- 'psephoslaw21.NodeProposes': WHATEVER THE INPUT: true; the input reads as it did. -/
def nodeProposesSpec : ChangeSpec := { name := "nodeProposes", fn := fun _ => fun
  | [d1, d2, d3, d4] => { results := [.lit (.bool true)], args := [d1, d2, d3, d4] }
  | _ => none }
def nodeProposesRow : OpenClaim := { program := "ytannckelmojkoaagreat", sum := "694fb2482b32e379cc95f7c20059f989cd1d6eb339b7e9aa53046961e3b2dafa", func := "psephos/psephoslaw21.NodeProposes", spec := "nodeProposes", unfollowed := true, recurses := true, plainKeys := false, apart := false }
def NodeProposesSaid : Prop := nodeProposesRow.holds Tryz.pinned (OpenSpec.ofChange nodeProposesSpec)

/-- ITS FALSE NEIGHBOUR: 'it returns false'. Refute it at one input. -/
def nodeProposesWrong : ChangeSpec := { name := "nodeProposes", fn := fun _ => fun
  | [d1, d2, d3, d4] => { results := [.lit (.bool false)], args := [d1, d2, d3, d4] }
  | _ => none }
def NodeProposesWrongFalsely : Prop := nodeProposesRow.holds Tryz.pinned (OpenSpec.ofChange nodeProposesWrong)

/-- 'psephoslaw21.NodeAgain': WHATEVER THE INPUT: true; the input reads as it did. -/
def nodeAgainSpec : ChangeSpec := { name := "nodeAgain", fn := fun _ => fun
  | [d1, d2, d3, d4] => { results := [.lit (.bool true)], args := [d1, d2, d3, d4] }
  | _ => none }
def nodeAgainRow : OpenClaim := { program := "ytannckelmojkoaagreat", sum := "694fb2482b32e379cc95f7c20059f989cd1d6eb339b7e9aa53046961e3b2dafa", func := "psephos/psephoslaw21.NodeAgain", spec := "nodeAgain", unfollowed := true, recurses := true, plainKeys := false, apart := false }
def NodeAgainSaid : Prop := nodeAgainRow.holds Tryz.pinned (OpenSpec.ofChange nodeAgainSpec)

/-- ITS FALSE NEIGHBOUR: 'it returns false'. Refute it at one input. -/
def nodeAgainWrong : ChangeSpec := { name := "nodeAgain", fn := fun _ => fun
  | [d1, d2, d3, d4] => { results := [.lit (.bool false)], args := [d1, d2, d3, d4] }
  | _ => none }
def NodeAgainWrongFalsely : Prop := nodeAgainRow.holds Tryz.pinned (OpenSpec.ofChange nodeAgainWrong)

/-- 'psephoslaw21.NodeFlood': WHATEVER THE INPUT: true; the input reads as it did. -/
def nodeFloodSpec : ChangeSpec := { name := "nodeFlood", fn := fun _ => fun
  | [d1, d2, d3, d4] => { results := [.lit (.bool true)], args := [d1, d2, d3, d4] }
  | _ => none }
def nodeFloodRow : OpenClaim := { program := "ytannckelmojkoaagreat", sum := "694fb2482b32e379cc95f7c20059f989cd1d6eb339b7e9aa53046961e3b2dafa", func := "psephos/psephoslaw21.NodeFlood", spec := "nodeFlood", unfollowed := true, recurses := true, plainKeys := false, apart := false }
def NodeFloodSaid : Prop := nodeFloodRow.holds Tryz.pinned (OpenSpec.ofChange nodeFloodSpec)

/-- ITS FALSE NEIGHBOUR: 'it returns false'. Refute it at one input. -/
def nodeFloodWrong : ChangeSpec := { name := "nodeFlood", fn := fun _ => fun
  | [d1, d2, d3, d4] => { results := [.lit (.bool false)], args := [d1, d2, d3, d4] }
  | _ => none }
def NodeFloodWrongFalsely : Prop := nodeFloodRow.holds Tryz.pinned (OpenSpec.ofChange nodeFloodWrong)

/-- 'psephoslaw21.NodeAdopts': WHATEVER THE INPUT: true; the input reads as it did. -/
def nodeAdoptsSpec : ChangeSpec := { name := "nodeAdopts", fn := fun _ => fun
  | [d1, d2, d3, d4] => { results := [.lit (.bool true)], args := [d1, d2, d3, d4] }
  | _ => none }
def nodeAdoptsRow : OpenClaim := { program := "ytannckelmojkoaagreat", sum := "694fb2482b32e379cc95f7c20059f989cd1d6eb339b7e9aa53046961e3b2dafa", func := "psephos/psephoslaw21.NodeAdopts", spec := "nodeAdopts", unfollowed := true, recurses := true, plainKeys := false, apart := false }
def NodeAdoptsSaid : Prop := nodeAdoptsRow.holds Tryz.pinned (OpenSpec.ofChange nodeAdoptsSpec)

/-- ITS FALSE NEIGHBOUR: 'it returns false'. Refute it at one input. -/
def nodeAdoptsWrong : ChangeSpec := { name := "nodeAdopts", fn := fun _ => fun
  | [d1, d2, d3, d4] => { results := [.lit (.bool false)], args := [d1, d2, d3, d4] }
  | _ => none }
def NodeAdoptsWrongFalsely : Prop := nodeAdoptsRow.holds Tryz.pinned (OpenSpec.ofChange nodeAdoptsWrong)

/-- 'psephoslaw21.NodeStops': WHATEVER THE INPUT: true; the input reads as it did. -/
def nodeStopsSpec : ChangeSpec := { name := "nodeStops", fn := fun _ => fun
  | [d1, d2, d3] => { results := [.lit (.bool true)], args := [d1, d2, d3] }
  | _ => none }
def nodeStopsRow : OpenClaim := { program := "ytannckelmojkoaagreat", sum := "694fb2482b32e379cc95f7c20059f989cd1d6eb339b7e9aa53046961e3b2dafa", func := "psephos/psephoslaw21.NodeStops", spec := "nodeStops", unfollowed := true, recurses := true, plainKeys := false, apart := false }
def NodeStopsSaid : Prop := nodeStopsRow.holds Tryz.pinned (OpenSpec.ofChange nodeStopsSpec)

/-- ITS FALSE NEIGHBOUR: 'it returns false'. Refute it at one input. -/
def nodeStopsWrong : ChangeSpec := { name := "nodeStops", fn := fun _ => fun
  | [d1, d2, d3] => { results := [.lit (.bool false)], args := [d1, d2, d3] }
  | _ => none }
def NodeStopsWrongFalsely : Prop := nodeStopsRow.holds Tryz.pinned (OpenSpec.ofChange nodeStopsWrong)

/-- 'psephoslaw21.NodeStale': WHATEVER THE INPUT: true; the input reads as it did. -/
def nodeStaleSpec : ChangeSpec := { name := "nodeStale", fn := fun _ => fun
  | [d1, d2, d3] => { results := [.lit (.bool true)], args := [d1, d2, d3] }
  | _ => none }
def nodeStaleRow : OpenClaim := { program := "ytannckelmojkoaagreat", sum := "694fb2482b32e379cc95f7c20059f989cd1d6eb339b7e9aa53046961e3b2dafa", func := "psephos/psephoslaw21.NodeStale", spec := "nodeStale", unfollowed := true, recurses := true, plainKeys := false, apart := false }
def NodeStaleSaid : Prop := nodeStaleRow.holds Tryz.pinned (OpenSpec.ofChange nodeStaleSpec)

/-- ITS FALSE NEIGHBOUR: 'it returns false'. Refute it at one input. -/
def nodeStaleWrong : ChangeSpec := { name := "nodeStale", fn := fun _ => fun
  | [d1, d2, d3] => { results := [.lit (.bool false)], args := [d1, d2, d3] }
  | _ => none }
def NodeStaleWrongFalsely : Prop := nodeStaleRow.holds Tryz.pinned (OpenSpec.ofChange nodeStaleWrong)

/-- 'psephoslaw21.NodeOrders': WHATEVER THE INPUT: true; the input reads as it did. -/
def nodeOrdersSpec : ChangeSpec := { name := "nodeOrders", fn := fun _ => fun
  | [d1, d2, d3, d4, d5] => { results := [.lit (.bool true)], args := [d1, d2, d3, d4, d5] }
  | _ => none }
def nodeOrdersRow : OpenClaim := { program := "ytannckelmojkoaagreat", sum := "694fb2482b32e379cc95f7c20059f989cd1d6eb339b7e9aa53046961e3b2dafa", func := "psephos/psephoslaw21.NodeOrders", spec := "nodeOrders", unfollowed := true, recurses := true, plainKeys := false, apart := false }
def NodeOrdersSaid : Prop := nodeOrdersRow.holds Tryz.pinned (OpenSpec.ofChange nodeOrdersSpec)

/-- ITS FALSE NEIGHBOUR: 'it returns false'. Refute it at one input. -/
def nodeOrdersWrong : ChangeSpec := { name := "nodeOrders", fn := fun _ => fun
  | [d1, d2, d3, d4, d5] => { results := [.lit (.bool false)], args := [d1, d2, d3, d4, d5] }
  | _ => none }
def NodeOrdersWrongFalsely : Prop := nodeOrdersRow.holds Tryz.pinned (OpenSpec.ofChange nodeOrdersWrong)

/-- 'psephoslaw21.NodePasses': WHATEVER THE INPUT: true; the input reads as it did. -/
def nodePassesSpec : ChangeSpec := { name := "nodePasses", fn := fun _ => fun
  | [d1, d2, d3] => { results := [.lit (.bool true)], args := [d1, d2, d3] }
  | _ => none }
def nodePassesRow : OpenClaim := { program := "ytannckelmojkoaagreat", sum := "694fb2482b32e379cc95f7c20059f989cd1d6eb339b7e9aa53046961e3b2dafa", func := "psephos/psephoslaw21.NodePasses", spec := "nodePasses", unfollowed := true, recurses := true, plainKeys := false, apart := false }
def NodePassesSaid : Prop := nodePassesRow.holds Tryz.pinned (OpenSpec.ofChange nodePassesSpec)

/-- ITS FALSE NEIGHBOUR: 'it returns false'. Refute it at one input. -/
def nodePassesWrong : ChangeSpec := { name := "nodePasses", fn := fun _ => fun
  | [d1, d2, d3] => { results := [.lit (.bool false)], args := [d1, d2, d3] }
  | _ => none }
def NodePassesWrongFalsely : Prop := nodePassesRow.holds Tryz.pinned (OpenSpec.ofChange nodePassesWrong)

/-- 'psephoslaw21.NodeClones': WHATEVER THE INPUT: true; the input reads as it did. -/
def nodeClonesSpec : ChangeSpec := { name := "nodeClones", fn := fun _ => fun
  | [d1, d2, d3, d4] => { results := [.lit (.bool true)], args := [d1, d2, d3, d4] }
  | _ => none }
def nodeClonesRow : OpenClaim := { program := "ytannckelmojkoaagreat", sum := "694fb2482b32e379cc95f7c20059f989cd1d6eb339b7e9aa53046961e3b2dafa", func := "psephos/psephoslaw21.NodeClones", spec := "nodeClones", unfollowed := true, recurses := true, plainKeys := false, apart := false }
def NodeClonesSaid : Prop := nodeClonesRow.holds Tryz.pinned (OpenSpec.ofChange nodeClonesSpec)

/-- ITS FALSE NEIGHBOUR: 'it returns false'. Refute it at one input. -/
def nodeClonesWrong : ChangeSpec := { name := "nodeClones", fn := fun _ => fun
  | [d1, d2, d3, d4] => { results := [.lit (.bool false)], args := [d1, d2, d3, d4] }
  | _ => none }
def NodeClonesWrongFalsely : Prop := nodeClonesRow.holds Tryz.pinned (OpenSpec.ofChange nodeClonesWrong)

/- THE SECOND FORM. 'bulk': how many values and letters a reading holds, each counted each time it is reached (what is shared counts as often as it is met; a slice's spare places count too). A statement '..UptoSaid' is the law's where the arguments, and the package variables that the reading takes, are together of bulk at most 1048576: NARROWER than '..Said'. Prove '..Said' where nothing that the law and all that it calls make is longer than what came in: it says more and counts as full. Else prove '..UptoSaid'. A law counts once. -/
mutual
def uptoBulk {H : Type} : DataW H → Nat
  | .lit (.string bytes) => bytes.length + 1
  | .lit _ => 1
  | .nil => 1
  | .ptr d => uptoBulk d + 1
  | .slice elems spare => uptoBulkAll elems + uptoBulkAll spare + 1
  | .agg parts => uptoBulkAll parts + 1
  | .iface _ d => uptoBulk d + 1
  | .map entries => uptoBulkEntries entries + 1
  | .held _ => 1
def uptoBulkAll {H : Type} : List (DataW H) → Nat
  | [] => 0
  | d :: r => uptoBulk d + uptoBulkAll r
def uptoBulkEntries {H : Type} : List (Lit × DataW H) → Nat
  | [] => 0
  | x :: r => uptoBulkEntry x + uptoBulkEntries r
def uptoBulkEntry {H : Type} : Lit × DataW H → Nat
  | (.string bytes, d) => bytes.length + uptoBulk d + 1
  | (_, d) => uptoBulk d + 1
 end
def uptoSmall : (H : Type) → List (DataW H) → Bool := fun _ ds => decide (uptoBulkAll ds ≤ 1048576)
def OpenSpec.upto (s : _root_.Go.ChangeSpec) : _root_.Go.OpenSpec := { _root_.Go.OpenSpec.ofChange s with cond := some uptoSmall }

/-- 'psephoslaw21.NodeViews', WHERE WHAT IT READS IS OF BULK AT MOST 1048576: true; the input reads as it did. -/
def nodeViewsUptoRow : OpenClaim := { program := "ytannckelmojkoaagreat", sum := "694fb2482b32e379cc95f7c20059f989cd1d6eb339b7e9aa53046961e3b2dafa", func := "psephos/psephoslaw21.NodeViews", spec := "nodeViews", unfollowed := true, recurses := true, plainKeys := false, apart := false, narrowed := true }
def NodeViewsUptoSaid : Prop := nodeViewsUptoRow.holds Tryz.pinned (OpenSpec.upto nodeViewsSpec)

/-- 'psephoslaw21.NodeOnce', WHERE WHAT IT READS IS OF BULK AT MOST 1048576: true; the input reads as it did. -/
def nodeOnceUptoRow : OpenClaim := { program := "ytannckelmojkoaagreat", sum := "694fb2482b32e379cc95f7c20059f989cd1d6eb339b7e9aa53046961e3b2dafa", func := "psephos/psephoslaw21.NodeOnce", spec := "nodeOnce", unfollowed := true, recurses := true, plainKeys := false, apart := false, narrowed := true }
def NodeOnceUptoSaid : Prop := nodeOnceUptoRow.holds Tryz.pinned (OpenSpec.upto nodeOnceSpec)

/-- 'psephoslaw21.NodeMoves', WHERE WHAT IT READS IS OF BULK AT MOST 1048576: true; the input reads as it did. -/
def nodeMovesUptoRow : OpenClaim := { program := "ytannckelmojkoaagreat", sum := "694fb2482b32e379cc95f7c20059f989cd1d6eb339b7e9aa53046961e3b2dafa", func := "psephos/psephoslaw21.NodeMoves", spec := "nodeMoves", unfollowed := true, recurses := true, plainKeys := false, apart := false, narrowed := true }
def NodeMovesUptoSaid : Prop := nodeMovesUptoRow.holds Tryz.pinned (OpenSpec.upto nodeMovesSpec)

/-- 'psephoslaw21.NodeProposes', WHERE WHAT IT READS IS OF BULK AT MOST 1048576: true; the input reads as it did. -/
def nodeProposesUptoRow : OpenClaim := { program := "ytannckelmojkoaagreat", sum := "694fb2482b32e379cc95f7c20059f989cd1d6eb339b7e9aa53046961e3b2dafa", func := "psephos/psephoslaw21.NodeProposes", spec := "nodeProposes", unfollowed := true, recurses := true, plainKeys := false, apart := false, narrowed := true }
def NodeProposesUptoSaid : Prop := nodeProposesUptoRow.holds Tryz.pinned (OpenSpec.upto nodeProposesSpec)

/-- 'psephoslaw21.NodeAgain', WHERE WHAT IT READS IS OF BULK AT MOST 1048576: true; the input reads as it did. -/
def nodeAgainUptoRow : OpenClaim := { program := "ytannckelmojkoaagreat", sum := "694fb2482b32e379cc95f7c20059f989cd1d6eb339b7e9aa53046961e3b2dafa", func := "psephos/psephoslaw21.NodeAgain", spec := "nodeAgain", unfollowed := true, recurses := true, plainKeys := false, apart := false, narrowed := true }
def NodeAgainUptoSaid : Prop := nodeAgainUptoRow.holds Tryz.pinned (OpenSpec.upto nodeAgainSpec)

/-- 'psephoslaw21.NodeFlood', WHERE WHAT IT READS IS OF BULK AT MOST 1048576: true; the input reads as it did. -/
def nodeFloodUptoRow : OpenClaim := { program := "ytannckelmojkoaagreat", sum := "694fb2482b32e379cc95f7c20059f989cd1d6eb339b7e9aa53046961e3b2dafa", func := "psephos/psephoslaw21.NodeFlood", spec := "nodeFlood", unfollowed := true, recurses := true, plainKeys := false, apart := false, narrowed := true }
def NodeFloodUptoSaid : Prop := nodeFloodUptoRow.holds Tryz.pinned (OpenSpec.upto nodeFloodSpec)

/-- 'psephoslaw21.NodeAdopts', WHERE WHAT IT READS IS OF BULK AT MOST 1048576: true; the input reads as it did. -/
def nodeAdoptsUptoRow : OpenClaim := { program := "ytannckelmojkoaagreat", sum := "694fb2482b32e379cc95f7c20059f989cd1d6eb339b7e9aa53046961e3b2dafa", func := "psephos/psephoslaw21.NodeAdopts", spec := "nodeAdopts", unfollowed := true, recurses := true, plainKeys := false, apart := false, narrowed := true }
def NodeAdoptsUptoSaid : Prop := nodeAdoptsUptoRow.holds Tryz.pinned (OpenSpec.upto nodeAdoptsSpec)

/-- 'psephoslaw21.NodeStops', WHERE WHAT IT READS IS OF BULK AT MOST 1048576: true; the input reads as it did. -/
def nodeStopsUptoRow : OpenClaim := { program := "ytannckelmojkoaagreat", sum := "694fb2482b32e379cc95f7c20059f989cd1d6eb339b7e9aa53046961e3b2dafa", func := "psephos/psephoslaw21.NodeStops", spec := "nodeStops", unfollowed := true, recurses := true, plainKeys := false, apart := false, narrowed := true }
def NodeStopsUptoSaid : Prop := nodeStopsUptoRow.holds Tryz.pinned (OpenSpec.upto nodeStopsSpec)

/-- 'psephoslaw21.NodeStale', WHERE WHAT IT READS IS OF BULK AT MOST 1048576: true; the input reads as it did. -/
def nodeStaleUptoRow : OpenClaim := { program := "ytannckelmojkoaagreat", sum := "694fb2482b32e379cc95f7c20059f989cd1d6eb339b7e9aa53046961e3b2dafa", func := "psephos/psephoslaw21.NodeStale", spec := "nodeStale", unfollowed := true, recurses := true, plainKeys := false, apart := false, narrowed := true }
def NodeStaleUptoSaid : Prop := nodeStaleUptoRow.holds Tryz.pinned (OpenSpec.upto nodeStaleSpec)

/-- 'psephoslaw21.NodeOrders', WHERE WHAT IT READS IS OF BULK AT MOST 1048576: true; the input reads as it did. -/
def nodeOrdersUptoRow : OpenClaim := { program := "ytannckelmojkoaagreat", sum := "694fb2482b32e379cc95f7c20059f989cd1d6eb339b7e9aa53046961e3b2dafa", func := "psephos/psephoslaw21.NodeOrders", spec := "nodeOrders", unfollowed := true, recurses := true, plainKeys := false, apart := false, narrowed := true }
def NodeOrdersUptoSaid : Prop := nodeOrdersUptoRow.holds Tryz.pinned (OpenSpec.upto nodeOrdersSpec)

/-- 'psephoslaw21.NodePasses', WHERE WHAT IT READS IS OF BULK AT MOST 1048576: true; the input reads as it did. -/
def nodePassesUptoRow : OpenClaim := { program := "ytannckelmojkoaagreat", sum := "694fb2482b32e379cc95f7c20059f989cd1d6eb339b7e9aa53046961e3b2dafa", func := "psephos/psephoslaw21.NodePasses", spec := "nodePasses", unfollowed := true, recurses := true, plainKeys := false, apart := false, narrowed := true }
def NodePassesUptoSaid : Prop := nodePassesUptoRow.holds Tryz.pinned (OpenSpec.upto nodePassesSpec)

/-- 'psephoslaw21.NodeClones', WHERE WHAT IT READS IS OF BULK AT MOST 1048576: true; the input reads as it did. -/
def nodeClonesUptoRow : OpenClaim := { program := "ytannckelmojkoaagreat", sum := "694fb2482b32e379cc95f7c20059f989cd1d6eb339b7e9aa53046961e3b2dafa", func := "psephos/psephoslaw21.NodeClones", spec := "nodeClones", unfollowed := true, recurses := true, plainKeys := false, apart := false, narrowed := true }
def NodeClonesUptoSaid : Prop := nodeClonesUptoRow.holds Tryz.pinned (OpenSpec.upto nodeClonesSpec)

end Rows
end Go.Proofs.YtannckelmojkoaaGreat
