/-
  No cell of these rows narrows 'for every input' (looked for: loops, veiled, ifaces, maps, wideKeys, modest, calm, conditions, laid).
  DERIVED. THE GIVEN ROWS OF THIS SEAT. 11 by the template 'for every input the law returns true; each argument reads behind the call as it read before'; 0 by the template 'total and deterministic' (their statements: YtbfoefkfcnaimaaTotals.lean).
  GIVEN WITH THE SEED: the statements are not yours to turn. If you find one false, say at which input.
  Laid BY PROGRAM, IN A SANDBOX (cutbox-rows.mjs): the forced cells as the released guide's own fill.sh prints them over the translation 536e80ea85f32a10… (all of the seat's roots in one cut). By AI agents, Wed Nov 11 2026. No macro, syntax, notation, axiom, sorry.
-/
import Derived.Test.YtbfoefkfcnaimaaChecked
import GoSem.Claim
import GoSem.ClaimJoined
import GoSem.ClaimMapViews
import Derived.JoinedTies
import Derived.KernelRfl
namespace Go.Proofs.Ytbfoefkfcnaimaa
/- THE CELL 'sum', in the pinned program and in every row, IS THE sha256 OF THE DUMP (.gsa) THAT YtbfoefkfcnaimaaProg.lean LOADS. Nothing in Lean hashes anything: it is a label: what it is worth is what the hold of that sum in a sandbox is worth. -/
noncomputable def Try.pinned : Pinned := { name := "ytbfoefkfcnaimaa", sum := "536e80ea85f32a10314b7287dde4af47306248f1fdead3634546eb171e71cd50", checked := Try.checked }
namespace Rows
def none {H : Type} : Left H := { results := [], args := [] }

/-- 'laws.FnExactRejectingNodes': WHATEVER THE INPUT: true; the input reads as it did. -/
def fnExactRejectingNodesSpec : ChangeSpec := { name := "fnExactRejectingNodes", fn := fun _ => fun
  | [d1, d2, d3] => { results := [.lit (.bool true)], args := [d1, d2, d3] }
  | _ => none }
def fnExactRejectingNodesRow : OpenClaim := { program := "ytbfoefkfcnaimaa", sum := "536e80ea85f32a10314b7287dde4af47306248f1fdead3634546eb171e71cd50", func := "loop.example/g01084/laws.FnExactRejectingNodes", spec := "fnExactRejectingNodes", unfollowed := true, recurses := true, apart := false }
def FnExactRejectingNodesSaid : Prop := fnExactRejectingNodesRow.holds Try.pinned (OpenSpec.ofChange fnExactRejectingNodesSpec)

/-- ITS FALSE NEIGHBOUR: 'it returns false'. Refute it at one input. -/
def fnExactRejectingNodesWrong : ChangeSpec := { name := "fnExactRejectingNodes", fn := fun _ => fun
  | [d1, d2, d3] => { results := [.lit (.bool false)], args := [d1, d2, d3] }
  | _ => none }
def FnExactRejectingNodesWrongFalsely : Prop := fnExactRejectingNodesRow.holds Try.pinned (OpenSpec.ofChange fnExactRejectingNodesWrong)

/-- 'laws.FnExactAcceptedLabels': WHATEVER THE INPUT: true; the input reads as it did. -/
def fnExactAcceptedLabelsSpec : ChangeSpec := { name := "fnExactAcceptedLabels", fn := fun _ => fun
  | [d1, d2, d3, d4, d5] => { results := [.lit (.bool true)], args := [d1, d2, d3, d4, d5] }
  | _ => none }
def fnExactAcceptedLabelsRow : OpenClaim := { program := "ytbfoefkfcnaimaa", sum := "536e80ea85f32a10314b7287dde4af47306248f1fdead3634546eb171e71cd50", func := "loop.example/g01084/laws.FnExactAcceptedLabels", spec := "fnExactAcceptedLabels", unfollowed := true, recurses := true, apart := false }
def FnExactAcceptedLabelsSaid : Prop := fnExactAcceptedLabelsRow.holds Try.pinned (OpenSpec.ofChange fnExactAcceptedLabelsSpec)

/-- ITS FALSE NEIGHBOUR: 'it returns false'. Refute it at one input. -/
def fnExactAcceptedLabelsWrong : ChangeSpec := { name := "fnExactAcceptedLabels", fn := fun _ => fun
  | [d1, d2, d3, d4, d5] => { results := [.lit (.bool false)], args := [d1, d2, d3, d4, d5] }
  | _ => none }
def FnExactAcceptedLabelsWrongFalsely : Prop := fnExactAcceptedLabelsRow.holds Try.pinned (OpenSpec.ofChange fnExactAcceptedLabelsWrong)

/-- 'laws.FnExactCountAccepted': WHATEVER THE INPUT: true; the input reads as it did. -/
def fnExactCountAcceptedSpec : ChangeSpec := { name := "fnExactCountAccepted", fn := fun _ => fun
  | [d1, d2, d3] => { results := [.lit (.bool true)], args := [d1, d2, d3] }
  | _ => none }
def fnExactCountAcceptedRow : OpenClaim := { program := "ytbfoefkfcnaimaa", sum := "536e80ea85f32a10314b7287dde4af47306248f1fdead3634546eb171e71cd50", func := "loop.example/g01084/laws.FnExactCountAccepted", spec := "fnExactCountAccepted", unfollowed := true, recurses := true, apart := false }
def FnExactCountAcceptedSaid : Prop := fnExactCountAcceptedRow.holds Try.pinned (OpenSpec.ofChange fnExactCountAcceptedSpec)

/-- ITS FALSE NEIGHBOUR: 'it returns false'. Refute it at one input. -/
def fnExactCountAcceptedWrong : ChangeSpec := { name := "fnExactCountAccepted", fn := fun _ => fun
  | [d1, d2, d3] => { results := [.lit (.bool false)], args := [d1, d2, d3] }
  | _ => none }
def FnExactCountAcceptedWrongFalsely : Prop := fnExactCountAcceptedRow.holds Try.pinned (OpenSpec.ofChange fnExactCountAcceptedWrong)

/-- 'laws.FnExactLeastRejecting': WHATEVER THE INPUT: true; the input reads as it did. -/
def fnExactLeastRejectingSpec : ChangeSpec := { name := "fnExactLeastRejecting", fn := fun _ => fun
  | [d1, d2, d3] => { results := [.lit (.bool true)], args := [d1, d2, d3] }
  | _ => none }
def fnExactLeastRejectingRow : OpenClaim := { program := "ytbfoefkfcnaimaa", sum := "536e80ea85f32a10314b7287dde4af47306248f1fdead3634546eb171e71cd50", func := "loop.example/g01084/laws.FnExactLeastRejecting", spec := "fnExactLeastRejecting", unfollowed := true, recurses := true, apart := false }
def FnExactLeastRejectingSaid : Prop := fnExactLeastRejectingRow.holds Try.pinned (OpenSpec.ofChange fnExactLeastRejectingSpec)

/-- ITS FALSE NEIGHBOUR: 'it returns false'. Refute it at one input. -/
def fnExactLeastRejectingWrong : ChangeSpec := { name := "fnExactLeastRejecting", fn := fun _ => fun
  | [d1, d2, d3] => { results := [.lit (.bool false)], args := [d1, d2, d3] }
  | _ => none }
def FnExactLeastRejectingWrongFalsely : Prop := fnExactLeastRejectingRow.holds Try.pinned (OpenSpec.ofChange fnExactLeastRejectingWrong)

/-- 'laws.FnExactLeastProofBits': WHATEVER THE INPUT: true; the input reads as it did. -/
def fnExactLeastProofBitsSpec : ChangeSpec := { name := "fnExactLeastProofBits", fn := fun _ => fun
  | [d1, d2, d3] => { results := [.lit (.bool true)], args := [d1, d2, d3] }
  | _ => none }
def fnExactLeastProofBitsRow : OpenClaim := { program := "ytbfoefkfcnaimaa", sum := "536e80ea85f32a10314b7287dde4af47306248f1fdead3634546eb171e71cd50", func := "loop.example/g01084/laws.FnExactLeastProofBits", spec := "fnExactLeastProofBits", unfollowed := true, recurses := true, apart := false }
def FnExactLeastProofBitsSaid : Prop := fnExactLeastProofBitsRow.holds Try.pinned (OpenSpec.ofChange fnExactLeastProofBitsSpec)

/-- ITS FALSE NEIGHBOUR: 'it returns false'. Refute it at one input. -/
def fnExactLeastProofBitsWrong : ChangeSpec := { name := "fnExactLeastProofBits", fn := fun _ => fun
  | [d1, d2, d3] => { results := [.lit (.bool false)], args := [d1, d2, d3] }
  | _ => none }
def FnExactLeastProofBitsWrongFalsely : Prop := fnExactLeastProofBitsRow.holds Try.pinned (OpenSpec.ofChange fnExactLeastProofBitsWrong)

/-- 'laws.FnExactForgeModulo': WHATEVER THE INPUT: true; the input reads as it did. -/
def fnExactForgeModuloSpec : ChangeSpec := { name := "fnExactForgeModulo", fn := fun _ => fun
  | [d1, d2, d3] => { results := [.lit (.bool true)], args := [d1, d2, d3] }
  | _ => none }
def fnExactForgeModuloRow : OpenClaim := { program := "ytbfoefkfcnaimaa", sum := "536e80ea85f32a10314b7287dde4af47306248f1fdead3634546eb171e71cd50", func := "loop.example/g01084/laws.FnExactForgeModulo", spec := "fnExactForgeModulo", unfollowed := true, recurses := true, apart := false }
def FnExactForgeModuloSaid : Prop := fnExactForgeModuloRow.holds Try.pinned (OpenSpec.ofChange fnExactForgeModuloSpec)

/-- ITS FALSE NEIGHBOUR: 'it returns false'. Refute it at one input. -/
def fnExactForgeModuloWrong : ChangeSpec := { name := "fnExactForgeModulo", fn := fun _ => fun
  | [d1, d2, d3] => { results := [.lit (.bool false)], args := [d1, d2, d3] }
  | _ => none }
def FnExactForgeModuloWrongFalsely : Prop := fnExactForgeModuloRow.holds Try.pinned (OpenSpec.ofChange fnExactForgeModuloWrong)

/-- 'laws.FnExactCrossingsOf': WHATEVER THE INPUT: true; the input reads as it did. -/
def fnExactCrossingsOfSpec : ChangeSpec := { name := "fnExactCrossingsOf", fn := fun _ => fun
  | [d1, d2] => { results := [.lit (.bool true)], args := [d1, d2] }
  | _ => none }
def fnExactCrossingsOfRow : OpenClaim := { program := "ytbfoefkfcnaimaa", sum := "536e80ea85f32a10314b7287dde4af47306248f1fdead3634546eb171e71cd50", func := "loop.example/g01084/laws.FnExactCrossingsOf", spec := "fnExactCrossingsOf", unfollowed := true, recurses := true, apart := false }
def FnExactCrossingsOfSaid : Prop := fnExactCrossingsOfRow.holds Try.pinned (OpenSpec.ofChange fnExactCrossingsOfSpec)

/-- ITS FALSE NEIGHBOUR: 'it returns false'. Refute it at one input. -/
def fnExactCrossingsOfWrong : ChangeSpec := { name := "fnExactCrossingsOf", fn := fun _ => fun
  | [d1, d2] => { results := [.lit (.bool false)], args := [d1, d2] }
  | _ => none }
def FnExactCrossingsOfWrongFalsely : Prop := fnExactCrossingsOfRow.holds Try.pinned (OpenSpec.ofChange fnExactCrossingsOfWrong)

/-- 'laws.FnExactCrossEdges': WHATEVER THE INPUT: true; the input reads as it did. -/
def fnExactCrossEdgesSpec : ChangeSpec := { name := "fnExactCrossEdges", fn := fun _ => fun
  | [d1, d2, d3, d4, d5] => { results := [.lit (.bool true)], args := [d1, d2, d3, d4, d5] }
  | _ => none }
def fnExactCrossEdgesRow : OpenClaim := { program := "ytbfoefkfcnaimaa", sum := "536e80ea85f32a10314b7287dde4af47306248f1fdead3634546eb171e71cd50", func := "loop.example/g01084/laws.FnExactCrossEdges", spec := "fnExactCrossEdges", unfollowed := true, recurses := true, apart := false }
def FnExactCrossEdgesSaid : Prop := fnExactCrossEdgesRow.holds Try.pinned (OpenSpec.ofChange fnExactCrossEdgesSpec)

/-- ITS FALSE NEIGHBOUR: 'it returns false'. Refute it at one input. -/
def fnExactCrossEdgesWrong : ChangeSpec := { name := "fnExactCrossEdges", fn := fun _ => fun
  | [d1, d2, d3, d4, d5] => { results := [.lit (.bool false)], args := [d1, d2, d3, d4, d5] }
  | _ => none }
def FnExactCrossEdgesWrongFalsely : Prop := fnExactCrossEdgesRow.holds Try.pinned (OpenSpec.ofChange fnExactCrossEdgesWrong)

/-- 'laws.FnExactRuleRunsOn': WHATEVER THE INPUT: true; the input reads as it did. -/
def fnExactRuleRunsOnSpec : ChangeSpec := { name := "fnExactRuleRunsOn", fn := fun _ => fun
  | [d1, d2] => { results := [.lit (.bool true)], args := [d1, d2] }
  | _ => none }
def fnExactRuleRunsOnRow : OpenClaim := { program := "ytbfoefkfcnaimaa", sum := "536e80ea85f32a10314b7287dde4af47306248f1fdead3634546eb171e71cd50", func := "loop.example/g01084/laws.FnExactRuleRunsOn", spec := "fnExactRuleRunsOn", unfollowed := true, recurses := true, apart := false }
def FnExactRuleRunsOnSaid : Prop := fnExactRuleRunsOnRow.holds Try.pinned (OpenSpec.ofChange fnExactRuleRunsOnSpec)

/-- ITS FALSE NEIGHBOUR: 'it returns false'. Refute it at one input. -/
def fnExactRuleRunsOnWrong : ChangeSpec := { name := "fnExactRuleRunsOn", fn := fun _ => fun
  | [d1, d2] => { results := [.lit (.bool false)], args := [d1, d2] }
  | _ => none }
def FnExactRuleRunsOnWrongFalsely : Prop := fnExactRuleRunsOnRow.holds Try.pinned (OpenSpec.ofChange fnExactRuleRunsOnWrong)

/-- 'laws.FnExactRoundActs': WHATEVER THE INPUT: true; the input reads as it did. -/
def fnExactRoundActsSpec : ChangeSpec := { name := "fnExactRoundActs", fn := fun _ => fun
  | [d] => { results := [.lit (.bool true)], args := [d] }
  | _ => none }
def fnExactRoundActsRow : OpenClaim := { program := "ytbfoefkfcnaimaa", sum := "536e80ea85f32a10314b7287dde4af47306248f1fdead3634546eb171e71cd50", func := "loop.example/g01084/laws.FnExactRoundActs", spec := "fnExactRoundActs", unfollowed := true, recurses := true, apart := false }
def FnExactRoundActsSaid : Prop := fnExactRoundActsRow.holds Try.pinned (OpenSpec.ofChange fnExactRoundActsSpec)

/-- ITS FALSE NEIGHBOUR: 'it returns false'. Refute it at one input. -/
def fnExactRoundActsWrong : ChangeSpec := { name := "fnExactRoundActs", fn := fun _ => fun
  | [d] => { results := [.lit (.bool false)], args := [d] }
  | _ => none }
def FnExactRoundActsWrongFalsely : Prop := fnExactRoundActsRow.holds Try.pinned (OpenSpec.ofChange fnExactRoundActsWrong)

/-- 'laws.FnExactStateCounts': WHATEVER THE INPUT: true; the input reads as it did. -/
def fnExactStateCountsSpec : ChangeSpec := { name := "fnExactStateCounts", fn := fun _ => fun
  | [d1, d2] => { results := [.lit (.bool true)], args := [d1, d2] }
  | _ => none }
def fnExactStateCountsRow : OpenClaim := { program := "ytbfoefkfcnaimaa", sum := "536e80ea85f32a10314b7287dde4af47306248f1fdead3634546eb171e71cd50", func := "loop.example/g01084/laws.FnExactStateCounts", spec := "fnExactStateCounts", unfollowed := true, recurses := true, apart := false }
def FnExactStateCountsSaid : Prop := fnExactStateCountsRow.holds Try.pinned (OpenSpec.ofChange fnExactStateCountsSpec)

/-- ITS FALSE NEIGHBOUR: 'it returns false'. Refute it at one input. -/
def fnExactStateCountsWrong : ChangeSpec := { name := "fnExactStateCounts", fn := fun _ => fun
  | [d1, d2] => { results := [.lit (.bool false)], args := [d1, d2] }
  | _ => none }
def FnExactStateCountsWrongFalsely : Prop := fnExactStateCountsRow.holds Try.pinned (OpenSpec.ofChange fnExactStateCountsWrong)

/- THE SECOND FORM. 'bulk': how many values and letters a reading holds, each counted each time it is reached (what is shared counts as often as it is met; a slice's spare places count too). A statement '..UptoSaid' is the law's where the arguments, and the package variables that the reading takes, are together of bulk at most 1048576: NARROWER than '..Said'. Prove '..Said' where nothing that the law and all that it calls make is longer than what came in: it says more and counts as full. Else prove '..UptoSaid'. A law counts once. -/
mutual
def uptoBulk {H : Type} : DataW H → Nat
  | .lit (.string bytes) => bytes.length + 1
  | .lit _ => 1
  | .nil => 1
  | .ptr d => uptoBulk d + 1
  | .slice elems spare => uptoBulkAll elems + uptoBulkAll spare + 1
  | .agg parts => uptoBulkAll parts + 1
  | .iface _ d => uptoBulk d + 1
  | .map entries => uptoBulkEntries entries + 1
  | .held _ => 1
def uptoBulkAll {H : Type} : List (DataW H) → Nat
  | [] => 0
  | d :: r => uptoBulk d + uptoBulkAll r
def uptoBulkEntries {H : Type} : List (Lit × DataW H) → Nat
  | [] => 0
  | x :: r => uptoBulkEntry x + uptoBulkEntries r
def uptoBulkEntry {H : Type} : Lit × DataW H → Nat
  | (.string bytes, d) => bytes.length + uptoBulk d + 1
  | (_, d) => uptoBulk d + 1
 end
def uptoSmall : (H : Type) → List (DataW H) → Bool := fun _ ds => decide (uptoBulkAll ds ≤ 1048576)
def OpenSpec.upto (s : _root_.Go.ChangeSpec) : _root_.Go.OpenSpec := { _root_.Go.OpenSpec.ofChange s with cond := some uptoSmall }

/-- 'laws.FnExactRejectingNodes', WHERE WHAT IT READS IS OF BULK AT MOST 1048576: true; the input reads as it did. -/
def fnExactRejectingNodesUptoRow : OpenClaim := { program := "ytbfoefkfcnaimaa", sum := "536e80ea85f32a10314b7287dde4af47306248f1fdead3634546eb171e71cd50", func := "loop.example/g01084/laws.FnExactRejectingNodes", spec := "fnExactRejectingNodes", unfollowed := true, recurses := true, apart := false, narrowed := true }
def FnExactRejectingNodesUptoSaid : Prop := fnExactRejectingNodesUptoRow.holds Try.pinned (OpenSpec.upto fnExactRejectingNodesSpec)

/-- 'laws.FnExactAcceptedLabels', WHERE WHAT IT READS IS OF BULK AT MOST 1048576: true; the input reads as it did. -/
def fnExactAcceptedLabelsUptoRow : OpenClaim := { program := "ytbfoefkfcnaimaa", sum := "536e80ea85f32a10314b7287dde4af47306248f1fdead3634546eb171e71cd50", func := "loop.example/g01084/laws.FnExactAcceptedLabels", spec := "fnExactAcceptedLabels", unfollowed := true, recurses := true, apart := false, narrowed := true }
def FnExactAcceptedLabelsUptoSaid : Prop := fnExactAcceptedLabelsUptoRow.holds Try.pinned (OpenSpec.upto fnExactAcceptedLabelsSpec)

/-- 'laws.FnExactCountAccepted', WHERE WHAT IT READS IS OF BULK AT MOST 1048576: true; the input reads as it did. -/
def fnExactCountAcceptedUptoRow : OpenClaim := { program := "ytbfoefkfcnaimaa", sum := "536e80ea85f32a10314b7287dde4af47306248f1fdead3634546eb171e71cd50", func := "loop.example/g01084/laws.FnExactCountAccepted", spec := "fnExactCountAccepted", unfollowed := true, recurses := true, apart := false, narrowed := true }
def FnExactCountAcceptedUptoSaid : Prop := fnExactCountAcceptedUptoRow.holds Try.pinned (OpenSpec.upto fnExactCountAcceptedSpec)

/-- 'laws.FnExactLeastRejecting', WHERE WHAT IT READS IS OF BULK AT MOST 1048576: true; the input reads as it did. -/
def fnExactLeastRejectingUptoRow : OpenClaim := { program := "ytbfoefkfcnaimaa", sum := "536e80ea85f32a10314b7287dde4af47306248f1fdead3634546eb171e71cd50", func := "loop.example/g01084/laws.FnExactLeastRejecting", spec := "fnExactLeastRejecting", unfollowed := true, recurses := true, apart := false, narrowed := true }
def FnExactLeastRejectingUptoSaid : Prop := fnExactLeastRejectingUptoRow.holds Try.pinned (OpenSpec.upto fnExactLeastRejectingSpec)

/-- 'laws.FnExactLeastProofBits', WHERE WHAT IT READS IS OF BULK AT MOST 1048576: true; the input reads as it did. -/
def fnExactLeastProofBitsUptoRow : OpenClaim := { program := "ytbfoefkfcnaimaa", sum := "536e80ea85f32a10314b7287dde4af47306248f1fdead3634546eb171e71cd50", func := "loop.example/g01084/laws.FnExactLeastProofBits", spec := "fnExactLeastProofBits", unfollowed := true, recurses := true, apart := false, narrowed := true }
def FnExactLeastProofBitsUptoSaid : Prop := fnExactLeastProofBitsUptoRow.holds Try.pinned (OpenSpec.upto fnExactLeastProofBitsSpec)

/-- 'laws.FnExactForgeModulo', WHERE WHAT IT READS IS OF BULK AT MOST 1048576: true; the input reads as it did. -/
def fnExactForgeModuloUptoRow : OpenClaim := { program := "ytbfoefkfcnaimaa", sum := "536e80ea85f32a10314b7287dde4af47306248f1fdead3634546eb171e71cd50", func := "loop.example/g01084/laws.FnExactForgeModulo", spec := "fnExactForgeModulo", unfollowed := true, recurses := true, apart := false, narrowed := true }
def FnExactForgeModuloUptoSaid : Prop := fnExactForgeModuloUptoRow.holds Try.pinned (OpenSpec.upto fnExactForgeModuloSpec)

/-- 'laws.FnExactCrossingsOf', WHERE WHAT IT READS IS OF BULK AT MOST 1048576: true; the input reads as it did. -/
def fnExactCrossingsOfUptoRow : OpenClaim := { program := "ytbfoefkfcnaimaa", sum := "536e80ea85f32a10314b7287dde4af47306248f1fdead3634546eb171e71cd50", func := "loop.example/g01084/laws.FnExactCrossingsOf", spec := "fnExactCrossingsOf", unfollowed := true, recurses := true, apart := false, narrowed := true }
def FnExactCrossingsOfUptoSaid : Prop := fnExactCrossingsOfUptoRow.holds Try.pinned (OpenSpec.upto fnExactCrossingsOfSpec)

/-- 'laws.FnExactCrossEdges', WHERE WHAT IT READS IS OF BULK AT MOST 1048576: true; the input reads as it did. -/
def fnExactCrossEdgesUptoRow : OpenClaim := { program := "ytbfoefkfcnaimaa", sum := "536e80ea85f32a10314b7287dde4af47306248f1fdead3634546eb171e71cd50", func := "loop.example/g01084/laws.FnExactCrossEdges", spec := "fnExactCrossEdges", unfollowed := true, recurses := true, apart := false, narrowed := true }
def FnExactCrossEdgesUptoSaid : Prop := fnExactCrossEdgesUptoRow.holds Try.pinned (OpenSpec.upto fnExactCrossEdgesSpec)

/-- 'laws.FnExactRuleRunsOn', WHERE WHAT IT READS IS OF BULK AT MOST 1048576: true; the input reads as it did. -/
def fnExactRuleRunsOnUptoRow : OpenClaim := { program := "ytbfoefkfcnaimaa", sum := "536e80ea85f32a10314b7287dde4af47306248f1fdead3634546eb171e71cd50", func := "loop.example/g01084/laws.FnExactRuleRunsOn", spec := "fnExactRuleRunsOn", unfollowed := true, recurses := true, apart := false, narrowed := true }
def FnExactRuleRunsOnUptoSaid : Prop := fnExactRuleRunsOnUptoRow.holds Try.pinned (OpenSpec.upto fnExactRuleRunsOnSpec)

/-- 'laws.FnExactRoundActs', WHERE WHAT IT READS IS OF BULK AT MOST 1048576: true; the input reads as it did. -/
def fnExactRoundActsUptoRow : OpenClaim := { program := "ytbfoefkfcnaimaa", sum := "536e80ea85f32a10314b7287dde4af47306248f1fdead3634546eb171e71cd50", func := "loop.example/g01084/laws.FnExactRoundActs", spec := "fnExactRoundActs", unfollowed := true, recurses := true, apart := false, narrowed := true }
def FnExactRoundActsUptoSaid : Prop := fnExactRoundActsUptoRow.holds Try.pinned (OpenSpec.upto fnExactRoundActsSpec)

/-- 'laws.FnExactStateCounts', WHERE WHAT IT READS IS OF BULK AT MOST 1048576: true; the input reads as it did. -/
def fnExactStateCountsUptoRow : OpenClaim := { program := "ytbfoefkfcnaimaa", sum := "536e80ea85f32a10314b7287dde4af47306248f1fdead3634546eb171e71cd50", func := "loop.example/g01084/laws.FnExactStateCounts", spec := "fnExactStateCounts", unfollowed := true, recurses := true, apart := false, narrowed := true }
def FnExactStateCountsUptoSaid : Prop := fnExactStateCountsUptoRow.holds Try.pinned (OpenSpec.upto fnExactStateCountsSpec)

end Rows
end Go.Proofs.Ytbfoefkfcnaimaa
