/-
  No cell of these rows narrows 'for every input' (looked for: loops, veiled, ifaces, maps, wideKeys, modest, calm, conditions, laid).
  DERIVED. THE GIVEN ROWS OF THIS SEAT. 9 by the template 'for every input the law returns true; each argument reads behind the call as it read before'; 0 by the template 'total and deterministic' (their statements: YtlfehdikgbgloaaGreatTotals.lean).
  GIVEN WITH THE SEED: the statements are not yours to turn. If you find one false, say at which input.
  Laid BY PROGRAM, IN A SANDBOX (cutbox-rows.mjs): the forced cells as the released guide's own fill.sh prints them over the translation 61001707e46d3b7a… (all of the seat's roots in one cut). By AI agents, Wed Nov 11 2026. No macro, syntax, notation, axiom, sorry.
-/
import Derived.Test.YtlfehdikgbgloaaGreatChecked
import GoSem.Claim
import GoSem.ClaimJoined
import GoSem.ClaimMapViews
import Derived.JoinedTies
import Derived.KernelRfl
namespace Go.Proofs.YtlfehdikgbgloaaGreat
/- THE CELL 'sum', in the pinned program and in every row, IS THE sha256 OF THE DUMP (.gsa) THAT YtlfehdikgbgloaaGreatProg.lean LOADS. Nothing in Lean hashes anything: it is a label: what it is worth is what the hold of that sum in a sandbox is worth. -/
noncomputable def Tryz.pinned : Pinned := { name := "ytlfehdikgbgloaagreat", sum := "61001707e46d3b7a1772acb1cd8653baafd67bab69de5f033a2e4092b75c57cc", checked := Tryz.checked }
namespace Rows
def none {H : Type} : Left H := { results := [], args := [] }

/-- 'laws.FnExactNextStateOf': WHATEVER THE INPUT: true; the input reads as it did. -/
def fnExactNextStateOfSpec : ChangeSpec := { name := "fnExactNextStateOf", fn := fun _ => fun
  | [d1, d2, d3, d4] => { results := [.lit (.bool true)], args := [d1, d2, d3, d4] }
  | _ => none }
def fnExactNextStateOfRow : OpenClaim := { program := "ytlfehdikgbgloaagreat", sum := "61001707e46d3b7a1772acb1cd8653baafd67bab69de5f033a2e4092b75c57cc", func := "loop.example/g01084/laws.FnExactNextStateOf", spec := "fnExactNextStateOf", unfollowed := true, recurses := true, apart := false }
def FnExactNextStateOfSaid : Prop := fnExactNextStateOfRow.holds Tryz.pinned (OpenSpec.ofChange fnExactNextStateOfSpec)

/-- ITS FALSE NEIGHBOUR: 'it returns false'. Refute it at one input. -/
def fnExactNextStateOfWrong : ChangeSpec := { name := "fnExactNextStateOf", fn := fun _ => fun
  | [d1, d2, d3, d4] => { results := [.lit (.bool false)], args := [d1, d2, d3, d4] }
  | _ => none }
def FnExactNextStateOfWrongFalsely : Prop := fnExactNextStateOfRow.holds Tryz.pinned (OpenSpec.ofChange fnExactNextStateOfWrong)

/-- 'laws.FnExactEnabledNodes': WHATEVER THE INPUT: true; the input reads as it did. -/
def fnExactEnabledNodesSpec : ChangeSpec := { name := "fnExactEnabledNodes", fn := fun _ => fun
  | [d1, d2, d3] => { results := [.lit (.bool true)], args := [d1, d2, d3] }
  | _ => none }
def fnExactEnabledNodesRow : OpenClaim := { program := "ytlfehdikgbgloaagreat", sum := "61001707e46d3b7a1772acb1cd8653baafd67bab69de5f033a2e4092b75c57cc", func := "loop.example/g01084/laws.FnExactEnabledNodes", spec := "fnExactEnabledNodes", unfollowed := true, recurses := true, apart := false }
def FnExactEnabledNodesSaid : Prop := fnExactEnabledNodesRow.holds Tryz.pinned (OpenSpec.ofChange fnExactEnabledNodesSpec)

/-- ITS FALSE NEIGHBOUR: 'it returns false'. Refute it at one input. -/
def fnExactEnabledNodesWrong : ChangeSpec := { name := "fnExactEnabledNodes", fn := fun _ => fun
  | [d1, d2, d3] => { results := [.lit (.bool false)], args := [d1, d2, d3] }
  | _ => none }
def FnExactEnabledNodesWrongFalsely : Prop := fnExactEnabledNodesRow.holds Tryz.pinned (OpenSpec.ofChange fnExactEnabledNodesWrong)

/-- 'laws.FnExactMoveSet': WHATEVER THE INPUT: true; the input reads as it did. -/
def fnExactMoveSetSpec : ChangeSpec := { name := "fnExactMoveSet", fn := fun _ => fun
  | [d1, d2, d3, d4] => { results := [.lit (.bool true)], args := [d1, d2, d3, d4] }
  | _ => none }
def fnExactMoveSetRow : OpenClaim := { program := "ytlfehdikgbgloaagreat", sum := "61001707e46d3b7a1772acb1cd8653baafd67bab69de5f033a2e4092b75c57cc", func := "loop.example/g01084/laws.FnExactMoveSet", spec := "fnExactMoveSet", unfollowed := true, recurses := true, apart := false }
def FnExactMoveSetSaid : Prop := fnExactMoveSetRow.holds Tryz.pinned (OpenSpec.ofChange fnExactMoveSetSpec)

/-- ITS FALSE NEIGHBOUR: 'it returns false'. Refute it at one input. -/
def fnExactMoveSetWrong : ChangeSpec := { name := "fnExactMoveSet", fn := fun _ => fun
  | [d1, d2, d3, d4] => { results := [.lit (.bool false)], args := [d1, d2, d3, d4] }
  | _ => none }
def FnExactMoveSetWrongFalsely : Prop := fnExactMoveSetRow.holds Tryz.pinned (OpenSpec.ofChange fnExactMoveSetWrong)

/-- 'laws.FnExactRunTogether': WHATEVER THE INPUT: true; the input reads as it did. -/
def fnExactRunTogetherSpec : ChangeSpec := { name := "fnExactRunTogether", fn := fun _ => fun
  | [d1, d2, d3, d4] => { results := [.lit (.bool true)], args := [d1, d2, d3, d4] }
  | _ => none }
def fnExactRunTogetherRow : OpenClaim := { program := "ytlfehdikgbgloaagreat", sum := "61001707e46d3b7a1772acb1cd8653baafd67bab69de5f033a2e4092b75c57cc", func := "loop.example/g01084/laws.FnExactRunTogether", spec := "fnExactRunTogether", unfollowed := true, recurses := true, apart := false }
def FnExactRunTogetherSaid : Prop := fnExactRunTogetherRow.holds Tryz.pinned (OpenSpec.ofChange fnExactRunTogetherSpec)

/-- ITS FALSE NEIGHBOUR: 'it returns false'. Refute it at one input. -/
def fnExactRunTogetherWrong : ChangeSpec := { name := "fnExactRunTogether", fn := fun _ => fun
  | [d1, d2, d3, d4] => { results := [.lit (.bool false)], args := [d1, d2, d3, d4] }
  | _ => none }
def FnExactRunTogetherWrongFalsely : Prop := fnExactRunTogetherRow.holds Tryz.pinned (OpenSpec.ofChange fnExactRunTogetherWrong)

/-- 'laws.FnExactRunCentral': WHATEVER THE INPUT: true; the input reads as it did. -/
def fnExactRunCentralSpec : ChangeSpec := { name := "fnExactRunCentral", fn := fun _ => fun
  | [d1, d2, d3, d4, d5] => { results := [.lit (.bool true)], args := [d1, d2, d3, d4, d5] }
  | _ => none }
def fnExactRunCentralRow : OpenClaim := { program := "ytlfehdikgbgloaagreat", sum := "61001707e46d3b7a1772acb1cd8653baafd67bab69de5f033a2e4092b75c57cc", func := "loop.example/g01084/laws.FnExactRunCentral", spec := "fnExactRunCentral", unfollowed := true, recurses := true, apart := false }
def FnExactRunCentralSaid : Prop := fnExactRunCentralRow.holds Tryz.pinned (OpenSpec.ofChange fnExactRunCentralSpec)

/-- ITS FALSE NEIGHBOUR: 'it returns false'. Refute it at one input. -/
def fnExactRunCentralWrong : ChangeSpec := { name := "fnExactRunCentral", fn := fun _ => fun
  | [d1, d2, d3, d4, d5] => { results := [.lit (.bool false)], args := [d1, d2, d3, d4, d5] }
  | _ => none }
def FnExactRunCentralWrongFalsely : Prop := fnExactRunCentralRow.holds Tryz.pinned (OpenSpec.ofChange fnExactRunCentralWrong)

/-- 'laws.FnExactLegalStateOf': WHATEVER THE INPUT: true; the input reads as it did. -/
def fnExactLegalStateOfSpec : ChangeSpec := { name := "fnExactLegalStateOf", fn := fun _ => fun
  | [d1, d2] => { results := [.lit (.bool true)], args := [d1, d2] }
  | _ => none }
def fnExactLegalStateOfRow : OpenClaim := { program := "ytlfehdikgbgloaagreat", sum := "61001707e46d3b7a1772acb1cd8653baafd67bab69de5f033a2e4092b75c57cc", func := "loop.example/g01084/laws.FnExactLegalStateOf", spec := "fnExactLegalStateOf", unfollowed := true, recurses := true, apart := false }
def FnExactLegalStateOfSaid : Prop := fnExactLegalStateOfRow.holds Tryz.pinned (OpenSpec.ofChange fnExactLegalStateOfSpec)

/-- ITS FALSE NEIGHBOUR: 'it returns false'. Refute it at one input. -/
def fnExactLegalStateOfWrong : ChangeSpec := { name := "fnExactLegalStateOf", fn := fun _ => fun
  | [d1, d2] => { results := [.lit (.bool false)], args := [d1, d2] }
  | _ => none }
def FnExactLegalStateOfWrongFalsely : Prop := fnExactLegalStateOfRow.holds Tryz.pinned (OpenSpec.ofChange fnExactLegalStateOfWrong)

/-- 'laws.FnExactSkewOf': WHATEVER THE INPUT: true; the input reads as it did. -/
def fnExactSkewOfSpec : ChangeSpec := { name := "fnExactSkewOf", fn := fun _ => fun
  | [d1, d2, d3] => { results := [.lit (.bool true)], args := [d1, d2, d3] }
  | _ => none }
def fnExactSkewOfRow : OpenClaim := { program := "ytlfehdikgbgloaagreat", sum := "61001707e46d3b7a1772acb1cd8653baafd67bab69de5f033a2e4092b75c57cc", func := "loop.example/g01084/laws.FnExactSkewOf", spec := "fnExactSkewOf", unfollowed := true, recurses := true, apart := false }
def FnExactSkewOfSaid : Prop := fnExactSkewOfRow.holds Tryz.pinned (OpenSpec.ofChange fnExactSkewOfSpec)

/-- ITS FALSE NEIGHBOUR: 'it returns false'. Refute it at one input. -/
def fnExactSkewOfWrong : ChangeSpec := { name := "fnExactSkewOf", fn := fun _ => fun
  | [d1, d2, d3] => { results := [.lit (.bool false)], args := [d1, d2, d3] }
  | _ => none }
def FnExactSkewOfWrongFalsely : Prop := fnExactSkewOfRow.holds Tryz.pinned (OpenSpec.ofChange fnExactSkewOfWrong)

/-- 'laws.FnExactStartAsync': WHATEVER THE INPUT: true; the input reads as it did. -/
def fnExactStartAsyncSpec : ChangeSpec := { name := "fnExactStartAsync", fn := fun _ => fun
  | [d1, d2] => { results := [.lit (.bool true)], args := [d1, d2] }
  | _ => none }
def fnExactStartAsyncRow : OpenClaim := { program := "ytlfehdikgbgloaagreat", sum := "61001707e46d3b7a1772acb1cd8653baafd67bab69de5f033a2e4092b75c57cc", func := "loop.example/g01084/laws.FnExactStartAsync", spec := "fnExactStartAsync", unfollowed := true, recurses := true, apart := false }
def FnExactStartAsyncSaid : Prop := fnExactStartAsyncRow.holds Tryz.pinned (OpenSpec.ofChange fnExactStartAsyncSpec)

/-- ITS FALSE NEIGHBOUR: 'it returns false'. Refute it at one input. -/
def fnExactStartAsyncWrong : ChangeSpec := { name := "fnExactStartAsync", fn := fun _ => fun
  | [d1, d2] => { results := [.lit (.bool false)], args := [d1, d2] }
  | _ => none }
def FnExactStartAsyncWrongFalsely : Prop := fnExactStartAsyncRow.holds Tryz.pinned (OpenSpec.ofChange fnExactStartAsyncWrong)

/-- 'laws.FnExactFirstAsyncFault': WHATEVER THE INPUT: true; the input reads as it did. -/
def fnExactFirstAsyncFaultSpec : ChangeSpec := { name := "fnExactFirstAsyncFault", fn := fun _ => fun
  | [d1, d2, d3] => { results := [.lit (.bool true)], args := [d1, d2, d3] }
  | _ => none }
def fnExactFirstAsyncFaultRow : OpenClaim := { program := "ytlfehdikgbgloaagreat", sum := "61001707e46d3b7a1772acb1cd8653baafd67bab69de5f033a2e4092b75c57cc", func := "loop.example/g01084/laws.FnExactFirstAsyncFault", spec := "fnExactFirstAsyncFault", unfollowed := true, recurses := true, apart := false }
def FnExactFirstAsyncFaultSaid : Prop := fnExactFirstAsyncFaultRow.holds Tryz.pinned (OpenSpec.ofChange fnExactFirstAsyncFaultSpec)

/-- ITS FALSE NEIGHBOUR: 'it returns false'. Refute it at one input. -/
def fnExactFirstAsyncFaultWrong : ChangeSpec := { name := "fnExactFirstAsyncFault", fn := fun _ => fun
  | [d1, d2, d3] => { results := [.lit (.bool false)], args := [d1, d2, d3] }
  | _ => none }
def FnExactFirstAsyncFaultWrongFalsely : Prop := fnExactFirstAsyncFaultRow.holds Tryz.pinned (OpenSpec.ofChange fnExactFirstAsyncFaultWrong)

/- THE SECOND FORM. 'bulk': how many values and letters a reading holds, each counted each time it is reached (what is shared counts as often as it is met; a slice's spare places count too). A statement '..UptoSaid' is the law's where the arguments, and the package variables that the reading takes, are together of bulk at most 1048576: NARROWER than '..Said'. Prove '..Said' where nothing that the law and all that it calls make is longer than what came in: it says more and counts as full. Else prove '..UptoSaid'. A law counts once. -/
mutual
def uptoBulk {H : Type} : DataW H → Nat
  | .lit (.string bytes) => bytes.length + 1
  | .lit _ => 1
  | .nil => 1
  | .ptr d => uptoBulk d + 1
  | .slice elems spare => uptoBulkAll elems + uptoBulkAll spare + 1
  | .agg parts => uptoBulkAll parts + 1
  | .iface _ d => uptoBulk d + 1
  | .map entries => uptoBulkEntries entries + 1
  | .held _ => 1
def uptoBulkAll {H : Type} : List (DataW H) → Nat
  | [] => 0
  | d :: r => uptoBulk d + uptoBulkAll r
def uptoBulkEntries {H : Type} : List (Lit × DataW H) → Nat
  | [] => 0
  | x :: r => uptoBulkEntry x + uptoBulkEntries r
def uptoBulkEntry {H : Type} : Lit × DataW H → Nat
  | (.string bytes, d) => bytes.length + uptoBulk d + 1
  | (_, d) => uptoBulk d + 1
 end
def uptoSmall : (H : Type) → List (DataW H) → Bool := fun _ ds => decide (uptoBulkAll ds ≤ 1048576)
def OpenSpec.upto (s : _root_.Go.ChangeSpec) : _root_.Go.OpenSpec := { _root_.Go.OpenSpec.ofChange s with cond := some uptoSmall }

/-- 'laws.FnExactNextStateOf', WHERE WHAT IT READS IS OF BULK AT MOST 1048576: true; the input reads as it did. -/
def fnExactNextStateOfUptoRow : OpenClaim := { program := "ytlfehdikgbgloaagreat", sum := "61001707e46d3b7a1772acb1cd8653baafd67bab69de5f033a2e4092b75c57cc", func := "loop.example/g01084/laws.FnExactNextStateOf", spec := "fnExactNextStateOf", unfollowed := true, recurses := true, apart := false, narrowed := true }
def FnExactNextStateOfUptoSaid : Prop := fnExactNextStateOfUptoRow.holds Tryz.pinned (OpenSpec.upto fnExactNextStateOfSpec)

/-- 'laws.FnExactEnabledNodes', WHERE WHAT IT READS IS OF BULK AT MOST 1048576: true; the input reads as it did. -/
def fnExactEnabledNodesUptoRow : OpenClaim := { program := "ytlfehdikgbgloaagreat", sum := "61001707e46d3b7a1772acb1cd8653baafd67bab69de5f033a2e4092b75c57cc", func := "loop.example/g01084/laws.FnExactEnabledNodes", spec := "fnExactEnabledNodes", unfollowed := true, recurses := true, apart := false, narrowed := true }
def FnExactEnabledNodesUptoSaid : Prop := fnExactEnabledNodesUptoRow.holds Tryz.pinned (OpenSpec.upto fnExactEnabledNodesSpec)

/-- 'laws.FnExactMoveSet', WHERE WHAT IT READS IS OF BULK AT MOST 1048576: true; the input reads as it did. -/
def fnExactMoveSetUptoRow : OpenClaim := { program := "ytlfehdikgbgloaagreat", sum := "61001707e46d3b7a1772acb1cd8653baafd67bab69de5f033a2e4092b75c57cc", func := "loop.example/g01084/laws.FnExactMoveSet", spec := "fnExactMoveSet", unfollowed := true, recurses := true, apart := false, narrowed := true }
def FnExactMoveSetUptoSaid : Prop := fnExactMoveSetUptoRow.holds Tryz.pinned (OpenSpec.upto fnExactMoveSetSpec)

/-- 'laws.FnExactRunTogether', WHERE WHAT IT READS IS OF BULK AT MOST 1048576: true; the input reads as it did. -/
def fnExactRunTogetherUptoRow : OpenClaim := { program := "ytlfehdikgbgloaagreat", sum := "61001707e46d3b7a1772acb1cd8653baafd67bab69de5f033a2e4092b75c57cc", func := "loop.example/g01084/laws.FnExactRunTogether", spec := "fnExactRunTogether", unfollowed := true, recurses := true, apart := false, narrowed := true }
def FnExactRunTogetherUptoSaid : Prop := fnExactRunTogetherUptoRow.holds Tryz.pinned (OpenSpec.upto fnExactRunTogetherSpec)

/-- 'laws.FnExactRunCentral', WHERE WHAT IT READS IS OF BULK AT MOST 1048576: true; the input reads as it did. -/
def fnExactRunCentralUptoRow : OpenClaim := { program := "ytlfehdikgbgloaagreat", sum := "61001707e46d3b7a1772acb1cd8653baafd67bab69de5f033a2e4092b75c57cc", func := "loop.example/g01084/laws.FnExactRunCentral", spec := "fnExactRunCentral", unfollowed := true, recurses := true, apart := false, narrowed := true }
def FnExactRunCentralUptoSaid : Prop := fnExactRunCentralUptoRow.holds Tryz.pinned (OpenSpec.upto fnExactRunCentralSpec)

/-- 'laws.FnExactLegalStateOf', WHERE WHAT IT READS IS OF BULK AT MOST 1048576: true; the input reads as it did. -/
def fnExactLegalStateOfUptoRow : OpenClaim := { program := "ytlfehdikgbgloaagreat", sum := "61001707e46d3b7a1772acb1cd8653baafd67bab69de5f033a2e4092b75c57cc", func := "loop.example/g01084/laws.FnExactLegalStateOf", spec := "fnExactLegalStateOf", unfollowed := true, recurses := true, apart := false, narrowed := true }
def FnExactLegalStateOfUptoSaid : Prop := fnExactLegalStateOfUptoRow.holds Tryz.pinned (OpenSpec.upto fnExactLegalStateOfSpec)

/-- 'laws.FnExactSkewOf', WHERE WHAT IT READS IS OF BULK AT MOST 1048576: true; the input reads as it did. -/
def fnExactSkewOfUptoRow : OpenClaim := { program := "ytlfehdikgbgloaagreat", sum := "61001707e46d3b7a1772acb1cd8653baafd67bab69de5f033a2e4092b75c57cc", func := "loop.example/g01084/laws.FnExactSkewOf", spec := "fnExactSkewOf", unfollowed := true, recurses := true, apart := false, narrowed := true }
def FnExactSkewOfUptoSaid : Prop := fnExactSkewOfUptoRow.holds Tryz.pinned (OpenSpec.upto fnExactSkewOfSpec)

/-- 'laws.FnExactStartAsync', WHERE WHAT IT READS IS OF BULK AT MOST 1048576: true; the input reads as it did. -/
def fnExactStartAsyncUptoRow : OpenClaim := { program := "ytlfehdikgbgloaagreat", sum := "61001707e46d3b7a1772acb1cd8653baafd67bab69de5f033a2e4092b75c57cc", func := "loop.example/g01084/laws.FnExactStartAsync", spec := "fnExactStartAsync", unfollowed := true, recurses := true, apart := false, narrowed := true }
def FnExactStartAsyncUptoSaid : Prop := fnExactStartAsyncUptoRow.holds Tryz.pinned (OpenSpec.upto fnExactStartAsyncSpec)

/-- 'laws.FnExactFirstAsyncFault', WHERE WHAT IT READS IS OF BULK AT MOST 1048576: true; the input reads as it did. -/
def fnExactFirstAsyncFaultUptoRow : OpenClaim := { program := "ytlfehdikgbgloaagreat", sum := "61001707e46d3b7a1772acb1cd8653baafd67bab69de5f033a2e4092b75c57cc", func := "loop.example/g01084/laws.FnExactFirstAsyncFault", spec := "fnExactFirstAsyncFault", unfollowed := true, recurses := true, apart := false, narrowed := true }
def FnExactFirstAsyncFaultUptoSaid : Prop := fnExactFirstAsyncFaultUptoRow.holds Tryz.pinned (OpenSpec.upto fnExactFirstAsyncFaultSpec)

end Rows
end Go.Proofs.YtlfehdikgbgloaaGreat
