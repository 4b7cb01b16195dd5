/-
  No cell of these rows narrows 'for every input' (looked for: loops, veiled, ifaces, maps, wideKeys, modest, calm, conditions, laid).
  DERIVED. THE GIVEN ROWS OF THIS SEAT. 4 by the template 'for every input the law returns true; each argument reads behind the call as it read before'; 0 by the template 'total and deterministic' (their statements: YtgmdpppljkmabaaGreatTotals.lean).
  GIVEN WITH THE SEED: the statements are not yours to turn. If you find one false, say at which input.
  Laid BY PROGRAM, IN A SANDBOX (cutbox-rows.mjs): the forced cells as the released guide's own fill.sh prints them over the translation 32f7e74a14fa0881… (all of the seat's roots in one cut). By AI agents, Wed Nov 11 2026. No macro, syntax, notation, axiom, sorry.
-/
import Derived.Test.YtgmdpppljkmabaaGreatChecked
import GoSem.Claim
import GoSem.ClaimJoined
import GoSem.ClaimMapViews
import Derived.JoinedTies
import Derived.KernelRfl
namespace Go.Proofs.YtgmdpppljkmabaaGreat
/- THE CELL 'sum', in the pinned program and in every row, IS THE sha256 OF THE DUMP (.gsa) THAT YtgmdpppljkmabaaGreatProg.lean LOADS. Nothing in Lean hashes anything: it is a label: what it is worth is what the hold of that sum in a sandbox is worth. -/
noncomputable def Tryz.pinned : Pinned := { name := "ytgmdpppljkmabaagreat", sum := "32f7e74a14fa08811d9787bdbc70a4c6ce924dc3727849082568976be9f3f986", checked := Tryz.checked }
namespace Rows
def none {H : Type} : Left H := { results := [], args := [] }

/-- 'laws.FnCrossings': WHATEVER THE INPUT: true; the input reads as it did. -/
def fnCrossingsSpec : ChangeSpec := { name := "fnCrossings", fn := fun _ => fun
  | [d1, d2] => { results := [.lit (.bool true)], args := [d1, d2] }
  | _ => none }
def fnCrossingsRow : OpenClaim := { program := "ytgmdpppljkmabaagreat", sum := "32f7e74a14fa08811d9787bdbc70a4c6ce924dc3727849082568976be9f3f986", func := "loop.example/g01084/laws.FnCrossings", spec := "fnCrossings", unfollowed := true, recurses := true, apart := false }
def FnCrossingsSaid : Prop := fnCrossingsRow.holds Tryz.pinned (OpenSpec.ofChange fnCrossingsSpec)

/-- ITS FALSE NEIGHBOUR: 'it returns false'. Refute it at one input. -/
def fnCrossingsWrong : ChangeSpec := { name := "fnCrossings", fn := fun _ => fun
  | [d1, d2] => { results := [.lit (.bool false)], args := [d1, d2] }
  | _ => none }
def FnCrossingsWrongFalsely : Prop := fnCrossingsRow.holds Tryz.pinned (OpenSpec.ofChange fnCrossingsWrong)

/-- 'laws.FnForgeries': WHATEVER THE INPUT: true; the input reads as it did. -/
def fnForgeriesSpec : ChangeSpec := { name := "fnForgeries", fn := fun _ => fun
  | [d1, d2] => { results := [.lit (.bool true)], args := [d1, d2] }
  | _ => none }
def fnForgeriesRow : OpenClaim := { program := "ytgmdpppljkmabaagreat", sum := "32f7e74a14fa08811d9787bdbc70a4c6ce924dc3727849082568976be9f3f986", func := "loop.example/g01084/laws.FnForgeries", spec := "fnForgeries", unfollowed := true, recurses := true, apart := false }
def FnForgeriesSaid : Prop := fnForgeriesRow.holds Tryz.pinned (OpenSpec.ofChange fnForgeriesSpec)

/-- ITS FALSE NEIGHBOUR: 'it returns false'. Refute it at one input. -/
def fnForgeriesWrong : ChangeSpec := { name := "fnForgeries", fn := fun _ => fun
  | [d1, d2] => { results := [.lit (.bool false)], args := [d1, d2] }
  | _ => none }
def FnForgeriesWrongFalsely : Prop := fnForgeriesRow.holds Tryz.pinned (OpenSpec.ofChange fnForgeriesWrong)

/-- 'laws.FnProofLabels': WHATEVER THE INPUT: true; the input reads as it did. -/
def fnProofLabelsSpec : ChangeSpec := { name := "fnProofLabels", fn := fun _ => fun
  | [d1, d2] => { results := [.lit (.bool true)], args := [d1, d2] }
  | _ => none }
def fnProofLabelsRow : OpenClaim := { program := "ytgmdpppljkmabaagreat", sum := "32f7e74a14fa08811d9787bdbc70a4c6ce924dc3727849082568976be9f3f986", func := "loop.example/g01084/laws.FnProofLabels", spec := "fnProofLabels", unfollowed := true, recurses := true, apart := false }
def FnProofLabelsSaid : Prop := fnProofLabelsRow.holds Tryz.pinned (OpenSpec.ofChange fnProofLabelsSpec)

/-- ITS FALSE NEIGHBOUR: 'it returns false'. Refute it at one input. -/
def fnProofLabelsWrong : ChangeSpec := { name := "fnProofLabels", fn := fun _ => fun
  | [d1, d2] => { results := [.lit (.bool false)], args := [d1, d2] }
  | _ => none }
def FnProofLabelsWrongFalsely : Prop := fnProofLabelsRow.holds Tryz.pinned (OpenSpec.ofChange fnProofLabelsWrong)

/-- 'laws.FnProofCovers': WHATEVER THE INPUT: true; the input reads as it did. -/
def fnProofCoversSpec : ChangeSpec := { name := "fnProofCovers", fn := fun _ => fun
  | [d1, d2] => { results := [.lit (.bool true)], args := [d1, d2] }
  | _ => none }
def fnProofCoversRow : OpenClaim := { program := "ytgmdpppljkmabaagreat", sum := "32f7e74a14fa08811d9787bdbc70a4c6ce924dc3727849082568976be9f3f986", func := "loop.example/g01084/laws.FnProofCovers", spec := "fnProofCovers", unfollowed := true, recurses := true, apart := false }
def FnProofCoversSaid : Prop := fnProofCoversRow.holds Tryz.pinned (OpenSpec.ofChange fnProofCoversSpec)

/-- ITS FALSE NEIGHBOUR: 'it returns false'. Refute it at one input. -/
def fnProofCoversWrong : ChangeSpec := { name := "fnProofCovers", fn := fun _ => fun
  | [d1, d2] => { results := [.lit (.bool false)], args := [d1, d2] }
  | _ => none }
def FnProofCoversWrongFalsely : Prop := fnProofCoversRow.holds Tryz.pinned (OpenSpec.ofChange fnProofCoversWrong)

/- THE SECOND FORM. 'bulk': how many values and letters a reading holds, each counted each time it is reached (what is shared counts as often as it is met; a slice's spare places count too). A statement '..UptoSaid' is the law's where the arguments, and the package variables that the reading takes, are together of bulk at most 1048576: NARROWER than '..Said'. Prove '..Said' where nothing that the law and all that it calls make is longer than what came in: it says more and counts as full. Else prove '..UptoSaid'. A law counts once. -/
mutual
def uptoBulk {H : Type} : DataW H → Nat
  | .lit (.string bytes) => bytes.length + 1
  | .lit _ => 1
  | .nil => 1
  | .ptr d => uptoBulk d + 1
  | .slice elems spare => uptoBulkAll elems + uptoBulkAll spare + 1
  | .agg parts => uptoBulkAll parts + 1
  | .iface _ d => uptoBulk d + 1
  | .map entries => uptoBulkEntries entries + 1
  | .held _ => 1
def uptoBulkAll {H : Type} : List (DataW H) → Nat
  | [] => 0
  | d :: r => uptoBulk d + uptoBulkAll r
def uptoBulkEntries {H : Type} : List (Lit × DataW H) → Nat
  | [] => 0
  | x :: r => uptoBulkEntry x + uptoBulkEntries r
def uptoBulkEntry {H : Type} : Lit × DataW H → Nat
  | (.string bytes, d) => bytes.length + uptoBulk d + 1
  | (_, d) => uptoBulk d + 1
 end
def uptoSmall : (H : Type) → List (DataW H) → Bool := fun _ ds => decide (uptoBulkAll ds ≤ 1048576)
def OpenSpec.upto (s : _root_.Go.ChangeSpec) : _root_.Go.OpenSpec := { _root_.Go.OpenSpec.ofChange s with cond := some uptoSmall }

/-- 'laws.FnCrossings', WHERE WHAT IT READS IS OF BULK AT MOST 1048576: true; the input reads as it did. -/
def fnCrossingsUptoRow : OpenClaim := { program := "ytgmdpppljkmabaagreat", sum := "32f7e74a14fa08811d9787bdbc70a4c6ce924dc3727849082568976be9f3f986", func := "loop.example/g01084/laws.FnCrossings", spec := "fnCrossings", unfollowed := true, recurses := true, apart := false, narrowed := true }
def FnCrossingsUptoSaid : Prop := fnCrossingsUptoRow.holds Tryz.pinned (OpenSpec.upto fnCrossingsSpec)

/-- 'laws.FnForgeries', WHERE WHAT IT READS IS OF BULK AT MOST 1048576: true; the input reads as it did. -/
def fnForgeriesUptoRow : OpenClaim := { program := "ytgmdpppljkmabaagreat", sum := "32f7e74a14fa08811d9787bdbc70a4c6ce924dc3727849082568976be9f3f986", func := "loop.example/g01084/laws.FnForgeries", spec := "fnForgeries", unfollowed := true, recurses := true, apart := false, narrowed := true }
def FnForgeriesUptoSaid : Prop := fnForgeriesUptoRow.holds Tryz.pinned (OpenSpec.upto fnForgeriesSpec)

/-- 'laws.FnProofLabels', WHERE WHAT IT READS IS OF BULK AT MOST 1048576: true; the input reads as it did. -/
def fnProofLabelsUptoRow : OpenClaim := { program := "ytgmdpppljkmabaagreat", sum := "32f7e74a14fa08811d9787bdbc70a4c6ce924dc3727849082568976be9f3f986", func := "loop.example/g01084/laws.FnProofLabels", spec := "fnProofLabels", unfollowed := true, recurses := true, apart := false, narrowed := true }
def FnProofLabelsUptoSaid : Prop := fnProofLabelsUptoRow.holds Tryz.pinned (OpenSpec.upto fnProofLabelsSpec)

/-- 'laws.FnProofCovers', WHERE WHAT IT READS IS OF BULK AT MOST 1048576: true; the input reads as it did. -/
def fnProofCoversUptoRow : OpenClaim := { program := "ytgmdpppljkmabaagreat", sum := "32f7e74a14fa08811d9787bdbc70a4c6ce924dc3727849082568976be9f3f986", func := "loop.example/g01084/laws.FnProofCovers", spec := "fnProofCovers", unfollowed := true, recurses := true, apart := false, narrowed := true }
def FnProofCoversUptoSaid : Prop := fnProofCoversUptoRow.holds Tryz.pinned (OpenSpec.upto fnProofCoversSpec)

end Rows
end Go.Proofs.YtgmdpppljkmabaaGreat
