/-
  No cell of these rows narrows 'for every input' (looked for: loops, veiled, ifaces, maps, wideKeys, modest, calm, conditions, laid).
  DERIVED. THE GIVEN ROWS OF THIS SEAT. 3 by the template 'for every input the law returns true; each argument reads behind the call as it read before'; 0 by the template 'total and deterministic' (their statements: YtlfehdikgbgloaaTotals.lean).
  GIVEN WITH THE SEED: the statements are not yours to turn. If you find one false, say at which input.
  Laid BY PROGRAM, IN A SANDBOX (cutbox-rows.mjs): the forced cells as the released guide's own fill.sh prints them over the translation 330e79cf44a1ece3… (all of the seat's roots in one cut). By AI agents, Wed Nov 11 2026. No macro, syntax, notation, axiom, sorry.
-/
import Derived.Test.YtlfehdikgbgloaaChecked
import GoSem.Claim
import GoSem.ClaimJoined
import GoSem.ClaimMapViews
import Derived.JoinedTies
import Derived.KernelRfl
namespace Go.Proofs.Ytlfehdikgbgloaa
/- THE CELL 'sum', in the pinned program and in every row, IS THE sha256 OF THE DUMP (.gsa) THAT YtlfehdikgbgloaaProg.lean LOADS. Nothing in Lean hashes anything: it is a label: what it is worth is what the hold of that sum in a sandbox is worth. -/
noncomputable def Try.pinned : Pinned := { name := "ytlfehdikgbgloaa", sum := "330e79cf44a1ece31d95b38968f1cbf0ede46e9e2841974df444b0cf81c6e7c9", checked := Try.checked }
namespace Rows
def none {H : Type} : Left H := { results := [], args := [] }

/-- 'laws.FnExactHasProperty': WHATEVER THE INPUT: true; the input reads as it did. -/
def fnExactHasPropertySpec : ChangeSpec := { name := "fnExactHasProperty", fn := fun _ => fun
  | [d1, d2] => { results := [.lit (.bool true)], args := [d1, d2] }
  | _ => none }
def fnExactHasPropertyRow : OpenClaim := { program := "ytlfehdikgbgloaa", sum := "330e79cf44a1ece31d95b38968f1cbf0ede46e9e2841974df444b0cf81c6e7c9", func := "loop.example/g01084/laws.FnExactHasProperty", spec := "fnExactHasProperty", unfollowed := true, recurses := true, apart := false }
def FnExactHasPropertySaid : Prop := fnExactHasPropertyRow.holds Try.pinned (OpenSpec.ofChange fnExactHasPropertySpec)

/-- ITS FALSE NEIGHBOUR: 'it returns false'. Refute it at one input. -/
def fnExactHasPropertyWrong : ChangeSpec := { name := "fnExactHasProperty", fn := fun _ => fun
  | [d1, d2] => { results := [.lit (.bool false)], args := [d1, d2] }
  | _ => none }
def FnExactHasPropertyWrongFalsely : Prop := fnExactHasPropertyRow.holds Try.pinned (OpenSpec.ofChange fnExactHasPropertyWrong)

/-- 'laws.FnExactIsAsyncState': WHATEVER THE INPUT: true; the input reads as it did. -/
def fnExactIsAsyncStateSpec : ChangeSpec := { name := "fnExactIsAsyncState", fn := fun _ => fun
  | [d1, d2, d3] => { results := [.lit (.bool true)], args := [d1, d2, d3] }
  | _ => none }
def fnExactIsAsyncStateRow : OpenClaim := { program := "ytlfehdikgbgloaa", sum := "330e79cf44a1ece31d95b38968f1cbf0ede46e9e2841974df444b0cf81c6e7c9", func := "loop.example/g01084/laws.FnExactIsAsyncState", spec := "fnExactIsAsyncState", unfollowed := true, recurses := true, apart := false }
def FnExactIsAsyncStateSaid : Prop := fnExactIsAsyncStateRow.holds Try.pinned (OpenSpec.ofChange fnExactIsAsyncStateSpec)

/-- ITS FALSE NEIGHBOUR: 'it returns false'. Refute it at one input. -/
def fnExactIsAsyncStateWrong : ChangeSpec := { name := "fnExactIsAsyncState", fn := fun _ => fun
  | [d1, d2, d3] => { results := [.lit (.bool false)], args := [d1, d2, d3] }
  | _ => none }
def FnExactIsAsyncStateWrongFalsely : Prop := fnExactIsAsyncStateRow.holds Try.pinned (OpenSpec.ofChange fnExactIsAsyncStateWrong)

/-- 'laws.FnExactLettersInFlight': WHATEVER THE INPUT: true; the input reads as it did. -/
def fnExactLettersInFlightSpec : ChangeSpec := { name := "fnExactLettersInFlight", fn := fun _ => fun
  | [d1, d2, d3] => { results := [.lit (.bool true)], args := [d1, d2, d3] }
  | _ => none }
def fnExactLettersInFlightRow : OpenClaim := { program := "ytlfehdikgbgloaa", sum := "330e79cf44a1ece31d95b38968f1cbf0ede46e9e2841974df444b0cf81c6e7c9", func := "loop.example/g01084/laws.FnExactLettersInFlight", spec := "fnExactLettersInFlight", unfollowed := true, recurses := true, apart := false }
def FnExactLettersInFlightSaid : Prop := fnExactLettersInFlightRow.holds Try.pinned (OpenSpec.ofChange fnExactLettersInFlightSpec)

/-- ITS FALSE NEIGHBOUR: 'it returns false'. Refute it at one input. -/
def fnExactLettersInFlightWrong : ChangeSpec := { name := "fnExactLettersInFlight", fn := fun _ => fun
  | [d1, d2, d3] => { results := [.lit (.bool false)], args := [d1, d2, d3] }
  | _ => none }
def FnExactLettersInFlightWrongFalsely : Prop := fnExactLettersInFlightRow.holds Try.pinned (OpenSpec.ofChange fnExactLettersInFlightWrong)

/- THE SECOND FORM. 'bulk': how many values and letters a reading holds, each counted each time it is reached (what is shared counts as often as it is met; a slice's spare places count too). A statement '..UptoSaid' is the law's where the arguments, and the package variables that the reading takes, are together of bulk at most 1048576: NARROWER than '..Said'. Prove '..Said' where nothing that the law and all that it calls make is longer than what came in: it says more and counts as full. Else prove '..UptoSaid'. A law counts once. -/
mutual
def uptoBulk {H : Type} : DataW H → Nat
  | .lit (.string bytes) => bytes.length + 1
  | .lit _ => 1
  | .nil => 1
  | .ptr d => uptoBulk d + 1
  | .slice elems spare => uptoBulkAll elems + uptoBulkAll spare + 1
  | .agg parts => uptoBulkAll parts + 1
  | .iface _ d => uptoBulk d + 1
  | .map entries => uptoBulkEntries entries + 1
  | .held _ => 1
def uptoBulkAll {H : Type} : List (DataW H) → Nat
  | [] => 0
  | d :: r => uptoBulk d + uptoBulkAll r
def uptoBulkEntries {H : Type} : List (Lit × DataW H) → Nat
  | [] => 0
  | x :: r => uptoBulkEntry x + uptoBulkEntries r
def uptoBulkEntry {H : Type} : Lit × DataW H → Nat
  | (.string bytes, d) => bytes.length + uptoBulk d + 1
  | (_, d) => uptoBulk d + 1
 end
def uptoSmall : (H : Type) → List (DataW H) → Bool := fun _ ds => decide (uptoBulkAll ds ≤ 1048576)
def OpenSpec.upto (s : _root_.Go.ChangeSpec) : _root_.Go.OpenSpec := { _root_.Go.OpenSpec.ofChange s with cond := some uptoSmall }

/-- 'laws.FnExactHasProperty', WHERE WHAT IT READS IS OF BULK AT MOST 1048576: true; the input reads as it did. -/
def fnExactHasPropertyUptoRow : OpenClaim := { program := "ytlfehdikgbgloaa", sum := "330e79cf44a1ece31d95b38968f1cbf0ede46e9e2841974df444b0cf81c6e7c9", func := "loop.example/g01084/laws.FnExactHasProperty", spec := "fnExactHasProperty", unfollowed := true, recurses := true, apart := false, narrowed := true }
def FnExactHasPropertyUptoSaid : Prop := fnExactHasPropertyUptoRow.holds Try.pinned (OpenSpec.upto fnExactHasPropertySpec)

/-- 'laws.FnExactIsAsyncState', WHERE WHAT IT READS IS OF BULK AT MOST 1048576: true; the input reads as it did. -/
def fnExactIsAsyncStateUptoRow : OpenClaim := { program := "ytlfehdikgbgloaa", sum := "330e79cf44a1ece31d95b38968f1cbf0ede46e9e2841974df444b0cf81c6e7c9", func := "loop.example/g01084/laws.FnExactIsAsyncState", spec := "fnExactIsAsyncState", unfollowed := true, recurses := true, apart := false, narrowed := true }
def FnExactIsAsyncStateUptoSaid : Prop := fnExactIsAsyncStateUptoRow.holds Try.pinned (OpenSpec.upto fnExactIsAsyncStateSpec)

/-- 'laws.FnExactLettersInFlight', WHERE WHAT IT READS IS OF BULK AT MOST 1048576: true; the input reads as it did. -/
def fnExactLettersInFlightUptoRow : OpenClaim := { program := "ytlfehdikgbgloaa", sum := "330e79cf44a1ece31d95b38968f1cbf0ede46e9e2841974df444b0cf81c6e7c9", func := "loop.example/g01084/laws.FnExactLettersInFlight", spec := "fnExactLettersInFlight", unfollowed := true, recurses := true, apart := false, narrowed := true }
def FnExactLettersInFlightUptoSaid : Prop := fnExactLettersInFlightUptoRow.holds Try.pinned (OpenSpec.upto fnExactLettersInFlightSpec)

end Rows
end Go.Proofs.Ytlfehdikgbgloaa
