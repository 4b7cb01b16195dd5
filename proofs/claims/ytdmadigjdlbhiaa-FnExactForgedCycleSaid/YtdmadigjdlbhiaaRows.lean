/-
  No cell of these rows narrows 'for every input' (looked for: loops, veiled, ifaces, maps, wideKeys, modest, calm, conditions, laid).
  DERIVED. THE GIVEN ROWS OF THIS SEAT. 6 by the template 'for every input the law returns true; each argument reads behind the call as it read before'; 0 by the template 'total and deterministic' (their statements: YtdmadigjdlbhiaaTotals.lean).
  GIVEN WITH THE SEED: the statements are not yours to turn. If you find one false, say at which input.
  Laid BY PROGRAM, IN A SANDBOX (cutbox-rows.mjs): the forced cells as the released guide's own fill.sh prints them over the translation 455114b76774d0f0… (all of the seat's roots in one cut). By AI agents, Wed Nov 11 2026. No macro, syntax, notation, axiom, sorry.
-/
import Derived.Test.YtdmadigjdlbhiaaChecked
import GoSem.Claim
import GoSem.ClaimJoined
import GoSem.ClaimMapViews
import Derived.JoinedTies
import Derived.KernelRfl
namespace Go.Proofs.Ytdmadigjdlbhiaa
/- THE CELL 'sum', in the pinned program and in every row, IS THE sha256 OF THE DUMP (.gsa) THAT YtdmadigjdlbhiaaProg.lean LOADS. Nothing in Lean hashes anything: it is a label: what it is worth is what the hold of that sum in a sandbox is worth. -/
noncomputable def Try.pinned : Pinned := { name := "ytdmadigjdlbhiaa", sum := "455114b76774d0f0837c1bad8b64fb85fdce52571fbb399acb06e8a6a3081fc3", checked := Try.checked }
namespace Rows
def none {H : Type} : Left H := { results := [], args := [] }

/-- 'laws.FnExactSchemeName': WHATEVER THE INPUT: true; the input reads as it did. -/
def fnExactSchemeNameSpec : ChangeSpec := { name := "fnExactSchemeName", fn := fun _ => fun
  | [d] => { results := [.lit (.bool true)], args := [d] }
  | _ => none }
def fnExactSchemeNameRow : OpenClaim := { program := "ytdmadigjdlbhiaa", sum := "455114b76774d0f0837c1bad8b64fb85fdce52571fbb399acb06e8a6a3081fc3", func := "loop.example/g01084/laws.FnExactSchemeName", spec := "fnExactSchemeName", apart := false }
def FnExactSchemeNameSaid : Prop := fnExactSchemeNameRow.holds Try.pinned (OpenSpec.ofChange fnExactSchemeNameSpec)

/-- ITS FALSE NEIGHBOUR: 'it returns false'. Refute it at one input. -/
def fnExactSchemeNameWrong : ChangeSpec := { name := "fnExactSchemeName", fn := fun _ => fun
  | [d] => { results := [.lit (.bool false)], args := [d] }
  | _ => none }
def FnExactSchemeNameWrongFalsely : Prop := fnExactSchemeNameRow.holds Try.pinned (OpenSpec.ofChange fnExactSchemeNameWrong)

/-- 'laws.FnExactStableName': WHATEVER THE INPUT: true; the input reads as it did. -/
def fnExactStableNameSpec : ChangeSpec := { name := "fnExactStableName", fn := fun _ => fun
  | [d] => { results := [.lit (.bool true)], args := [d] }
  | _ => none }
def fnExactStableNameRow : OpenClaim := { program := "ytdmadigjdlbhiaa", sum := "455114b76774d0f0837c1bad8b64fb85fdce52571fbb399acb06e8a6a3081fc3", func := "loop.example/g01084/laws.FnExactStableName", spec := "fnExactStableName", apart := false }
def FnExactStableNameSaid : Prop := fnExactStableNameRow.holds Try.pinned (OpenSpec.ofChange fnExactStableNameSpec)

/-- ITS FALSE NEIGHBOUR: 'it returns false'. Refute it at one input. -/
def fnExactStableNameWrong : ChangeSpec := { name := "fnExactStableName", fn := fun _ => fun
  | [d] => { results := [.lit (.bool false)], args := [d] }
  | _ => none }
def FnExactStableNameWrongFalsely : Prop := fnExactStableNameRow.holds Try.pinned (OpenSpec.ofChange fnExactStableNameWrong)

/-- 'laws.FnExactLabelFromParts': WHATEVER THE INPUT: true; the input reads as it did. -/
def fnExactLabelFromPartsSpec : ChangeSpec := { name := "fnExactLabelFromParts", fn := fun _ => fun
  | [d1, d2] => { results := [.lit (.bool true)], args := [d1, d2] }
  | _ => none }
def fnExactLabelFromPartsRow : OpenClaim := { program := "ytdmadigjdlbhiaa", sum := "455114b76774d0f0837c1bad8b64fb85fdce52571fbb399acb06e8a6a3081fc3", func := "loop.example/g01084/laws.FnExactLabelFromParts", spec := "fnExactLabelFromParts", apart := false }
def FnExactLabelFromPartsSaid : Prop := fnExactLabelFromPartsRow.holds Try.pinned (OpenSpec.ofChange fnExactLabelFromPartsSpec)

/-- ITS FALSE NEIGHBOUR: 'it returns false'. Refute it at one input. -/
def fnExactLabelFromPartsWrong : ChangeSpec := { name := "fnExactLabelFromParts", fn := fun _ => fun
  | [d1, d2] => { results := [.lit (.bool false)], args := [d1, d2] }
  | _ => none }
def FnExactLabelFromPartsWrongFalsely : Prop := fnExactLabelFromPartsRow.holds Try.pinned (OpenSpec.ofChange fnExactLabelFromPartsWrong)

/-- 'laws.FnExactProofBits': WHATEVER THE INPUT: true; the input reads as it did. -/
def fnExactProofBitsSpec : ChangeSpec := { name := "fnExactProofBits", fn := fun _ => fun
  | [d] => { results := [.lit (.bool true)], args := [d] }
  | _ => none }
def fnExactProofBitsRow : OpenClaim := { program := "ytdmadigjdlbhiaa", sum := "455114b76774d0f0837c1bad8b64fb85fdce52571fbb399acb06e8a6a3081fc3", func := "loop.example/g01084/laws.FnExactProofBits", spec := "fnExactProofBits", unfollowed := true, recurses := true, apart := false }
def FnExactProofBitsSaid : Prop := fnExactProofBitsRow.holds Try.pinned (OpenSpec.ofChange fnExactProofBitsSpec)

/-- ITS FALSE NEIGHBOUR: 'it returns false'. Refute it at one input. -/
def fnExactProofBitsWrong : ChangeSpec := { name := "fnExactProofBits", fn := fun _ => fun
  | [d] => { results := [.lit (.bool false)], args := [d] }
  | _ => none }
def FnExactProofBitsWrongFalsely : Prop := fnExactProofBitsRow.holds Try.pinned (OpenSpec.ofChange fnExactProofBitsWrong)

/-- 'laws.FnExactPartsOfLabel': WHATEVER THE INPUT: true; the input reads as it did. -/
def fnExactPartsOfLabelSpec : ChangeSpec := { name := "fnExactPartsOfLabel", fn := fun _ => fun
  | [d1, d2] => { results := [.lit (.bool true)], args := [d1, d2] }
  | _ => none }
def fnExactPartsOfLabelRow : OpenClaim := { program := "ytdmadigjdlbhiaa", sum := "455114b76774d0f0837c1bad8b64fb85fdce52571fbb399acb06e8a6a3081fc3", func := "loop.example/g01084/laws.FnExactPartsOfLabel", spec := "fnExactPartsOfLabel", unfollowed := true, recurses := true, apart := false }
def FnExactPartsOfLabelSaid : Prop := fnExactPartsOfLabelRow.holds Try.pinned (OpenSpec.ofChange fnExactPartsOfLabelSpec)

/-- ITS FALSE NEIGHBOUR: 'it returns false'. Refute it at one input. -/
def fnExactPartsOfLabelWrong : ChangeSpec := { name := "fnExactPartsOfLabel", fn := fun _ => fun
  | [d1, d2] => { results := [.lit (.bool false)], args := [d1, d2] }
  | _ => none }
def FnExactPartsOfLabelWrongFalsely : Prop := fnExactPartsOfLabelRow.holds Try.pinned (OpenSpec.ofChange fnExactPartsOfLabelWrong)

/-- 'laws.FnExactForgedCycle': WHATEVER THE INPUT: true; the input reads as it did. -/
def fnExactForgedCycleSpec : ChangeSpec := { name := "fnExactForgedCycle", fn := fun _ => fun
  | [d] => { results := [.lit (.bool true)], args := [d] }
  | _ => none }
def fnExactForgedCycleRow : OpenClaim := { program := "ytdmadigjdlbhiaa", sum := "455114b76774d0f0837c1bad8b64fb85fdce52571fbb399acb06e8a6a3081fc3", func := "loop.example/g01084/laws.FnExactForgedCycle", spec := "fnExactForgedCycle", unfollowed := true, recurses := true, apart := false }
def FnExactForgedCycleSaid : Prop := fnExactForgedCycleRow.holds Try.pinned (OpenSpec.ofChange fnExactForgedCycleSpec)

/-- ITS FALSE NEIGHBOUR: 'it returns false'. Refute it at one input. -/
def fnExactForgedCycleWrong : ChangeSpec := { name := "fnExactForgedCycle", fn := fun _ => fun
  | [d] => { results := [.lit (.bool false)], args := [d] }
  | _ => none }
def FnExactForgedCycleWrongFalsely : Prop := fnExactForgedCycleRow.holds Try.pinned (OpenSpec.ofChange fnExactForgedCycleWrong)

/- THE SECOND FORM. 'bulk': how many values and letters a reading holds, each counted each time it is reached (what is shared counts as often as it is met; a slice's spare places count too). A statement '..UptoSaid' is the law's where the arguments, and the package variables that the reading takes, are together of bulk at most 1048576: NARROWER than '..Said'. Prove '..Said' where nothing that the law and all that it calls make is longer than what came in: it says more and counts as full. Else prove '..UptoSaid'. A law counts once. -/
mutual
def uptoBulk {H : Type} : DataW H → Nat
  | .lit (.string bytes) => bytes.length + 1
  | .lit _ => 1
  | .nil => 1
  | .ptr d => uptoBulk d + 1
  | .slice elems spare => uptoBulkAll elems + uptoBulkAll spare + 1
  | .agg parts => uptoBulkAll parts + 1
  | .iface _ d => uptoBulk d + 1
  | .map entries => uptoBulkEntries entries + 1
  | .held _ => 1
def uptoBulkAll {H : Type} : List (DataW H) → Nat
  | [] => 0
  | d :: r => uptoBulk d + uptoBulkAll r
def uptoBulkEntries {H : Type} : List (Lit × DataW H) → Nat
  | [] => 0
  | x :: r => uptoBulkEntry x + uptoBulkEntries r
def uptoBulkEntry {H : Type} : Lit × DataW H → Nat
  | (.string bytes, d) => bytes.length + uptoBulk d + 1
  | (_, d) => uptoBulk d + 1
 end
def uptoSmall : (H : Type) → List (DataW H) → Bool := fun _ ds => decide (uptoBulkAll ds ≤ 1048576)
def OpenSpec.upto (s : _root_.Go.ChangeSpec) : _root_.Go.OpenSpec := { _root_.Go.OpenSpec.ofChange s with cond := some uptoSmall }

/-- 'laws.FnExactSchemeName', WHERE WHAT IT READS IS OF BULK AT MOST 1048576: true; the input reads as it did. -/
def fnExactSchemeNameUptoRow : OpenClaim := { program := "ytdmadigjdlbhiaa", sum := "455114b76774d0f0837c1bad8b64fb85fdce52571fbb399acb06e8a6a3081fc3", func := "loop.example/g01084/laws.FnExactSchemeName", spec := "fnExactSchemeName", apart := false, narrowed := true }
def FnExactSchemeNameUptoSaid : Prop := fnExactSchemeNameUptoRow.holds Try.pinned (OpenSpec.upto fnExactSchemeNameSpec)

/-- 'laws.FnExactStableName', WHERE WHAT IT READS IS OF BULK AT MOST 1048576: true; the input reads as it did. -/
def fnExactStableNameUptoRow : OpenClaim := { program := "ytdmadigjdlbhiaa", sum := "455114b76774d0f0837c1bad8b64fb85fdce52571fbb399acb06e8a6a3081fc3", func := "loop.example/g01084/laws.FnExactStableName", spec := "fnExactStableName", apart := false, narrowed := true }
def FnExactStableNameUptoSaid : Prop := fnExactStableNameUptoRow.holds Try.pinned (OpenSpec.upto fnExactStableNameSpec)

/-- 'laws.FnExactLabelFromParts', WHERE WHAT IT READS IS OF BULK AT MOST 1048576: true; the input reads as it did. -/
def fnExactLabelFromPartsUptoRow : OpenClaim := { program := "ytdmadigjdlbhiaa", sum := "455114b76774d0f0837c1bad8b64fb85fdce52571fbb399acb06e8a6a3081fc3", func := "loop.example/g01084/laws.FnExactLabelFromParts", spec := "fnExactLabelFromParts", apart := false, narrowed := true }
def FnExactLabelFromPartsUptoSaid : Prop := fnExactLabelFromPartsUptoRow.holds Try.pinned (OpenSpec.upto fnExactLabelFromPartsSpec)

/-- 'laws.FnExactProofBits', WHERE WHAT IT READS IS OF BULK AT MOST 1048576: true; the input reads as it did. -/
def fnExactProofBitsUptoRow : OpenClaim := { program := "ytdmadigjdlbhiaa", sum := "455114b76774d0f0837c1bad8b64fb85fdce52571fbb399acb06e8a6a3081fc3", func := "loop.example/g01084/laws.FnExactProofBits", spec := "fnExactProofBits", unfollowed := true, recurses := true, apart := false, narrowed := true }
def FnExactProofBitsUptoSaid : Prop := fnExactProofBitsUptoRow.holds Try.pinned (OpenSpec.upto fnExactProofBitsSpec)

/-- 'laws.FnExactPartsOfLabel', WHERE WHAT IT READS IS OF BULK AT MOST 1048576: true; the input reads as it did. -/
def fnExactPartsOfLabelUptoRow : OpenClaim := { program := "ytdmadigjdlbhiaa", sum := "455114b76774d0f0837c1bad8b64fb85fdce52571fbb399acb06e8a6a3081fc3", func := "loop.example/g01084/laws.FnExactPartsOfLabel", spec := "fnExactPartsOfLabel", unfollowed := true, recurses := true, apart := false, narrowed := true }
def FnExactPartsOfLabelUptoSaid : Prop := fnExactPartsOfLabelUptoRow.holds Try.pinned (OpenSpec.upto fnExactPartsOfLabelSpec)

/-- 'laws.FnExactForgedCycle', WHERE WHAT IT READS IS OF BULK AT MOST 1048576: true; the input reads as it did. -/
def fnExactForgedCycleUptoRow : OpenClaim := { program := "ytdmadigjdlbhiaa", sum := "455114b76774d0f0837c1bad8b64fb85fdce52571fbb399acb06e8a6a3081fc3", func := "loop.example/g01084/laws.FnExactForgedCycle", spec := "fnExactForgedCycle", unfollowed := true, recurses := true, apart := false, narrowed := true }
def FnExactForgedCycleUptoSaid : Prop := fnExactForgedCycleUptoRow.holds Try.pinned (OpenSpec.upto fnExactForgedCycleSpec)

end Rows
end Go.Proofs.Ytdmadigjdlbhiaa
