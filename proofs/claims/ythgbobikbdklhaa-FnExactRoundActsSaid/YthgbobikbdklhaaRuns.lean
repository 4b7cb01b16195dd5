import Derived.Test.YthgbobikbdklhaaEdges3
import Derived.Test.YthgbobikbdklhaaBfs2
import Derived.Test.YthgbobikbdklhaaVer6
import Derived.Test.YthgbobikbdklhaaLawKit
namespace Go.Proofs.Ythgbobikbdklhaa
open Go.RowKit
def connB (n : Net) : Bool := !(distB n 0).contains (-1)
def onesB (xs : List Int) : Nat := xs.countP fun x => x == 1
theorem onesB_le (xs : List Int) : onesB xs ≤ xs.length := List.countP_le_length
theorem onesB_snoc {xs : List Int} {k : Nat} {x : Int} (h : xs[k]? = some x) : onesB (xs.take (k + 1)) = onesB (xs.take k) + if x = 1 then 1 else 0 := by
  unfold onesB
  rw [take_snoc h, List.countP_append]
  congr 1
  by_cases hx : x = 1 <;> simp [hx]
end Go.Proofs.Ythgbobikbdklhaa
namespace Go.Proofs.Ythgbobikbdklhaa
open Go.RowKit
def rowBad (es : List (Int × Int)) : Bool := ((es.length : Int) != 2) || ((es.getD 0 (0, 0)).2 != 1)
def PredR (w0 : World) (fid : FuncId) (caps : Array Value) (p : List (Int × Int) → Bool) (xs : List (List (Int × Int))) : Prop :=
  ∀ x ∈ xs, ∀ w u, Since w0 w → EndS w u x → Calls Try.prog fid (#[u] ++ caps) w fun e w' => e = .returned (.bool (p x)) ∧ Below w.heap.size w w'
def ridx (p : List (Int × Int) → Bool) (xs : List (List (Int × Int))) : Int := match xs.findIdx? p with | some i => (i : Int) | none => -1
section
variable {α : Type} {p : α → Bool} {xs : List α}
theorem fi_none (h : xs.any p = false) : xs.findIdx? p = none := by
  rw [List.findIdx?_eq_none_iff]
  intro x hx
  rw [List.any_eq_false] at h
  simpa using h x hx
theorem fi_found {k : Nat} {x : α} (hx : xs[k]? = some x) (hp : p x = true) (h : (xs.take k).any p = false) : xs.findIdx? p = some k := by
  obtain ⟨hk, rfl⟩ := List.getElem?_eq_some_iff.1 hx
  rw [List.findIdx?_eq_some_iff_getElem]
  refine ⟨hk, hp, fun j hj => ?_⟩
  rw [List.any_eq_false] at h
  have := h xs[j] (List.mem_take_iff_getElem.2 ⟨j, by omega, rfl⟩)
  simpa using this
theorem any_snoc' {k : Nat} {x : α} (hx : xs[k]? = some x) (h : (xs.take k).any p = false) (hp : p x = false) : (xs.take (k + 1)).any p = false := by
  rw [take_snoc hx, List.any_append, h]
  simp [hp]
end
theorem ridx_any (p : List (Int × Int) → Bool) (xs : List (List (Int × Int))) : decide (0 ≤ ridx p xs) = xs.any p := by
  unfold ridx
  cases h : xs.any p with
  | false => rw [fi_none h]; rfl
  | true =>
    cases h2 : xs.findIdx? p with
    | none =>
      rw [List.findIdx?_eq_none_iff] at h2
      rw [List.any_eq_true] at h
      obtain ⟨x, hx, hp⟩ := h
      rw [h2 x hx] at hp; cases hp
    | some i => simp
end Go.Proofs.Ythgbobikbdklhaa
namespace Go.Proofs.Ythgbobikbdklhaa
open Go.RowKit
theorem netOk_inputs {n : Net} (h : netOk n = true) : n.inputs.length = n.ends.length := by
  unfold netOk at h
  simp only [Bool.and_eq_true] at h
  obtain ⟨⟨⟨-, -⟩, i2⟩, -⟩ := h
  unfold inputsB at i2
  simp only [Bool.and_eq_true, beq_iff_eq] at i2
  omega
def ringB (n : Net) : Bool := !n.ends.any rowBad && decide (1 < (n.ends.length : Int)) && ((onesB n.inputs : Int) == 1) && connB n
end Go.Proofs.Ythgbobikbdklhaa
namespace Go.Proofs.Ythgbobikbdklhaa
open Go.RowKit
def runsB (n : Net) (r : Int) : Bool := plainB n && ((r != 5) || ringB n)
def fnExactRuleRunsOn_r1 (n : Net) (r : Int) : Bool := netOk n && inB 1 5 r
def fnExactRuleRunsOn_r0 (n : Net) (r : Int) : Bool := fnExactRuleRunsOn_r1 n r && runsB n r
theorem tup2' {a b c d : Bool} (h1 : a = b) (h2 : c = d) : Ending.returned (.tuple #[.bool a, .bool c]) = .returned (.tuple #[.bool b, .bool d]) := by rw [h1, h2]
end Go.Proofs.Ythgbobikbdklhaa
