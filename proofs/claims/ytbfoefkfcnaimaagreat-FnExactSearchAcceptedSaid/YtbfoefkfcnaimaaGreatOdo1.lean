import Derived.Test.YtbfoefkfcnaimaaGreatVer9
import Derived.Test.YtbfoefkfcnaimaaGreatDel
import Derived.Test.YtbfoefkfcnaimaaGreatOdoPlain
import Derived.Test.YtbfoefkfcnaimaaGreatChain
namespace Go.Proofs.YtbfoefkfcnaimaaGreat
open Go.RowKit
theorem Only.since {S : List Nat} {w0 W W' : World} (h : Since w0 W) (ho : Only S W W') (hs : ∀ k ∈ S, w0.heap.size ≤ k) : Since w0 W' := Below.trans h (ho.below _ h.below.size hs)
theorem own_only {base : Nat} {u : Value} {xs : List Int} {W W' : World} {S : List Nat} (h : Own W base u xs) (ho : Only S W W') (hd : ∀ k ∈ S, u.ownBlock ≠ some k) : Own W' base u xs :=
  ownsRow_stable h fun j hj => ho.block j (World.ownsRow.lt h j (by simpa using hj)).2 fun hs => hd j hs (by simpa using hj)
theorem mul_bd {c m : Int} (hc : 1 ≤ c ∧ c ≤ 20000) (h0 : 0 ≤ m) (h1 : m < 20000) : 0 ≤ c * (m + 1) ∧ c * (m + 1) ≤ 400000000 := by
  have h2 : c * (m + 1) ≤ 20000 * 20000 := Int.mul_le_mul (by omega) (by omega) (by omega) (by omega)
  have h3 : 0 ≤ c * (m + 1) := Int.mul_nonneg (by omega) (by omega)
  omega
/-- f called with the list of number k, in a world of J: one number further -/
def Counts (w0 : World) (fid : FuncId) (caps : Array Value) (B n : Nat) (c : Nat) (J : Nat → Nat → World → Prop) : Prop :=
  ∀ g k W vl, k < c → w0.heap.size ≤ g → J g k W → Own W w0.heap.size vl (listB B n k) → vl.ownBlock = some g → Calls Tryz.prog fid (#[vl] ++ caps) W fun e W' => ∃ u, e = .returned u ∧ J g (k + 1) W' ∧ (∃ S, Only S W W' ∧ ∀ j ∈ S, j < w0.heap.size)
end Go.Proofs.YtbfoefkfcnaimaaGreat
