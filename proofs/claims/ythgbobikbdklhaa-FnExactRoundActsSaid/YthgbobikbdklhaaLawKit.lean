import Derived.Test.YthgbobikbdklhaaTo
import Derived.Test.YthgbobikbdklhaaEndEq
import Derived.Test.YthgbobikbdklhaaFlow
import Derived.Test.YthgbobikbdklhaaOpens
namespace Go.Proofs.Ythgbobikbdklhaa
open Go.RowKit
theorem left_ok {k : Nat} (h : k ≤ 1048576) : ∃ q : Int, left 1048576 k = q ∧ 0 ≤ q := ⟨_, rfl, by unfold left; split <;> omega⟩
theorem left_bad {k : Nat} (h : ¬ k ≤ 1048576) : left 1048576 k = -1 := by unfold left; rw [if_pos (by omega)]
theorem szNet_ids {n : Net} (h : szNet n ≤ 1048576) : n.ids.length ≤ 17592186044416 := by unfold szNet at h; omega
theorem eqIs_self (xs : List Int) : eqIs xs xs = true := by simp [eqIs]
theorem eqIntS_same (v u : Value) (xs : List Int) (w : World) (h : IntS w v xs) (h' : IntS w u xs) :
    Calls Try.prog 13 #[v, u] w fun e w' => e = .returned (.bool true) ∧ Below w.heap.size w w' := by
  have := eqIntS_b v u xs xs w h h'
  rwa [eqIs_self] at this
theorem cntEE_sz (ess : List (List (Int × Int))) : cntEE ess ≤ 2 * szRows ess := by
  induction ess with
  | nil => simp [cntEE]
  | cons a r ih => simp only [cntEE, szRows, List.map_cons, List.sum_cons] at *; omega
theorem cnt_sz {n : Net} (h : szNet n ≤ 1048576) : 1 + cntNet n ≤ 4194304 := by
  have := cntEE_sz n.ends
  unfold szNet szEE at h
  unfold cntNet
  omega
end Go.Proofs.Ythgbobikbdklhaa
