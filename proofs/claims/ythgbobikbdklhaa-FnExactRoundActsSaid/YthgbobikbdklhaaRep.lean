import Derived.Test.YthgbobikbdklhaaNear
import Derived.Test.YthgbobikbdklhaaChain
import Derived.Laws.CopyOwn
import Derived.Shelf.Bits.Mul64
namespace Go.Proofs.Ythgbobikbdklhaa
open Go.RowKit
def repRow (x : Int) (N j : Nat) : List Value := List.replicate j (.int .i64 x) ++ List.replicate (N - j) (.int .i64 0)
theorem repRow_len {x : Int} {N j : Nat} (h : j ≤ N) : (repRow x N j).length = N := by simp [repRow]; omega
theorem repRow_splice {x : Int} {N j m : Nat} (h : j + m ≤ N) : splice (repRow x N j) j (List.replicate m (.int .i64 x)) = repRow x N (j + m) := by
  unfold splice repRow
  rw [List.take_append_of_le_length (by simp), List.take_replicate, Nat.min_self, List.length_replicate, List.drop_append, List.drop_replicate, List.length_replicate, List.drop_replicate, show j - (j + m) = 0 by omega, show N - j - (j + m - j) = N - (j + m) by omega, List.replicate_zero, List.nil_append, ← List.append_assoc, List.replicate_append_replicate]
theorem own_rep {w : World} {base g N : Nat} {x : Int} (h : w.heap[g]? = some (.cells (repRow x N N).toArray 3 (0, 0))) (hb : base ≤ g) (hN : N ≤ 1000000) : Own w base (.slice (some ⟨g, 0, none⟩) N N) (List.replicate N x) := by
  unfold Own
  refine ⟨by simp, .inr ⟨g, N, _, by simp, hb, h, by simp, by unfold maxLen; omega, by simp [repRow], ?_⟩⟩
  simp [repRow]
theorem repRow_cell {w : World} {g N j : Nat} {x : Int} (h : w.heap[g]? = some (.cells (repRow x N j).toArray 3 (0, 0))) {i : Nat} (hi : i < j) : w.cell? ⟨g, i, none⟩ = some (.int .i64 x) := by
  have : (repRow x N j)[i]? = some (.int .i64 x) := by
    unfold repRow
    rw [List.getElem?_append_left (by simpa using hi)]
    simp [hi]
  simp [World.cell?, h, this]
theorem rep_src {w : World} {b : Nat} {x : Int} (h : w.cell? ⟨b, 0, none⟩ = some (.int .i64 x)) {j : Nat} {v : Value} (hj : (List.replicate 1 (Value.int .i64 x))[j]? = some v) : w.cell? ((⟨b, 0, none⟩ : Addr).add j) = some v := by
  have h1 := lt_of_get hj
  simp at h1
  subst h1
  simp at hj
  subst hj
  rw [Go.Addr.add_lit]
  exact h
theorem rep_src2 {w : World} {g N j m : Nat} {x : Int} (h : w.heap[g]? = some (.cells (repRow x N j).toArray 3 (0, 0))) (hm : m ≤ j) {i : Nat} {v : Value} (hi : (List.replicate m (Value.int .i64 x))[i]? = some v) : w.cell? ((⟨g, 0, none⟩ : Addr).add i) = some v := by
  have h1 := lt_of_get hi
  rw [List.length_replicate] at h1
  rw [List.getElem?_replicate, if_pos h1] at hi
  rw [← Option.some.inj hi, Go.Addr.add_lit, Nat.zero_add]
  exact repRow_cell h (by omega)
end Go.Proofs.Ythgbobikbdklhaa
