import Derived.Test.YtaplbmgnfdikdaaNetKit
import Derived.Test.YtaplbmgnfdikdaaOpenNet
namespace Go.Proofs.Ytaplbmgnfdikdaa
open Go.RowKit
set_option maxHeartbeats 1000000 in
theorem toEnd_any (a b : Int) (w : World) : Calls Try.prog 137 #[.agg #[.int .i64 a, .int .i64 b]] w fun e w' => e = .returned (.agg #[.int .i64 a, .int .i64 b]) ∧ Below w.heap.size w w' := by
  go_enter Try.func137, Try.ntmps137
  go_wp2
  refine bodyPost_ret (v := .agg #[.int .i64 a, .int .i64 b]) (by simp [results, Try.results137, go_sem]) rfl ?_
  exact ⟨rfl, below3 _ _ _ _⟩
/-- what is left of a size -/
def left (l : Int) (n : Nat) : Int := if l - n < 0 then -1 else l - n
set_option maxHeartbeats 1000000 in
theorem szEndS_any (v : Value) (es : List (Int × Int)) (l : Int) (hl : 0 ≤ l) (hl2 : l ≤ 1048576) (w : World) (h : EndS w v es) : Calls Try.prog 105 #[v, .int .i64 l] w fun e w' => e = .returned (.int .i64 (left l es.length)) ∧ w = w' := by
  obtain ⟨A, c, rfl, hlc, hm, _⟩ := h
  unfold maxLen at hm
  by_cases h : l - es.length < 0
  · rw [show left l es.length = -1 by simp [left, h]]
    go_enter Try.func105, Try.ntmps105
    go_wp2
    go_ret
    exact ⟨rfl, rfl⟩
  · rw [show left l es.length = l - es.length by simp [left, h]]
    go_enter Try.func105, Try.ntmps105
    go_wp2
    go_ret
    exact ⟨rfl, rfl⟩
set_option maxHeartbeats 1000000 in
theorem szIntS_any (v : Value) (xs : List Int) (l : Int) (hl : 0 ≤ l) (hl2 : l ≤ 1048576) (w : World) (h : IntS w v xs) : Calls Try.prog 55 #[v, .int .i64 l] w fun e w' => e = .returned (.int .i64 (left l xs.length)) ∧ w = w' := by
  obtain ⟨A, c, rfl, hlc, hm, _⟩ := h
  unfold maxLen at hm
  by_cases h : l - xs.length < 0
  · rw [show left l xs.length = -1 by simp [left, h]]
    go_enter Try.func55, Try.ntmps55
    go_wp2
    go_ret
    exact ⟨rfl, rfl⟩
  · rw [show left l xs.length = l - xs.length by simp [left, h]]
    go_enter Try.func55, Try.ntmps55
    go_wp2
    go_ret
    exact ⟨rfl, rfl⟩
end Go.Proofs.Ytaplbmgnfdikdaa
