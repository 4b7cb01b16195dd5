import Derived.Test.YtaplbmgnfdikdaaW3
import Derived.LoopN
namespace Go.Proofs.Ytaplbmgnfdikdaa
open Go.RowKit
theorem plLabel_b (n : Int) (w : World) : Calls Try.prog 132 #[.int .i64 n] w fun e w' => e = .returned (.bool (inB 0 999999999999 n)) ∧ w = w' := by
  go_enter Try.func132, Try.ntmps132
  go_wp2_with (go_at_call 87; refine (l1In_b _ _ _ _).mono ?_; rintro e w' ⟨rfl, rfl⟩)
  go_ret
  exact ⟨rfl, rfl⟩
/-- the ranges of a scheme -/
def rangesL (s : Int) : List Int := if s = 4 then [100] else if s = 5 then [100, 10, 2] else []
theorem plRanges_any (s : Int) (w : World) :
    Calls Try.prog 155 #[.int .i64 s] w fun e w' => ∃ u, e = .returned u ∧ Own w' w.heap.size u (rangesL s) ∧ Below w.heap.size w w' := by
  unfold rangesL
  by_cases h4 : s = 4
  · subst h4
    go_enter Try.func155, Try.ntmps155
    go_wp2
    go_ret
    exact ⟨_, rfl, own_lit w [100] (by simp [maxLen]), below_alloc _ _⟩
  · by_cases h5 : s = 5
    · subst h5
      go_enter Try.func155, Try.ntmps155
      go_wp2
      go_ret
      exact ⟨_, rfl, own_lit w [100, 10, 2] (by simp [maxLen]), below_alloc _ _⟩
    · have h4' : (s == 4) = false := by simpa using h4
      have h5' : (s == 5) = false := by simpa using h5
      rw [if_neg h4, if_neg h5]
      clear h4 h5
      go_enter Try.func155, Try.ntmps155
      go_wp2
      go_ret
      exact ⟨_, rfl, own_nil _ _, Below.refl _ _⟩
theorem rangesOf_any (s : Int) (w : World) :
    Calls Try.prog 157 #[.int .i64 s] w fun e w' => ∃ u, e = .returned u ∧ Own w' w.heap.size u (rangesL s) ∧ Below w.heap.size w w' := by
  unfold rangesL
  by_cases h4 : s = 4
  · subst h4
    go_enter Try.func157, Try.ntmps157
    go_wp2
    go_ret
    exact ⟨_, rfl, own_lit w [100] (by simp [maxLen]), below_alloc _ _⟩
  · by_cases h5 : s = 5
    · subst h5
      go_enter Try.func157, Try.ntmps157
      go_wp2
      go_ret
      exact ⟨_, rfl, own_lit w [100, 10, 2] (by simp [maxLen]), below_alloc _ _⟩
    · have h4' : (s == 4) = false := by simpa using h4
      have h5' : (s == 5) = false := by simpa using h5
      rw [if_neg h4, if_neg h5]
      clear h4 h5
      go_enter Try.func157, Try.ntmps157
      go_wp2
      go_ret
      exact ⟨_, rfl, own_nil _ _, Below.refl _ _⟩
end Go.Proofs.Ytaplbmgnfdikdaa
