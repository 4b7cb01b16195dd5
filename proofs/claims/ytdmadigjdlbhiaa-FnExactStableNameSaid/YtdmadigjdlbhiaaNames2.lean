import Derived.Test.YtdmadigjdlbhiaaNums
namespace Go.Proofs.Ytdmadigjdlbhiaa
open Go.ChangeShapes Go.WideShapes Go.ChangeAt Go.RowKit
theorem st_out (n : Int) (h : ¬ (1 ≤ n ∧ n ≤ 5)) (w : World) :
    Calls Try.prog 4 #[.int .i64 n] w fun e w' => e = .returned (.bool true) ∧ Grown w w' := by
  have h' : (decide (1 ≤ n) && decide (n ≤ 5)) = false := by simp; omega
  have i1 : ∀ w, Calls Try.prog 31 #[.int .i64 n] w fun e w' => e = .returned (.bool false) ∧ w = w' := fun w => by have := isRule_any n w; rwa [h'] at this
  have i2 : ∀ w, Calls Try.prog 30 #[.int .i64 n] w fun e w' => e = .returned (.bool false) ∧ w = w' := fun w => by have := ssRule_any n w; rwa [h'] at this
  have I1 := Lib.hid i1
  have I2 := Lib.hid i2
  clear i1 i2 h h'
  go_enter Try.func4, Try.ntmps4
  go_wp2_with (first | (go_at_call 31; refine (I1.out _).mono ?_; rintro e w' ⟨rfl, rfl⟩) | (go_at_call 30; refine (I2.out _).mono ?_; rintro e w' ⟨rfl, rfl⟩) | go_in)
  go_ret
  exact ⟨rfl, by repeat (first | exact Grown.refl _ | apply Grown.drew | apply Grown.alloc)⟩
theorem st_in (n : Int) (h : 1 ≤ n ∧ n ≤ 5) (w : World) :
    Calls Try.prog 4 #[.int .i64 n] w fun e w' => e = .returned (.bool true) ∧ Grown w w' := by
  have hn : n = 1 ∨ n = 2 ∨ n = 3 ∨ n = 4 ∨ n = 5 := by omega
  clear h
  rcases hn with rfl | rfl | rfl | rfl | rfl
  all_goals
    go_enter Try.func4, Try.ntmps4
    go_wp2_with (first | (go_at_call 31; refine (isRule_any _ _).mono ?_; rintro e w' ⟨rfl, rfl⟩) | (go_at_call 30; refine (ssRule_any _ _).mono ?_; rintro e w' ⟨rfl, rfl⟩) | go_in)
    go_ret
    exact ⟨rfl, by repeat (first | exact Grown.refl _ | apply Grown.drew | apply Grown.alloc)⟩
theorem fnExactStableName_walk (n : Int) (_ : (Lit.int .i64 n).wf = true) (w : World) :
    Calls Try.prog 4 #[.int .i64 n] w fun e w' => e = .returned (.bool true) ∧ Grown w w' := by
  by_cases h : 1 ≤ n ∧ n ≤ 5
  · exact st_in n h w
  · exact st_out n h w
end Go.Proofs.Ytdmadigjdlbhiaa
