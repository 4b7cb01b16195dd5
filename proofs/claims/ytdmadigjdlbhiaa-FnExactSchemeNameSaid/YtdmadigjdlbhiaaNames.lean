import Derived.Test.YtdmadigjdlbhiaaNums
namespace Go.Proofs.Ytdmadigjdlbhiaa
open Go.ChangeShapes Go.WideShapes Go.ChangeAt Go.RowKit
theorem sn_out (n : Int) (h : ¬ (1 ≤ n ∧ n ≤ 5)) (w : World) :
    Calls Try.prog 3 #[.int .i64 n] w fun e w' => e = .returned (.bool true) ∧ Grown w w' := by
  have h' : (decide (1 ≤ n) && decide (n ≤ 5)) = false := by simp; omega
  have i1 : ∀ w, Calls Try.prog 29 #[.int .i64 n] w fun e w' => e = .returned (.bool false) ∧ w = w' := fun w => by have := isScheme_any n w; rwa [h'] at this
  have i2 : ∀ w, Calls Try.prog 28 #[.int .i64 n] w fun e w' => e = .returned (.bool false) ∧ w = w' := fun w => by have := plScheme_any n w; rwa [h'] at this
  have I1 := Lib.hid i1
  have I2 := Lib.hid i2
  clear i1 i2 h h'
  go_enter Try.func3, Try.ntmps3
  go_wp2_with (first | (go_at_call 29; refine (I1.out _).mono ?_; rintro e w' ⟨rfl, rfl⟩) | (go_at_call 28; refine (I2.out _).mono ?_; rintro e w' ⟨rfl, rfl⟩) | go_in)
  go_ret
  exact ⟨rfl, by repeat (first | exact Grown.refl _ | apply Grown.drew | apply Grown.alloc)⟩
theorem sn_in (n : Int) (h : 1 ≤ n ∧ n ≤ 5) (w : World) :
    Calls Try.prog 3 #[.int .i64 n] w fun e w' => e = .returned (.bool true) ∧ Grown w w' := by
  have hn : n = 1 ∨ n = 2 ∨ n = 3 ∨ n = 4 ∨ n = 5 := by omega
  clear h
  rcases hn with rfl | rfl | rfl | rfl | rfl
  all_goals
    go_enter Try.func3, Try.ntmps3
    go_wp2_with (first | (go_at_call 29; refine (isScheme_any _ _).mono ?_; rintro e w' ⟨rfl, rfl⟩) | (go_at_call 28; refine (plScheme_any _ _).mono ?_; rintro e w' ⟨rfl, rfl⟩) | go_in)
    go_ret
    exact ⟨rfl, by repeat (first | exact Grown.refl _ | apply Grown.drew | apply Grown.alloc)⟩
theorem fnExactSchemeName_walk (n : Int) (_ : (Lit.int .i64 n).wf = true) (w : World) :
    Calls Try.prog 3 #[.int .i64 n] w fun e w' => e = .returned (.bool true) ∧ Grown w w' := by
  by_cases h : 1 ≤ n ∧ n ≤ 5
  · exact sn_in n h w
  · exact sn_out n h w
end Go.Proofs.Ytdmadigjdlbhiaa
