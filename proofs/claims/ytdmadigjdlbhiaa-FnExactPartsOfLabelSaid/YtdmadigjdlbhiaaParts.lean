import Derived.Test.YtdmadigjdlbhiaaW3
import Derived.LoopN
namespace Go.Proofs.Ytdmadigjdlbhiaa
open Go.RowKit
theorem isProofLabel_b (n : Int) (w : World) : Calls Try.prog 37 #[.int .i64 n] w fun e w' => e = .returned (.bool (inB 0 999999999999 n)) ∧ w = w' := by
  go_enter Try.func37, Try.ntmps37
  go_wp2_with (go_at_call 38; refine (within_b _ _ _ _).mono ?_; rintro e w' ⟨rfl, rfl⟩)
  go_ret
  exact ⟨rfl, rfl⟩
theorem plLabel_b (n : Int) (w : World) : Calls Try.prog 33 #[.int .i64 n] w fun e w' => e = .returned (.bool (inB 0 999999999999 n)) ∧ w = w' := by
  go_enter Try.func33, Try.ntmps33
  go_wp2_with (go_at_call 34; refine (l1In_b _ _ _ _).mono ?_; rintro e w' ⟨rfl, rfl⟩)
  go_ret
  exact ⟨rfl, rfl⟩
/-- the ranges of a scheme -/
def rangesL (s : Int) : List Int := if s = 4 then [100] else if s = 5 then [100, 10, 2] else []
theorem own_lit (w : World) (xs : List Int) (hm : xs.length ≤ maxLen) : Own (w.alloc (.cells (xs.map (Value.int .i64)).toArray 3)) w.heap.size (.slice (some ⟨w.heap.size, 0, none⟩) xs.length xs.length) xs := by
  have := World.ownsRow_lit (base := w.heap.size) (e := 3) (size := 1) w (xs.map (Value.int .i64)).toArray xs.length (Nat.le_refl _) hm (by simp)
  simpa [Own] using this
theorem below_alloc (w : World) (o : Obj) : Below w.heap.size w (w.alloc o) := (Below.refl _ _).alloc (Nat.le_refl _) o
theorem own_nil (w : World) (base : Nat) : Own w base (.slice none 0 0) [] := World.ownsRow_nil w base _ 1
theorem plRanges_any (s : Int) (w : World) :
    Calls Try.prog 32 #[.int .i64 s] w fun e w' => ∃ u, e = .returned u ∧ Own w' w.heap.size u (rangesL s) ∧ Below w.heap.size w w' := by
  unfold rangesL
  by_cases h4 : s = 4
  · subst h4
    go_enter Try.func32, Try.ntmps32
    go_wp2
    go_ret
    exact ⟨_, rfl, own_lit w [100] (by simp [maxLen]), below_alloc _ _⟩
  · by_cases h5 : s = 5
    · subst h5
      go_enter Try.func32, Try.ntmps32
      go_wp2
      go_ret
      exact ⟨_, rfl, own_lit w [100, 10, 2] (by simp [maxLen]), below_alloc _ _⟩
    · have h4' : (s == 4) = false := by simpa using h4
      have h5' : (s == 5) = false := by simpa using h5
      rw [if_neg h4, if_neg h5]
      clear h4 h5
      go_enter Try.func32, Try.ntmps32
      go_wp2
      go_ret
      exact ⟨_, rfl, own_nil _ _, Below.refl _ _⟩
theorem rangesOf_any (s : Int) (w : World) :
    Calls Try.prog 36 #[.int .i64 s] w fun e w' => ∃ u, e = .returned u ∧ Own w' w.heap.size u (rangesL s) ∧ Below w.heap.size w w' := by
  unfold rangesL
  by_cases h4 : s = 4
  · subst h4
    go_enter Try.func36, Try.ntmps36
    go_wp2
    go_ret
    exact ⟨_, rfl, own_lit w [100] (by simp [maxLen]), below_alloc _ _⟩
  · by_cases h5 : s = 5
    · subst h5
      go_enter Try.func36, Try.ntmps36
      go_wp2
      go_ret
      exact ⟨_, rfl, own_lit w [100, 10, 2] (by simp [maxLen]), below_alloc _ _⟩
    · have h4' : (s == 4) = false := by simpa using h4
      have h5' : (s == 5) = false := by simpa using h5
      rw [if_neg h4, if_neg h5]
      clear h4 h5
      go_enter Try.func36, Try.ntmps36
      go_wp2
      go_ret
      exact ⟨_, rfl, own_nil _ _, Below.refl _ _⟩
end Go.Proofs.Ytdmadigjdlbhiaa
