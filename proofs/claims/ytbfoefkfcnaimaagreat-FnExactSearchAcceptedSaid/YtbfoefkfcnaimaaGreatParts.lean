import Derived.Test.YtbfoefkfcnaimaaGreatW3
import Derived.LoopN
namespace Go.Proofs.YtbfoefkfcnaimaaGreat
open Go.RowKit
theorem isProofLabel_b (n : Int) (w : World) : Calls Tryz.prog 23 #[.int .i64 n] w fun e w' => e = .returned (.bool (inB 0 999999999999 n)) ∧ w = w' := by
  go_enter Tryz.func23, Tryz.ntmps23
  go_wp2_with (go_at_call 24; refine (within_b _ _ _ _).mono ?_; rintro e w' ⟨rfl, rfl⟩)
  go_ret
  exact ⟨rfl, rfl⟩
theorem plLabel_b (n : Int) (w : World) : Calls Tryz.prog 32 #[.int .i64 n] w fun e w' => e = .returned (.bool (inB 0 999999999999 n)) ∧ w = w' := by
  go_enter Tryz.func32, Tryz.ntmps32
  go_wp2_with (go_at_call 16; refine (l1In_b _ _ _ _).mono ?_; rintro e w' ⟨rfl, rfl⟩)
  go_ret
  exact ⟨rfl, rfl⟩
/-- the ranges of a scheme -/
def rangesL (s : Int) : List Int := if s = 4 then [100] else if s = 5 then [100, 10, 2] else []
theorem plRanges_any (s : Int) (w : World) :
    Calls Tryz.prog 106 #[.int .i64 s] w fun e w' => ∃ u, e = .returned u ∧ Own w' w.heap.size u (rangesL s) ∧ Below w.heap.size w w' := by
  unfold rangesL
  by_cases h4 : s = 4
  · subst h4
    go_enter Tryz.func106, Tryz.ntmps106
    go_wp2
    go_ret
    exact ⟨_, rfl, own_lit w [100] (by simp [maxLen]), below_alloc _ _⟩
  · by_cases h5 : s = 5
    · subst h5
      go_enter Tryz.func106, Tryz.ntmps106
      go_wp2
      go_ret
      exact ⟨_, rfl, own_lit w [100, 10, 2] (by simp [maxLen]), below_alloc _ _⟩
    · have h4' : (s == 4) = false := by simpa using h4
      have h5' : (s == 5) = false := by simpa using h5
      rw [if_neg h4, if_neg h5]
      clear h4 h5
      go_enter Tryz.func106, Tryz.ntmps106
      go_wp2
      go_ret
      exact ⟨_, rfl, own_nil _ _, Below.refl _ _⟩
theorem rangesOf_any (s : Int) (w : World) :
    Calls Tryz.prog 94 #[.int .i64 s] w fun e w' => ∃ u, e = .returned u ∧ Own w' w.heap.size u (rangesL s) ∧ Below w.heap.size w w' := by
  unfold rangesL
  by_cases h4 : s = 4
  · subst h4
    go_enter Tryz.func94, Tryz.ntmps94
    go_wp2
    go_ret
    exact ⟨_, rfl, own_lit w [100] (by simp [maxLen]), below_alloc _ _⟩
  · by_cases h5 : s = 5
    · subst h5
      go_enter Tryz.func94, Tryz.ntmps94
      go_wp2
      go_ret
      exact ⟨_, rfl, own_lit w [100, 10, 2] (by simp [maxLen]), below_alloc _ _⟩
    · have h4' : (s == 4) = false := by simpa using h4
      have h5' : (s == 5) = false := by simpa using h5
      rw [if_neg h4, if_neg h5]
      clear h4 h5
      go_enter Tryz.func94, Tryz.ntmps94
      go_wp2
      go_ret
      exact ⟨_, rfl, own_nil _ _, Below.refl _ _⟩
end Go.Proofs.YtbfoefkfcnaimaaGreat
namespace Go.Proofs.YtbfoefkfcnaimaaGreat
open Go.RowKit
theorem Own.lit {w : World} {base : Nat} {v : Value} {x : Int} {xs : List Int} (h : Own w base v (x :: xs)) : ∃ g c, v = .slice (some ⟨g, 0, none⟩) (xs.length + 1) c ∧ base ≤ g ∧ g < w.heap.size ∧ xs.length + 1 ≤ c ∧ ∀ k y, (x :: xs)[k]? = some y → w.cell? ⟨g, k, none⟩ = some (.int .i64 y) := by
  rcases h.2 with ⟨rfl, h0⟩ | ⟨g, cap, cur, rfl, hb, hg, hnc, hm, hcs, htake⟩
  · simp at h0
  · exact ⟨g, cap, rfl, hb, (Array.getElem?_eq_some_iff.1 hg).1, hnc, fun k y hy => Own.cell h hy⟩
theorem Own.lit0 {w : World} {base : Nat} {v : Value} (h : Own w base v []) : ∃ A c, v = .slice A 0 c := by
  rcases h.2 with ⟨rfl, h0⟩ | ⟨g, cap, cur, rfl, _⟩
  · exact ⟨_, _, rfl⟩
  · exact ⟨_, _, rfl⟩
theorem IntS.lit {w : World} {v : Value} {x : Int} {xs : List Int} (h : IntS w v (x :: xs)) : ∃ b off c, v = .slice (some ⟨b, off, none⟩) (xs.length + 1) c ∧ b < w.heap.size ∧ ∀ k y, (x :: xs)[k]? = some y → w.cell? ⟨b, off + k, none⟩ = some (.int .i64 y) := by
  obtain ⟨A, c, rfl, hlc, hm, hA⟩ := h
  obtain ⟨b, off, rfl, h0⟩ := hA 0 x rfl
  refine ⟨b, off, c, rfl, World.block_lt_of_cell? w _ h0, fun k y hy => ?_⟩
  obtain ⟨b', off', he, hc⟩ := hA k y hy
  injection he with he
  injection he with h1 h2
  subst h1 h2
  exact hc
end Go.Proofs.YtbfoefkfcnaimaaGreat
