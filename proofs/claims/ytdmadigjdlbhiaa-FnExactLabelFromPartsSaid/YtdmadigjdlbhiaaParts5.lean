import Derived.Test.YtdmadigjdlbhiaaParts4
namespace Go.Proofs.Ytdmadigjdlbhiaa
open Go.RowKit
/-- LabelFromParts, as both texts have it -/
def lfp (s : Int) (ps : List Int) : Int × Bool :=
  if inB 1 5 s = false then (0, false) else
  if s = 5 then (match ps with | [a, b, c, d] => lfp5 a b c d | _ => (0, false)) else
  if s = 4 then (match ps with | [a, b] => lfp4 a b | _ => (0, false)) else
  (match ps with | [a] => lfp1 a | _ => (0, false))
theorem lfp_len (s : Int) (ps : List Int) (h : ps.length ≠ (rangesL s).length + 1) : lfp s ps = (0, false) := by
  unfold lfp rangesL at *
  split
  · rfl
  · split
    · rename_i h5
      subst h5
      simp at h
      split
      · simp at h
      · rfl
    · split
      · rename_i h4
        subst h4
        simp at h
        split
        · simp at h
        · rfl
      · rename_i h5 h4
        simp [h4, h5] at h
        split
        · simp at h
        · rfl
theorem list4 {ps : List Int} (h : ps.length = 4) : ∃ a b c d, ps = [a, b, c, d] := by
  match ps, h with
  | [a, b, c, d], _ => exact ⟨a, b, c, d, rfl⟩
theorem list2 {ps : List Int} (h : ps.length = 2) : ∃ a b, ps = [a, b] := by
  match ps, h with
  | [a, b], _ => exact ⟨a, b, rfl⟩
theorem list1 {ps : List Int} (h : ps.length = 1) : ∃ a, ps = [a] := by
  match ps, h with
  | [a], _ => exact ⟨a, rfl⟩
set_option maxHeartbeats 1000000 in
theorem specLabel (v : Value) (s : Int) (ps : List Int) (w : World) (h : IntS w v ps) :
    Calls Try.prog 13 #[.int .i64 s, v] w fun e w' => e = .returned (.tuple #[.int .i64 (lfp s ps).1, .bool (lfp s ps).2]) ∧ Below w.heap.size w w' := by
  cases hs : inB 1 5 s
  · have hr : lfp s ps = (0, false) := by simp [lfp, hs]
    rw [hr]
    clear hr
    go_enter Try.func13, Try.ntmps13
    go_wp2_with (go_at_call 28; refine (plScheme_b _ _).mono ?_; rintro e w' ⟨rfl, rfl⟩)
    go_ret2
    exact ⟨rfl, Below.refl _ _⟩
  · by_cases hl : ps.length = (rangesL s).length + 1
    · by_cases h5 : s = 5
      · subst h5
        obtain ⟨a, b, c, d, rfl⟩ := list4 hl
        exact specLabel5 v a b c d w h
      · by_cases h4 : s = 4
        · subst h4
          obtain ⟨a, b, rfl⟩ := list2 hl
          exact specLabel4 v a b w h
        · obtain ⟨a, rfl⟩ := list1 (ps := ps) (by simpa [rangesL, h4, h5] using hl)
          have hr : lfp s [a] = lfp1 a := by simp [lfp, hs, h4, h5]
          rw [hr]
          exact specLabel1 v a s h4 h5 hs w h
    · rw [lfp_len s ps hl]
      obtain ⟨A, c, rfl, hlc, hm, hA⟩ := h
      have hne : ((ps.length : Int) != (((rangesL s).length + 1 : Nat) : Int)) = true := by rw [bne_iff_ne]; omega
      have hsm : (rangesL s).length ≤ 3 := by unfold rangesL; (split; · decide); split <;> decide
      clear hl hA
      rw [Int.natCast_add, Int.natCast_one] at hne
      unfold maxLen at hm
      go_enter Try.func13, Try.ntmps13
      go_wp2_with (go_at_call 28; refine (plScheme_b _ _).mono ?_; rintro e w' ⟨rfl, rfl⟩)
      refine (plRanges_any _ _).mono ?_
      rintro e w1 ⟨u, rfl, ho, hb1⟩
      obtain ⟨A', c', rfl, _, _⟩ := ho.ints
      have Hb := Lib.hid hb1
      clear ho hb1
      go_wp2
      go_ret2
      exact ⟨rfl, Hb.out⟩
set_option maxHeartbeats 1000000 in
theorem implLabel (v : Value) (s : Int) (ps : List Int) (w : World) (h : IntS w v ps) :
    Calls Try.prog 15 #[.int .i64 s, v] w fun e w' => e = .returned (.tuple #[.int .i64 (lfp s ps).1, .bool (lfp s ps).2]) ∧ Below w.heap.size w w' := by
  cases hs : inB 1 5 s
  · have hr : lfp s ps = (0, false) := by simp [lfp, hs]
    rw [hr]
    clear hr
    go_enter Try.func15, Try.ntmps15
    go_wp2_with (go_at_call 29; refine (isScheme_b _ _).mono ?_; rintro e w' ⟨rfl, rfl⟩)
    go_ret2
    exact ⟨rfl, Below.refl _ _⟩
  · by_cases hl : ps.length = (rangesL s).length + 1
    · by_cases h5 : s = 5
      · subst h5
        obtain ⟨a, b, c, d, rfl⟩ := list4 hl
        exact implLabel5 v a b c d w h
      · by_cases h4 : s = 4
        · subst h4
          obtain ⟨a, b, rfl⟩ := list2 hl
          exact implLabel4 v a b w h
        · obtain ⟨a, rfl⟩ := list1 (ps := ps) (by simpa [rangesL, h4, h5] using hl)
          have hr : lfp s [a] = lfp1 a := by simp [lfp, hs, h4, h5]
          rw [hr]
          exact implLabel1 v a s h4 h5 hs w h
    · rw [lfp_len s ps hl]
      obtain ⟨A, c, rfl, hlc, hm, hA⟩ := h
      have hne : ((ps.length : Int) != (((rangesL s).length + 1 : Nat) : Int)) = true := by rw [bne_iff_ne]; omega
      have hsm : (rangesL s).length ≤ 3 := by unfold rangesL; (split; · decide); split <;> decide
      clear hl hA
      rw [Int.natCast_add, Int.natCast_one] at hne
      unfold maxLen at hm
      go_enter Try.func15, Try.ntmps15
      go_wp2_with (go_at_call 29; refine (isScheme_b _ _).mono ?_; rintro e w' ⟨rfl, rfl⟩)
      refine (rangesOf_any _ _).mono ?_
      rintro e w1 ⟨u, rfl, ho, hb1⟩
      obtain ⟨A', c', rfl, _, _⟩ := ho.ints
      have Hb := Lib.hid hb1
      clear ho hb1
      go_wp2
      go_ret2
      exact ⟨rfl, Hb.out⟩
end Go.Proofs.Ytdmadigjdlbhiaa
