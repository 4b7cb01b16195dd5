import Derived.Test.YtaplbmgnfdikdaaSz
namespace Go.Proofs.Ytaplbmgnfdikdaa
open Go.RowKit
def szNet (n : Net) : Nat := szEE n.ends + n.ids.length + n.inputs.length
set_option maxHeartbeats 2000000 in
theorem szNetwork_any (ve vi vn : Value) (n : Net) (l : Int) (hl : 0 ≤ l) (hl2 : l ≤ 1048576) (w : World) (h : NetIn w ve vi vn n) : Calls Try.prog 15 #[.agg #[ve, vi, vn], .int .i64 l] w fun e w' => e = .returned (.int .i64 (left l (szNet n))) ∧ Below w.heap.size w w' := by
  have hb0 : Below w.heap.size w (w.alloc (.cells #[ve, vi, vn] 25)) := below_alloc _ _
  obtain ⟨h1, h2, h3⟩ := h.keep hb0
  have H1 := Lib.hid h1
  have H2 := Lib.hid h2
  have H3 := Lib.hid h3
  have Hb0 := Lib.hid hb0
  obtain ⟨A1, z1, rfl, _⟩ := h1
  obtain ⟨A2, z2, rfl, _⟩ := h2
  obtain ⟨A3, z3, rfl, _⟩ := h3
  clear h hb0
  by_cases c1 : l - szEE n.ends < 0
  · have hr := Lib.hid (show left l (szNet n) = -1 from left_neg c1 (by unfold szNet; omega))
    have e1 : left l (szEE n.ends) = -1 := left_neg c1 (Nat.le_refl _)
    go_enter Try.func15, Try.ntmps15
    go_wp2_with fail
    refine (szEndSS_any _ n.ends l hl hl2 _ H1.out).mono ?_
    rw [e1]
    rintro e w' ⟨rfl, rfl⟩
    go_wp2
    go_ret
    exact ⟨ret_int hr.out.symm, Hb0.out⟩
  · have e1 : left l (szEE n.ends) = l - szEE n.ends := left_pos c1
    obtain ⟨t, ht⟩ : ∃ t, t = l - szEE n.ends := ⟨_, rfl⟩
    rw [← ht] at e1 c1
    have ht1 : 0 ≤ t := by omega
    have ht2 : t ≤ 1048576 := by omega
    by_cases c2 : t - n.ids.length < 0
    · have hr := Lib.hid (show left l (szNet n) = -1 from left_neg (n := szEE n.ends + n.ids.length) (by omega) (by unfold szNet; omega))
      have e2 : left t n.ids.length = -1 := left_neg c2 (Nat.le_refl _)
      have Ht := Lib.hid ht
      clear ht
      go_enter Try.func15, Try.ntmps15
      go_wp2_with fail
      refine (szEndSS_any _ n.ends l hl hl2 _ H1.out).mono ?_
      rw [e1]
      rintro e w' ⟨rfl, rfl⟩
      go_wp2_with fail
      refine (szIntS_any _ n.ids t ht1 ht2 _ H2.out).mono ?_
      rw [e2]
      rintro e w' ⟨rfl, rfl⟩
      go_wp2
      go_ret
      exact ⟨ret_int hr.out.symm, Hb0.out⟩
    · have e2 : left t n.ids.length = t - n.ids.length := left_pos c2
      obtain ⟨s, hs⟩ : ∃ s, s = t - n.ids.length := ⟨_, rfl⟩
      rw [← hs] at e2 c2
      have hs1 : 0 ≤ s := by omega
      have hs2 : s ≤ 1048576 := by omega
      obtain ⟨q, hq⟩ : ∃ q, q = left s n.inputs.length := ⟨_, rfl⟩
      have hr := Lib.hid (show left l (szNet n) = q by rw [hq]; unfold left szNet; split <;> split <;> omega)
      by_cases c3 : q < 0
      · have hq1 : q = -1 := by rw [hq]; unfold left; split <;> (unfold left at hq; split at hq <;> omega)
        have Ht := Lib.hid ht
        have Hs := Lib.hid hs
        have Hq := Lib.hid hq
        clear ht hs hq
        subst hq1
        go_enter Try.func15, Try.ntmps15
        go_wp2_with fail
        refine (szEndSS_any _ n.ends l hl hl2 _ H1.out).mono ?_
        rw [e1]
        rintro e w' ⟨rfl, rfl⟩
        go_wp2_with fail
        refine (szIntS_any _ n.ids t ht1 ht2 _ H2.out).mono ?_
        rw [e2]
        rintro e w' ⟨rfl, rfl⟩
        go_wp2_with fail
        refine (szIntS_any _ n.inputs s hs1 hs2 _ H3.out).mono ?_
        rw [← Hq.out]
        rintro e w' ⟨rfl, rfl⟩
        go_wp2
        go_ret
        exact ⟨ret_int hr.out.symm, Hb0.out⟩
      · have Ht := Lib.hid ht
        have Hs := Lib.hid hs
        have Hq := Lib.hid hq
        clear ht hs hq
        go_enter Try.func15, Try.ntmps15
        go_wp2_with fail
        refine (szEndSS_any _ n.ends l hl hl2 _ H1.out).mono ?_
        rw [e1]
        rintro e w' ⟨rfl, rfl⟩
        go_wp2_with fail
        refine (szIntS_any _ n.ids t ht1 ht2 _ H2.out).mono ?_
        rw [e2]
        rintro e w' ⟨rfl, rfl⟩
        go_wp2_with fail
        refine (szIntS_any _ n.inputs s hs1 hs2 _ H3.out).mono ?_
        rw [← Hq.out]
        rintro e w' ⟨rfl, rfl⟩
        go_wp2
        go_ret
        exact ⟨ret_int hr.out.symm, Hb0.out⟩
end Go.Proofs.Ytaplbmgnfdikdaa
