import Derived.Test.YtaplbmgnfdikdaaIsNet
namespace Go.Proofs.Ytaplbmgnfdikdaa
/-- the reference's test of identifiers -/
def sIdsB (ids : List Int) (nodes : Int) : Bool := ((List.range ids.length).all fun i => inB 1 999999 (ids.getD i 0) && !((ids.take i).contains (ids.getD i 0))) && ((ids.length : Int) == 0 || (ids.length : Int) == nodes)
theorem getD_of_lt {ids : List Int} {i : Nat} (h : i < ids.length) : ids.getD i 0 = ids[i] := by simp [List.getD_eq_getElem?_getD, h]
theorem takes_nodup (ids : List Int) : (∀ i (h : i < ids.length), ids[i] ∉ ids.take i) ↔ ids.Nodup := by
  unfold List.Nodup
  rw [List.pairwise_iff_getElem]
  constructor
  · intro h i j hi hj hij e
    refine h j hj (List.mem_iff_getElem.2 ⟨i, by simp; omega, ?_⟩)
    rw [List.getElem_take]; exact e
  · intro h i hi hm
    obtain ⟨j, hj, e⟩ := List.mem_iff_getElem.1 hm
    simp at hj
    rw [List.getElem_take] at e
    exact h j i (by omega) hi (by omega) e
theorem rising_iff (lo up : Int) (s : List Int) : risingB lo up s = true ↔ (∀ x ∈ s, inB lo up x = true) ∧ s.Pairwise (· < ·) := by
  unfold risingB
  rw [List.all_eq_true]
  constructor
  · intro h
    have h' : ∀ i (hl : i < s.length), inB lo up s[i] = true ∧ (i = 0 ∨ s.getD (i - 1) 0 < s[i]) := fun i hl => by
      have := h i (List.mem_range.2 hl)
      rw [getD_of_lt hl] at this
      simpa using this
    refine ⟨fun x hx => ?_, ?_⟩
    · obtain ⟨i, hi, rfl⟩ := List.mem_iff_getElem.1 hx
      exact (h' i hi).1
    · rw [List.pairwise_iff_getElem]
      intro i j hi hj hij
      induction j with
      | zero => omega
      | succ j ih =>
        have hs := (h' (j + 1) hj).2
        rw [Nat.add_sub_cancel, getD_of_lt (show j < s.length by omega)] at hs
        rcases Nat.lt_or_ge i j with h1 | h1
        · have := ih (by omega) h1
          omega
        · obtain rfl : i = j := by omega
          omega
  · rintro ⟨h1, h2⟩ i hi
    have hl := List.mem_range.1 hi
    rw [getD_of_lt hl]
    rw [List.pairwise_iff_getElem] at h2
    rw [Bool.and_eq_true]
    refine ⟨h1 _ (List.getElem_mem hl), ?_⟩
    rcases Nat.eq_zero_or_pos i with h0 | h0
    · simp [h0]
    · have := h2 (i - 1) i (by omega) hl (by omega)
      rw [getD_of_lt (show i - 1 < s.length by omega)]
      simp [this]
theorem sIds_iff (ids : List Int) (nodes : Int) : sIdsB ids nodes = true ↔ (∀ x ∈ ids, inB 1 999999 x = true) ∧ ids.Nodup ∧ ((ids.length : Int) = 0 ∨ (ids.length : Int) = nodes) := by
  unfold sIdsB
  rw [Bool.and_eq_true, List.all_eq_true, ← takes_nodup]
  constructor
  · rintro ⟨h, h2⟩
    have h' : ∀ i (hl : i < ids.length), inB 1 999999 ids[i] = true ∧ ids[i] ∉ ids.take i := fun i hl => by
      have := h i (List.mem_range.2 hl)
      rw [getD_of_lt hl] at this
      simpa using this
    refine ⟨fun x hx => ?_, fun i hl => (h' i hl).2, by simpa using h2⟩
    obtain ⟨i, hi, rfl⟩ := List.mem_iff_getElem.1 hx
    exact (h' i hi).1
  · rintro ⟨h1, h2, h3⟩
    refine ⟨fun i hi => ?_, by simpa using h3⟩
    have hl := List.mem_range.1 hi
    rw [getD_of_lt hl, Bool.and_eq_true]
    exact ⟨h1 _ (List.getElem_mem hl), by simpa using h2 i hl⟩
theorem sIds_eq (ids : List Int) (nodes : Int) : sIdsB ids nodes = idsB ids nodes := by
  rw [Bool.eq_iff_iff, sIds_iff]
  cases hids : ids with
  | nil => simp [idsB]
  | cons a l =>
    rw [← hids]
    have hne : ids.isEmpty = false := by rw [hids]; rfl
    have hl0 : ¬ (ids.length : Int) = 0 := by rw [hids]; simp; omega
    unfold idsB
    rw [hne, Bool.false_or, Bool.and_eq_true, rising_iff, beq_iff_eq]
    have hp := List.mergeSort_perm ids (fun x y => decide (x ≤ y))
    have hs : (ids.mergeSort fun x y => decide (x ≤ y)).Pairwise fun a b => decide (a ≤ b) = true :=
      List.pairwise_mergeSort (fun a b c h1 h2 => by simp at h1 h2 ⊢; omega) (fun a b => by simp; omega) ids
    constructor
    · rintro ⟨h1, h2, h3⟩
      refine ⟨by omega, fun x hx => h1 x (hp.mem_iff.1 hx), ?_⟩
      have hn := hp.nodup_iff.2 h2
      exact (hs.and hn).imp fun {a b} ⟨h, h'⟩ => by simp at h; omega
    · rintro ⟨h1, h2, h3⟩
      refine ⟨fun x hx => h2 x (hp.mem_iff.2 hx), hp.nodup_iff.1 (h3.imp fun {a b} h => by omega), .inr h1⟩
end Go.Proofs.Ytaplbmgnfdikdaa
