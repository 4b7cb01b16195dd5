import Derived.Test.YthgbobikbdklhaaIsNet
import Derived.Test.YthgbobikbdklhaaTo
namespace Go.Proofs.Ythgbobikbdklhaa
/-- the reference's test of identifiers -/
def sIdsB (ids : List Int) (nodes : Int) : Bool := ((List.range ids.length).all fun i => inB 1 999999 (ids.getD i 0) && !((ids.take i).contains (ids.getD i 0))) && ((ids.length : Int) == 0 || (ids.length : Int) == nodes)
theorem getD_of_lt {ids : List Int} {i : Nat} (h : i < ids.length) : ids.getD i 0 = ids[i] := by simp [List.getD_eq_getElem?_getD, h]
theorem takes_nodup (ids : List Int) : (∀ i (h : i < ids.length), ids[i] ∉ ids.take i) ↔ ids.Nodup := by
  unfold List.Nodup
  rw [List.pairwise_iff_getElem]
  constructor
  · intro h i j hi hj hij e
    refine h j hj (List.mem_iff_getElem.2 ⟨i, by simp; omega, ?_⟩)
    rw [List.getElem_take]; exact e
  · intro h i hi hm
    obtain ⟨j, hj, e⟩ := List.mem_iff_getElem.1 hm
    simp at hj
    rw [List.getElem_take] at e
    exact h j i (by omega) hi (by omega) e
theorem rising_iff (lo up : Int) (s : List Int) : risingB lo up s = true ↔ (∀ x ∈ s, inB lo up x = true) ∧ s.Pairwise (· < ·) := by
  unfold risingB
  rw [List.all_eq_true]
  constructor
  · intro h
    have h' : ∀ i (hl : i < s.length), inB lo up s[i] = true ∧ (i = 0 ∨ s.getD (i - 1) 0 < s[i]) := fun i hl => by
      have := h i (List.mem_range.2 hl)
      rw [getD_of_lt hl] at this
      simpa using this
    refine ⟨fun x hx => ?_, ?_⟩
    · obtain ⟨i, hi, rfl⟩ := List.mem_iff_getElem.1 hx
      exact (h' i hi).1
    · rw [List.pairwise_iff_getElem]
      intro i j hi hj hij
      induction j with
      | zero => omega
      | succ j ih =>
        have hs := (h' (j + 1) hj).2
        rw [Nat.add_sub_cancel, getD_of_lt (show j < s.length by omega)] at hs
        rcases Nat.lt_or_ge i j with h1 | h1
        · have := ih (by omega) h1
          omega
        · obtain rfl : i = j := by omega
          omega
  · rintro ⟨h1, h2⟩ i hi
    have hl := List.mem_range.1 hi
    rw [getD_of_lt hl]
    rw [List.pairwise_iff_getElem] at h2
    rw [Bool.and_eq_true]
    refine ⟨h1 _ (List.getElem_mem hl), ?_⟩
    rcases Nat.eq_zero_or_pos i with h0 | h0
    · simp [h0]
    · have := h2 (i - 1) i (by omega) hl (by omega)
      rw [getD_of_lt (show i - 1 < s.length by omega)]
      simp [this]
theorem sIds_iff (ids : List Int) (nodes : Int) : sIdsB ids nodes = true ↔ (∀ x ∈ ids, inB 1 999999 x = true) ∧ ids.Nodup ∧ ((ids.length : Int) = 0 ∨ (ids.length : Int) = nodes) := by
  unfold sIdsB
  rw [Bool.and_eq_true, List.all_eq_true, ← takes_nodup]
  constructor
  · rintro ⟨h, h2⟩
    have h' : ∀ i (hl : i < ids.length), inB 1 999999 ids[i] = true ∧ ids[i] ∉ ids.take i := fun i hl => by
      have := h i (List.mem_range.2 hl)
      rw [getD_of_lt hl] at this
      simpa using this
    refine ⟨fun x hx => ?_, fun i hl => (h' i hl).2, by simpa using h2⟩
    obtain ⟨i, hi, rfl⟩ := List.mem_iff_getElem.1 hx
    exact (h' i hi).1
  · rintro ⟨h1, h2, h3⟩
    refine ⟨fun i hi => ?_, by simpa using h3⟩
    have hl := List.mem_range.1 hi
    rw [getD_of_lt hl, Bool.and_eq_true]
    exact ⟨h1 _ (List.getElem_mem hl), by simpa using h2 i hl⟩
theorem sIds_eq (ids : List Int) (nodes : Int) : sIdsB ids nodes = idsB ids nodes := by
  rw [Bool.eq_iff_iff, sIds_iff]
  cases hids : ids with
  | nil => simp [idsB]
  | cons a l =>
    rw [← hids]
    have hne : ids.isEmpty = false := by rw [hids]; rfl
    have hl0 : ¬ (ids.length : Int) = 0 := by rw [hids]; simp; omega
    unfold idsB
    rw [hne, Bool.false_or, Bool.and_eq_true, rising_iff, beq_iff_eq]
    have hp := List.mergeSort_perm ids (fun x y => decide (x ≤ y))
    have hs : (ids.mergeSort fun x y => decide (x ≤ y)).Pairwise fun a b => decide (a ≤ b) = true :=
      List.pairwise_mergeSort (fun a b c h1 h2 => by simp at h1 h2 ⊢; omega) (fun a b => by simp; omega) ids
    constructor
    · rintro ⟨h1, h2, h3⟩
      refine ⟨by omega, fun x hx => h1 x (hp.mem_iff.1 hx), ?_⟩
      have hn := hp.nodup_iff.2 h2
      exact (hs.and hn).imp fun {a b} ⟨h, h'⟩ => by simp at h; omega
    · rintro ⟨h1, h2, h3⟩
      refine ⟨fun x hx => h2 x (hp.mem_iff.2 hx), hp.nodup_iff.1 (h3.imp fun {a b} h => by omega), .inr h1⟩
end Go.Proofs.Ythgbobikbdklhaa
namespace Go.Proofs.Ythgbobikbdklhaa
open Go.RowKit
def hasB (xs : List Int) (x : Int) : Bool := xs.contains x
set_option maxHeartbeats 1000000 in
theorem l1Has_any (v : Value) (xs : List Int) (x : Int) (w : World) (h : IntS w v xs) : Calls Try.prog 61 #[v, .int .i64 x] w fun e w' => e = .returned (.bool (hasB xs x)) ∧ w = w' := by
  obtain ⟨A, c, rfl, hlc, hm, hA⟩ := h
  unfold maxLen at hm
  have HA := Lib.hid hA
  clear hA
  go_enter Try.func61, Try.ntmps61
  go_wp2
  go_loop [9] (fun i => ∃ k : Nat, k ≤ xs.length ∧ i = .int .i64 k ∧ x ∉ xs.take k) (fun i => xs.length - (intOf i).toNat)
  case atStart => exact ⟨0, Nat.zero_le _, rfl, by simp⟩
  case round =>
    obtain ⟨k, hk, rfl, hno⟩ := hrel
    have Hno := Lib.hid hno
    clear hno
    by_cases hlt : k < xs.length
    · obtain ⟨y, hy⟩ := getx xs k hlt
      obtain ⟨b, off, rfl, hcell⟩ := HA.out k y hy
      have Hy := Lib.hid hy
      clear hy
      by_cases hxy : y = x
      · subst hxy
        go_wp2
        go_ret
        exact ⟨ret_true (by unfold hasB; simpa using List.mem_of_getElem? Hy.out), rfl⟩
      · go_wp2
        go_round
        case rel =>
          refine ⟨k + 1, by omega, by simp, ?_⟩
          rw [take_snoc Hy.out]
          simp only [List.mem_append, List.mem_singleton, not_or]
          exact ⟨Hno.out, fun e => hxy e.symm⟩
        case measure => simp [intOf]; omega
    · go_wp2
      go_ret
      have := Hno.out
      rw [take_all xs hlt] at this
      exact ⟨ret_false (by unfold hasB; simpa using this), rfl⟩
theorem IntS.take {w : World} {A : Option Addr} {c : Nat} {xs : List Int} (h : IntS w (.slice A xs.length c) xs) (k : Nat) (hk : k ≤ xs.length) : IntS w (.slice A k c) (xs.take k) := by
  obtain ⟨A', c', hv, hlc, hm, hA⟩ := h
  cases hv
  refine ⟨A, c, by simp [Nat.min_eq_left hk], by simp; omega, hm, fun j x hx => ?_⟩
  have hj : j < k := by have := lt_of_get hx; simp at this; omega
  rw [List.getElem?_take, if_pos hj] at hx
  exact hA j x hx
set_option maxHeartbeats 2000000 in
theorem neIds_any (v : Value) (ids : List Int) (nodes : Int) (w : World) (h : IntS w v ids) : Calls Try.prog 48 #[v, .int .i64 nodes] w fun e w' => e = .returned (.bool (sIdsB ids nodes)) ∧ w = w' := by
  have H := Lib.hid h
  obtain ⟨A, c, rfl, hlc, hm, hA⟩ := h
  unfold maxLen at hm
  have HA := Lib.hid hA
  clear hA
  go_enter Try.func48, Try.ntmps48
  go_wp2
  go_loop [9] (fun i => ∃ k : Nat, k ≤ ids.length ∧ i = .int .i64 k ∧ ∀ j, j < k → inB 1 999999 (ids.getD j 0) = true ∧ hasB (ids.take j) (ids.getD j 0) = false) (fun i => ids.length - (intOf i).toNat)
  case atStart => exact ⟨0, Nat.zero_le _, rfl, fun j hj => by omega⟩
  case round =>
    obtain ⟨k, hk, rfl, hno⟩ := hrel
    have Hno := Lib.hid hno
    clear hno
    by_cases hlt : k < ids.length
    · obtain ⟨y, hy⟩ := getx ids k hlt
      obtain ⟨b, off, rfl, hcell⟩ := HA.out k y hy
      have hgy : ids.getD k 0 = y := by simp [hy]
      have Hg := Lib.hid hgy
      clear hy hgy
      cases hi : inB 1 999999 y
      · go_wp2_with (go_at_call 47; refine (l1In_b _ _ _ _).mono ?_; rintro e w' ⟨rfl, rfl⟩)
        go_ret
        refine ⟨ret_false ?_, rfl⟩
        unfold sIdsB
        rw [Bool.and_eq_false_iff]
        left
        rw [List.all_eq_false]
        exact ⟨k, List.mem_range.2 hlt, by rw [Hg.out, hi]; simp⟩
      · cases hc : hasB (ids.take k) y
        · go_wp2_with (first | (go_at_call 47; refine (l1In_b _ _ _ _).mono ?_; rintro e w' ⟨rfl, rfl⟩) | (go_at_call 61; refine (l1Has_any _ (ids.take k) y _ (H.out.take k hk)).mono ?_; rintro e w' ⟨rfl, rfl⟩))
          go_round
          case rel =>
            refine ⟨k + 1, by omega, by simp, fun j hj => ?_⟩
            rcases Nat.lt_or_ge j k with h | h
            · exact Hno.out j h
            · obtain rfl : j = k := by omega
              rw [Hg.out]; exact ⟨hi, hc⟩
          case measure => simp [intOf]; omega
        · go_wp2_with (first | (go_at_call 47; refine (l1In_b _ _ _ _).mono ?_; rintro e w' ⟨rfl, rfl⟩) | (go_at_call 61; refine (l1Has_any _ (ids.take k) y _ (H.out.take k hk)).mono ?_; rintro e w' ⟨rfl, rfl⟩))
          go_ret
          refine ⟨ret_false ?_, rfl⟩
          unfold sIdsB
          rw [Bool.and_eq_false_iff]
          left
          rw [List.all_eq_false]
          exact ⟨k, List.mem_range.2 hlt, by rw [Hg.out, hi]; unfold hasB at hc; rw [hc]; simp⟩
    · have hall : Hid (sIdsB ids nodes = ((ids.length : Int) == 0 || (ids.length : Int) == nodes)) := by
        show _ = _
        unfold sIdsB
        rw [show ((List.range ids.length).all fun i => inB 1 999999 (ids.getD i 0) && !((ids.take i).contains (ids.getD i 0))) = true from List.all_eq_true.2 (fun j hj => by
          have := Hno.out j (by have := List.mem_range.1 hj; omega)
          unfold hasB at this
          rw [this.1, this.2]; rfl), Bool.true_and]
      by_cases h0 : (ids.length : Int) = 0
      · go_wp2
        go_ret
        exact ⟨ret_true (by rw [hall.out]; simp [h0]), rfl⟩
      · have hne : ¬ ids = [] := fun e => h0 (by simp [e])
        go_wp2
        go_ret
        refine ⟨ret_bool ?_, rfl⟩
        rw [hall.out, show ((ids.length : Int) == 0) = false by simpa using h0, Bool.false_or]
end Go.Proofs.Ythgbobikbdklhaa
