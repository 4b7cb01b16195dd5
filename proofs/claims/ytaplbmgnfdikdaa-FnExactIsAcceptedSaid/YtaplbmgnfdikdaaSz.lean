import Derived.Test.YtaplbmgnfdikdaaTo
namespace Go.Proofs.Ytaplbmgnfdikdaa
open Go.RowKit
def szRows (ess : List (List (Int × Int))) : Nat := (ess.map List.length).sum
theorem szRows_snoc {ess : List (List (Int × Int))} {k : Nat} {es : List (Int × Int)} (h : ess[k]? = some es) : szRows (ess.take (k + 1)) = szRows (ess.take k) + es.length := by
  unfold szRows
  rw [List.take_add_one, h]; simp
theorem szRows_le (ess : List (List (Int × Int))) (k : Nat) : szRows (ess.take k) ≤ szRows ess := by
  unfold szRows
  conv => rhs; rw [← List.take_append_drop k ess]
  rw [List.map_append, List.sum_append]; omega
def szEE (ess : List (List (Int × Int))) : Nat := ess.length + szRows ess
theorem left_neg {l : Int} {n m : Nat} (h : l - n < 0) (hm : n ≤ m) : left l m = -1 := by unfold left; rw [if_pos (by omega)]
theorem left_pos {l : Int} {n : Nat} (h : ¬ l - n < 0) : left l n = l - n := by unfold left; rw [if_neg h]
set_option maxHeartbeats 2000000 in
theorem szEndSS_any (v : Value) (ess : List (List (Int × Int))) (l : Int) (hl : 0 ≤ l) (hl2 : l ≤ 1048576) (w : World) (h : EndSS w v ess) : Calls Try.prog 54 #[v, .int .i64 l] w fun e w' => e = .returned (.int .i64 (left l (szEE ess))) ∧ w = w' := by
  obtain ⟨A, c, rfl, hlc, hm, hA⟩ := h
  unfold maxLen at hm
  have HA := Lib.hid hA
  clear hA
  by_cases h : l - ess.length < 0
  · have hr := Lib.hid (left_neg (m := szEE ess) h (by unfold szEE; omega))
    go_enter Try.func54, Try.ntmps54
    go_wp2
    go_ret
    exact ⟨ret_int hr.out.symm, rfl⟩
  · go_enter Try.func54, Try.ntmps54
    go_wp2
    go_loop [1, 5] (fun t i => ∃ k : Nat, k ≤ ess.length ∧ i = .int .i64 k ∧ t = .int .i64 (l - ess.length - szRows (ess.take k)) ∧ 0 ≤ l - ess.length - szRows (ess.take k)) (fun _ i => ess.length - (intOf i).toNat)
    case atStart => exact ⟨0, Nat.zero_le _, rfl, by simp [szRows], by simp [szRows]; omega⟩
    case round =>
      obtain ⟨k, hk, rfl, rfl, hge⟩ := hrel
      obtain ⟨t, ht⟩ : ∃ t, t = l - ess.length - szRows (ess.take k) := ⟨_, rfl⟩
      rw [← ht] at hge ⊢
      by_cases hlt : k < ess.length
      · obtain ⟨es, hes⟩ := getx ess k hlt
        obtain ⟨b, off, u, rfl, hcell, hu⟩ := HA.out k es hes
        have Hu := Lib.hid hu
        have hs := szRows_snoc hes
        have ht2 : t ≤ 1048576 := by omega
        by_cases hneg : t - es.length < 0
        · have hr := Lib.hid (show left l (szEE ess) = -1 from left_neg (n := ess.length + szRows (ess.take (k + 1))) (by omega) (by have := szRows_le ess (k + 1); unfold szEE; omega))
          have hlf : left t es.length = -1 := by unfold left; rw [if_pos hneg]
          have Ht := Lib.hid ht
          clear ht hs hu hes
          go_wp2_with fail
          refine (szEndS_any _ es t hge ht2 _ Hu.out).mono ?_
          rw [hlf]
          rintro e w' ⟨rfl, rfl⟩
          go_wp2
          go_ret
          exact ⟨ret_int hr.out.symm, rfl⟩
        · have hlf : left t es.length = t - es.length := left_pos hneg
          have Ht := Lib.hid ht
          have Hs := Lib.hid hs
          clear ht hs hu hes
          go_wp2_with fail
          refine (szEndS_any _ es t hge ht2 _ Hu.out).mono ?_
          rw [hlf]
          rintro e w' ⟨rfl, rfl⟩
          go_wp2
          go_round
          case rel => exact ⟨k + 1, by omega, by simp, by have := Ht.out; have := Hs.out; congr 1; omega, by have := Ht.out; have := Hs.out; omega⟩
          case measure => simp [intOf]; omega
      · obtain rfl : k = ess.length := by omega
        have hr := Lib.hid (show left l (szEE ess) = t by rw [left_pos (by rw [List.take_length] at ht; unfold szEE; omega), ht, List.take_length]; unfold szEE; omega)
        clear ht
        go_wp2
        go_ret
        exact ⟨ret_int hr.out.symm, rfl⟩
end Go.Proofs.Ytaplbmgnfdikdaa
