import Derived.Test.YtaplbmgnfdikdaaWords
import Derived.Test.YtaplbmgnfdikdaaNums
namespace Go.Proofs.Ytaplbmgnfdikdaa
open Go.RowKit
theorem l1In_is (n lo hi : Int) (b : Bool) (h : inB lo hi n = b) (w : World) :
    Calls Try.prog 87 #[.int .i64 n, .int .i64 lo, .int .i64 hi] w fun e w' => e = .returned (.bool b) ∧ w = w' := h ▸ l1In_any n lo hi w
theorem l1All_any (v : Value) (xs : List Int) (lo hi : Int) (w : World) (h : IntS w v xs) :
    Calls Try.prog 66 #[v, .int .i64 lo, .int .i64 hi] w fun e w' => e = .returned (.bool (xs.all (inB lo hi))) ∧ w = w' := by
  obtain ⟨A, c, rfl, hlc, hm, hA⟩ := h
  unfold maxLen at hm
  have HA := Lib.hid hA
  clear hA
  go_enter Try.func66, Try.ntmps66
  go_wp2
  go_loop [11] (fun i => ∃ k : Nat, k ≤ xs.length ∧ i = .int .i64 k ∧ (xs.take k).all (inB lo hi) = true) (fun i => xs.length - (intOf i).toNat)
  case atStart => exact ⟨0, Nat.zero_le _, rfl, rfl⟩
  case round =>
    obtain ⟨k, hk, rfl, hall⟩ := hrel
    have Hall := Lib.hid hall
    clear hall
    by_cases hlt : k < xs.length
    · obtain ⟨x, hx⟩ := getx xs k hlt
      obtain ⟨b, off, rfl, hcell⟩ := HA.out k x hx
      have Hx := Lib.hid hx
      clear hx
      cases hb : inB lo hi x
      all_goals
        have Hb := Lib.hid hb
        clear hb
        go_wp2_with (go_at_call 87; refine (l1In_is _ _ _ _ Hb.out _).mono ?_; rintro e w' ⟨rfl, rfl⟩)
      · go_ret
        exact ⟨ret_bool (all_stop Hx.out Hb.out).symm, rfl⟩
      · go_round
        case rel => exact ⟨k + 1, by omega, by go_num, by rw [take_snoc Hx.out]; simp [Hall.out, Hb.out]⟩
        case measure => simp [intOf]; omega
    · go_wp2
      go_ret
      exact ⟨ret_bool (by rw [← Hall.out, take_all _ hlt]), rfl⟩
end Go.Proofs.Ytaplbmgnfdikdaa
