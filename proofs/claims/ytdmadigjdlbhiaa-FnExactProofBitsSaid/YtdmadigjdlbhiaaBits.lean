import Derived.Test.YtdmadigjdlbhiaaFuncs
namespace Go.Proofs.Ytdmadigjdlbhiaa
open Go.RowKit
/-- the number of binary digits -/
def bl (n : Nat) : Nat := if n = 0 then 0 else bl (n / 2) + 1
theorem bl_pos {n : Nat} (h : 0 < n) : bl n = bl (n / 2) + 1 := by rw [bl, if_neg (by omega)]
theorem bl_zero : bl 0 = 0 := by rw [bl]; simp
theorem bl_le (n : Nat) : bl n ≤ n := by
  induction n using Nat.strongRecOn with
  | ind n ih =>
    by_cases h : n = 0
    · subst h; simp [bl_zero]
    · rw [bl_pos (by omega)]
      have := ih (n / 2) (by omega)
      omega
theorem bl_mono {m n : Nat} (h : m ≤ n) : bl m ≤ bl n := by
  induction n using Nat.strongRecOn generalizing m with
  | ind n ih =>
    by_cases h0 : m = 0
    · subst h0; rw [bl_zero]; omega
    · rw [bl_pos (show 0 < m by omega), bl_pos (show 0 < n by omega)]
      have := ih (n / 2) (by omega) (show m / 2 ≤ n / 2 by omega)
      omega
theorem bl_max (m n : Nat) : bl (max m n) = max (bl m) (bl n) := by
  rcases Nat.le_total m n with h | h
  · have := bl_mono h; rw [Nat.max_eq_right h, Nat.max_eq_right this]
  · have := bl_mono h; rw [Nat.max_eq_left h, Nat.max_eq_left this]
theorem nuBits_any (n : Nat) (w : World) (hn : n ≤ 9223372036854775807) :
    Calls Try.prog 40 #[.int .i64 n] w fun e w' => e = .returned (.int .i64 (bl n : Nat)) ∧ w = w' := by
  have hbl := bl_le n
  go_enter Try.func40, Try.ntmps40
  go_wp2
  go_loop [0, 3] (fun m k => ∃ a b : Nat, a ≤ n ∧ b ≤ n ∧ m = .int .i64 a ∧ k = .int .i64 b ∧ bl a + b = bl n) (fun m _ => (intOf m).toNat)
  case atStart => exact ⟨n, 0, Nat.le_refl _, Nat.zero_le _, rfl, rfl, rfl⟩
  case round =>
    obtain ⟨a, b, ha, hb, rfl, rfl, hab⟩ := hrel
    have Hab := Lib.hid hab
    by_cases h0 : 0 < a
    · have h1 := bl_pos h0
      have hb2 : b + 1 ≤ n := by omega
      have Hh := Lib.hid h1
      clear hab h1
      go_wp2
      go_round
      case rel => exact ⟨a / 2, b + 1, by omega, by omega, by go_num, by go_num, by have := Hab.out; have := Hh.out; omega⟩
      case measure => simp [intOf]; omega
    · obtain rfl : a = 0 := by omega
      clear hab
      go_wp2
      go_ret
      exact ⟨ret_int (by have := Hab.out; rw [bl_zero] at this; omega), rfl⟩
theorem nuBits_int (x : Int) (w : World) (h0 : 0 ≤ x) (h1 : x ≤ 9223372036854775807) :
    Calls Try.prog 40 #[.int .i64 x] w fun e w' => e = .returned (.int .i64 (bl x.toNat : Nat)) ∧ w = w' := by
  obtain ⟨n, rfl⟩ := Int.eq_ofNat_of_zero_le h0
  rw [Int.toNat_natCast]
  exact nuBits_any n w (by omega)
theorem l1Most_any (a b : Int) (w : World) : Calls Try.prog 53 #[.int .i64 a, .int .i64 b] w fun e w' => e = .returned (.int .i64 (max a b)) ∧ w = w' := by
  by_cases h : b < a
  · have hm : max a b = a := by omega
    rw [hm]
    go_enter Try.func53, Try.ntmps53
    go_wp2
    go_ret
    exact ⟨rfl, rfl⟩
  · have hm : max a b = b := by omega
    rw [hm]
    go_enter Try.func53, Try.ntmps53
    go_wp2
    go_ret
    exact ⟨rfl, rfl⟩
def mostL (xs : List Int) : Int := xs.foldl max 0
theorem meMost_any (v : Value) (xs : List Int) (w : World) (h : IntS w v xs) :
    Calls Try.prog 41 #[v] w fun e w' => e = .returned (.int .i64 (mostL xs)) ∧ w = w' := by
  obtain ⟨A, c, rfl, hlc, hm, hA⟩ := h
  unfold maxLen at hm
  have HA := Lib.hid hA
  clear hA
  go_enter Try.func41, Try.ntmps41
  go_wp2
  go_loop [3, 8] (fun m i => ∃ k : Nat, k ≤ xs.length ∧ i = .int .i64 k ∧ m = .int .i64 (mostL (xs.take k))) (fun _ i => xs.length - (intOf i).toNat)
  case atStart => exact ⟨0, Nat.zero_le _, rfl, rfl⟩
  case round =>
    obtain ⟨k, hk, rfl, rfl⟩ := hrel
    by_cases hlt : k < xs.length
    · obtain ⟨x, hx⟩ := getx xs k hlt
      obtain ⟨b, off, rfl, hcell⟩ := HA.out k x hx
      have hm : mostL (xs.take (k + 1)) = max (mostL (xs.take k)) x := by rw [take_snoc hx]; simp [mostL, List.foldl_append]
      have Hm := Lib.hid hm
      clear hx hm
      go_wp2_with (go_at_call 53; refine (l1Most_any _ _ _).mono ?_; rintro e w' ⟨rfl, rfl⟩)
      go_round
      case rel => exact ⟨k + 1, by omega, by go_num, by rw [Hm.out]⟩
      case measure => simp [intOf]; omega
    · have hts := take_all xs hlt
      rw [hts]
      go_wp2
      go_ret
      exact ⟨rfl, rfl⟩
theorem mostL_nonneg (xs : List Int) : 0 ≤ mostL xs := by
  have : ∀ (l : List Int) (a : Int), 0 ≤ a → 0 ≤ l.foldl max a := by
    intro l
    induction l with
    | nil => intro a h; exact h
    | cons x l ih => intro a h; exact ih _ (by omega)
  exact this xs 0 (Int.le_refl _)
theorem mostL_le (xs : List Int) (M : Int) (hM : 0 ≤ M) (h : ∀ x ∈ xs, x ≤ M) : mostL xs ≤ M := by
  have : ∀ (l : List Int) (a : Int), a ≤ M → (∀ x ∈ l, x ≤ M) → l.foldl max a ≤ M := by
    intro l
    induction l with
    | nil => intro a h _; exact h
    | cons x l ih => intro a h hx; exact ih _ (by have := hx x (by simp); omega) (fun y hy => hx y (by simp [hy]))
  exact this xs 0 hM h
theorem mostL_snoc (xs : List Int) (x : Int) : mostL (xs ++ [x]) = max (mostL xs) x := by simp [mostL, List.foldl_append]
/-- ProofBits -/
def pbits (xs : List Int) : Int × Bool := if xs.length ≤ 40 ∧ xs.all (inB 0 999999999999) = true then ((bl (mostL xs).toNat : Nat), true) else (0, false)
theorem specBits_any (v : Value) (xs : List Int) (w : World) (h : IntS w v xs) :
    Calls Try.prog 17 #[v] w fun e w' => e = .returned (.tuple #[.int .i64 (pbits xs).1, .bool (pbits xs).2]) ∧ w = w' := by
  have H := Lib.hid h
  obtain ⟨A, c, rfl, hlc, hm, hA⟩ := h
  clear hA
  unfold maxLen at hm
  by_cases hl : xs.length ≤ 40
  · cases ha : xs.all (inB 0 999999999999)
    · have hr : pbits xs = (0, false) := by simp [pbits, ha]
      rw [hr]
      clear hr
      go_enter Try.func17, Try.ntmps17
      go_wp2_with (go_at_call 39; refine (l1All_any _ xs _ _ _ H.out).mono ?_; rintro e w' ⟨rfl, rfl⟩)
      go_ret2
      exact ⟨rfl, rfl⟩
    · have hr : pbits xs = (((bl (mostL xs).toNat : Nat) : Int), true) := by simp [pbits, ha, hl]
      rw [hr]
      clear hr
      have h0 := mostL_nonneg xs
      have h1 := mostL_le xs 999999999999 (by omega) (fun x hx => (inB_iff.1 (List.all_eq_true.1 ha x hx)).2)
      go_enter Try.func17, Try.ntmps17
      go_wp2_with (first | (go_at_call 39; refine (l1All_any _ xs _ _ _ H.out).mono ?_; rintro e w' ⟨rfl, rfl⟩) | (go_at_call 41; refine (meMost_any _ xs _ H.out).mono ?_; rintro e w' ⟨rfl, rfl⟩))
      refine (nuBits_int _ _ h0 (by omega)).mono ?_
      rintro e w' ⟨rfl, rfl⟩
      go_wp2
      go_ret2
      exact ⟨rfl, rfl⟩
  · have hr : pbits xs = (0, false) := by simp [pbits, hl]
    rw [hr]
    clear hr
    go_enter Try.func17, Try.ntmps17
    go_wp2
    go_ret2
    exact ⟨rfl, rfl⟩
end Go.Proofs.Ytdmadigjdlbhiaa
