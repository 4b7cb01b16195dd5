import Derived.Test.YtdmadigjdlbhiaaBits
import Derived.Lib.BitFns
namespace Go.Proofs.Ytdmadigjdlbhiaa
open Go.RowKit
theorem bitLen_bl (x : Nat) (h : x < 2 ^ 64) : Lib.bitLen x = bl x := by
  induction x using Nat.strongRecOn with
  | ind x ih =>
    by_cases h0 : x = 0
    · subst h0; rw [bl_zero]; rfl
    · rw [Lib.bitLen_half x h0 h, bl_pos (by omega), ih (x / 2) (by omega) (by omega)]; omega
/-- what is asked of math/bits.Len64 -/
def Len64Said : Prop := ∀ (x : Int) (w : World), 0 ≤ x → x ≤ 18446744073709551615 → Calls Try.prog 43 #[.int .u64 x] w fun e w' => e = .returned (.int .i64 (Lib.bitLen x.toNat)) ∧ w' = w
theorem implBits_any (h64 : Len64Said) (v : Value) (xs : List Int) (w : World) (h : IntS w v xs) :
    Calls Try.prog 18 #[v] w fun e w' => e = .returned (.tuple #[.int .i64 (pbits xs).1, .bool (pbits xs).2]) ∧ Below w.heap.size w w' := by
  have H := Lib.hid h
  obtain ⟨A, c, rfl, hlc, hm, hA⟩ := h
  unfold maxLen at hm
  have HA := Lib.hid hA
  clear hA
  by_cases hl : xs.length ≤ 40
  · cases ha : xs.all (inB 0 999999999999)
    · have hr : pbits xs = (0, false) := by simp [pbits, ha]
      rw [hr]
      clear hr
      go_enter Try.func18, Try.ntmps18
      go_wp2_with fail
      refine (allWithin_any _ xs _ _ _ H.out).mono ?_
      rintro e w1 ⟨rfl, hb1⟩
      have Hb1 := Lib.hid hb1
      clear hb1
      go_wp2
      go_ret2
      exact ⟨rfl, Hb1.out⟩
    · have hr : pbits xs = (((bl (mostL xs).toNat : Nat) : Int), true) := by simp [pbits, ha, hl]
      rw [hr]
      clear hr
      have Hall := Lib.hid (fun x hx => inB_iff.1 (List.all_eq_true.1 ha x hx))
      go_enter Try.func18, Try.ntmps18
      go_wp2_with fail
      refine (allWithin_any _ xs _ _ _ H.out).mono ?_
      rintro e w1 ⟨rfl, hb1⟩
      have Hb1 := Lib.hid hb1
      clear hb1
      go_wp2
      go_loop [4, 17] (fun m i => ∃ k : Nat, k ≤ xs.length ∧ i = .int .i64 k ∧ m = .int .i64 (bl (mostL (xs.take k)).toNat : Nat)) (fun _ i => xs.length - (intOf i).toNat)
      case atStart => exact ⟨0, Nat.zero_le _, rfl, by simp [mostL, bl_zero]⟩
      case round =>
        obtain ⟨k, hk, rfl, rfl⟩ := hrel
        by_cases hlt : k < xs.length
        · obtain ⟨x, hx⟩ := getx xs k hlt
          obtain ⟨b, off, rfl, hcell⟩ := HA.out k x hx
          have hcell' := (Hb1.out.cell (p := ⟨b, off + k, none⟩) (World.block_lt_of_cell? w _ hcell)).trans hcell
          obtain ⟨hx0, hx1⟩ := Hall.out x (List.mem_of_getElem? hx)
          have hm : (bl (mostL (xs.take (k + 1))).toNat : Int) = max (bl (mostL (xs.take k)).toNat : Int) (bl x.toNat : Int) := by
            rw [take_snoc hx, mostL_snoc, show (max (mostL (xs.take k)) x).toNat = max (mostL (xs.take k)).toNat x.toNat by omega, bl_max]
            omega
          have Hm := Lib.hid hm
          have Hb2 := Lib.hid (bitLen_bl x.toNat (by omega))
          clear hx hm hcell
          generalize bl (mostL (xs.take k)).toNat = m at *
          go_wp2_with fail
          refine (h64 x _ hx0 (by omega)).mono ?_
          rintro e w2 ⟨rfl, rfl⟩
          rw [Hb2.out]
          generalize bl x.toNat = y at *
          go_wp2
          go_round
          case rel => exact ⟨k + 1, by omega, by go_num, by rw [Hm.out]; congr 1; split <;> omega⟩
          case measure => simp [intOf]; omega
        · have hts := take_all xs hlt
          rw [hts]
          go_wp2
          go_ret2
          exact ⟨rfl, Hb1.out⟩
  · have hr : pbits xs = (0, false) := by simp [pbits, hl]
    rw [hr]
    clear hr
    go_enter Try.func18, Try.ntmps18
    go_wp2
    go_ret2
    exact ⟨rfl, Below.refl _ _⟩
end Go.Proofs.Ytdmadigjdlbhiaa
