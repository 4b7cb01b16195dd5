import Derived.Test.YtaplbmgnfdikdaaW1
namespace Go.Proofs.Ytaplbmgnfdikdaa
open Go.RowKit
theorem toIntS_any (v : Value) (xs : List Int) (w : World) (h : IntS w v xs) (hl : xs.length ≤ 17592186044416) :
    Calls Try.prog 18 #[v] w fun e w' => ∃ u, e = .returned u ∧ Own w' w.heap.size u xs ∧ Below w.heap.size w w' := by
  obtain ⟨A, c, rfl, hlc, hm, hA⟩ := h
  unfold maxLen at hm
  have HA := Lib.hid hA
  clear hA
  go_enter Try.func18, Try.ntmps18
  go_wp2_with (at_make; refine mk_ints _ rfl _ _ rfl _ _ xs.length rfl rfl rfl rfl hl ?_; intro w1 ho1 hb1 hz1)
  go_loopw [4] (fun i wr => ∃ k : Nat, k ≤ xs.length ∧ i = .int .i64 k ∧ Own wr w.heap.size (.slice (some ⟨w.heap.size, 0, none⟩) xs.length xs.length) (xs.take k ++ List.replicate (xs.length - k) 0) ∧ Below w.heap.size w wr) (fun i _ => xs.length - (intOf i).toNat)
  case atStart => exact ⟨0, Nat.zero_le _, rfl, by simpa using ho1, hb1⟩
  case round =>
    obtain ⟨k, hk, rfl, ho, hb⟩ := hrel
    clear ho1 hb1 hz1
    have Ho := Lib.hid ho
    have Hb := Lib.hid hb
    by_cases hlt : k < xs.length
    · obtain ⟨x, hx⟩ := getx xs k hlt
      obtain ⟨b, off, rfl, hcell⟩ := HA.out k x hx
      have hcell' := hb.cell (p := ⟨b, off + k, none⟩) (World.block_lt_of_cell? w _ hcell)
      rw [hcell] at hcell'
      have hf := ho.free k
      obtain ⟨y, hy⟩ := getx (xs.take k ++ List.replicate (xs.length - k) 0) k (by simp; omega)
      have hc2 := ho.cell hy
      have Hx := Lib.hid hx
      clear hx hy ho hb hcell
      go_wp2
      go_roundw
      case rel =>
        refine ⟨k + 1, by omega, by go_num, ?_, Hb.out.setCell (Nat.le_refl _) _⟩
        have := Ho.out.set (k := k) x
        rwa [set_fill 0 xs k x Hx.out] at this
      case measure => simp [intOf]; omega
    · go_wp2
      go_ret
      refine ⟨_, rfl, ?_, Hb.out⟩
      have := Ho.out
      rwa [take_all xs hlt, show xs.length - k = 0 by omega, List.replicate_zero, List.append_nil] at this
end Go.Proofs.Ytaplbmgnfdikdaa
