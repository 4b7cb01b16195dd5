import Derived.Test.YtdmadigjdlbhiaaBits2
import Derived.Test.YtdmadigjdlbhiaaShelf
import Derived.Test.YtdmadigjdlbhiaaOpens
namespace Go.Proofs.Ytdmadigjdlbhiaa
open Go.RowKit
theorem len64 : Len64Said := fun x w h0 h1 => Try.bits_Len64 x w h0 h1
set_option maxHeartbeats 1000000 in
theorem fnExactProofBits_walk (w : World) (v : Value) (xs : List Int) (h : IntS w v xs) (_ : I64s xs) :
    Calls Try.prog 6 #[v] w fun e w' => e = .returned (.bool true) ∧ Below w.heap.size w w' := by
  have H := Lib.hid h
  obtain ⟨A, c, rfl, hlc, hm, hA⟩ := h
  clear hA
  unfold maxLen at hm
  by_cases hbig : 1048576 < xs.length
  · go_enter Try.func6, Try.ntmps6
    go_wp2
    go_ret
    exact ⟨rfl, Below.refl _ _⟩
  · go_enter Try.func6, Try.ntmps6
    go_wp2_with fail
    refine (toIntS_any _ xs _ H.out (by omega)).mono ?_
    rintro e w1 ⟨u1, rfl, ho1, hb1⟩
    have Ho1 := Lib.hid ho1
    have Hb1 := Lib.hid hb1
    clear ho1 hb1
    go_wp2_with fail
    refine (specBits_any _ xs _ Ho1.out.ints).mono ?_
    rintro e w2 ⟨rfl, rfl⟩
    go_wp2_with fail
    refine (toIntS_any _ xs _ (H.out.keep Hb1.out) (by omega)).mono ?_
    rintro e w3 ⟨u3, rfl, ho3, hb3⟩
    have Ho3 := Lib.hid ho3
    have Hb3 := Lib.hid (Hb1.out.trans (hb3.mono Hb1.out.size))
    clear ho3 hb3
    go_wp2_with fail
    refine (implBits_any len64 _ xs _ Ho3.out.ints).mono ?_
    rintro e w4 ⟨rfl, hb4⟩
    have Ho4 := Lib.hid (Ho3.out.keep hb4)
    have Hb4 := Lib.hid (Hb3.out.trans (hb4.mono Hb3.out.size))
    clear hb4
    go_wp2_with fail
    refine (toIntS_any _ xs _ (H.out.keep Hb4.out) (by omega)).mono ?_
    rintro e w5 ⟨u5, rfl, ho5, hb5⟩
    have Ho5 := Lib.hid ho5
    have Ho6 := Lib.hid (Ho4.out.keep hb5)
    have Hb5 := Lib.hid (Hb4.out.trans (hb5.mono Hb4.out.size))
    clear ho5 hb5
    go_wp2_with fail
    refine (eqIntS_any _ _ xs xs _ Ho6.out.ints Ho5.out.ints).mono ?_
    rintro e w6 ⟨rfl, m, rfl⟩
    rw [decide_eq_true rfl]
    go_wp2_with fail
    go_ret
    exact ⟨rfl, below_drewN Hb5.out _⟩
end Go.Proofs.Ytdmadigjdlbhiaa
