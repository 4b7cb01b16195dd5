import Derived.Test.YtdmadigjdlbhiaaPlParts
import Derived.Test.YtdmadigjdlbhiaaOpens
namespace Go.Proofs.Ytdmadigjdlbhiaa
open Go.RowKit
def pol (s l : Int) : List Int × Bool := if (inB 1 5 s && inB 0 999999999999 l) = true then (partsL s l, true) else ([], false)
theorem partsL_len (s l : Int) : (partsL s l).length ≤ 4 := by
  have := len_ranges s
  simp [partsL, pRem_len]; omega
theorem pol_len (s l : Int) : (pol s l).1.length ≤ 4 := by
  unfold pol; split
  · exact partsL_len s l
  · simp
set_option maxHeartbeats 1000000 in
theorem specPol (s l : Int) (w : World) :
    Calls Try.prog 19 #[.int .i64 s, .int .i64 l] w fun e w' => ∃ u, e = .returned (.tuple #[u, .bool (pol s l).2]) ∧ Own w' w.heap.size u (pol s l).1 ∧ Below w.heap.size w w' := by
  cases hs : inB 1 5 s
  · rw [show pol s l = ([], false) by simp [pol, hs]]
    go_enter Try.func19, Try.ntmps19
    go_wp2_with (go_at_call 28; refine (plScheme_b _ _).mono ?_; rintro e w' ⟨rfl, rfl⟩)
    go_ret2
    exact ⟨_, rfl, own_nil _ _, Below.refl _ _⟩
  · cases hl : inB 0 999999999999 l
    · rw [show pol s l = ([], false) by simp [pol, hl]]
      go_enter Try.func19, Try.ntmps19
      go_wp2_with (first | (go_at_call 28; refine (plScheme_b _ _).mono ?_; rintro e w' ⟨rfl, rfl⟩) | (go_at_call 33; refine (plLabel_b _ _).mono ?_; rintro e w' ⟨rfl, rfl⟩))
      go_ret2
      exact ⟨_, rfl, own_nil _ _, Below.refl _ _⟩
    · rw [show pol s l = (partsL s l, true) by simp [pol, hl, hs]]
      obtain ⟨h0, h1⟩ := inB_iff.1 hl
      go_enter Try.func19, Try.ntmps19
      go_wp2_with (first | (go_at_call 28; refine (plScheme_b _ _).mono ?_; rintro e w' ⟨rfl, rfl⟩) | (go_at_call 33; refine (plLabel_b _ _).mono ?_; rintro e w' ⟨rfl, rfl⟩))
      refine (plParts_any s l h0 h1 _).mono ?_
      rintro e w1 ⟨u, rfl, ho, hb⟩
      have Ho := Lib.hid ho
      have Hb := Lib.hid hb
      clear ho hb
      go_wp2
      go_ret2
      exact ⟨_, rfl, Ho.out, Hb.out⟩
set_option maxHeartbeats 1000000 in
theorem implPol (s l : Int) (w : World) :
    Calls Try.prog 20 #[.int .i64 s, .int .i64 l] w fun e w' => ∃ u, e = .returned (.tuple #[u, .bool (pol s l).2]) ∧ Own w' w.heap.size u (pol s l).1 ∧ Below w.heap.size w w' := by
  cases hs : inB 1 5 s
  · rw [show pol s l = ([], false) by simp [pol, hs]]
    go_enter Try.func20, Try.ntmps20
    go_wp2_with (go_at_call 29; refine (isScheme_b _ _).mono ?_; rintro e w' ⟨rfl, rfl⟩)
    go_ret2
    exact ⟨_, rfl, own_nil _ _, Below.refl _ _⟩
  · cases hl : inB 0 999999999999 l
    · rw [show pol s l = ([], false) by simp [pol, hl]]
      go_enter Try.func20, Try.ntmps20
      go_wp2_with (first | (go_at_call 29; refine (isScheme_b _ _).mono ?_; rintro e w' ⟨rfl, rfl⟩) | (go_at_call 37; refine (isProofLabel_b _ _).mono ?_; rintro e w' ⟨rfl, rfl⟩))
      go_ret2
      exact ⟨_, rfl, own_nil _ _, Below.refl _ _⟩
    · rw [show pol s l = (partsL s l, true) by simp [pol, hl, hs]]
      obtain ⟨h0, h1⟩ := inB_iff.1 hl
      go_enter Try.func20, Try.ntmps20
      go_wp2_with (first | (go_at_call 29; refine (isScheme_b _ _).mono ?_; rintro e w' ⟨rfl, rfl⟩) | (go_at_call 37; refine (isProofLabel_b _ _).mono ?_; rintro e w' ⟨rfl, rfl⟩))
      refine (partsOf_any s l h0 h1 _).mono ?_
      rintro e w1 ⟨u, rfl, ho, hb⟩
      have Ho := Lib.hid ho
      have Hb := Lib.hid hb
      clear ho hb
      go_wp2
      go_ret2
      exact ⟨_, rfl, Ho.out, Hb.out⟩
set_option maxHeartbeats 2000000 in
theorem fnExactPartsOfLabel_walk (w : World) (s : Int) (_ : -9223372036854775808 ≤ s ∧ s ≤ 9223372036854775807) (l : Int) (_ : -9223372036854775808 ≤ l ∧ l ≤ 9223372036854775807) :
    Calls Try.prog 7 #[.int .i64 s, .int .i64 l] w fun e w' => e = .returned (.bool true) ∧ Below w.heap.size w w' := by
  have hlen := pol_len s l
  generalize hp : pol s l = p at hlen
  have Hp := Lib.hid hp
  clear hp
  obtain ⟨xs, b⟩ := p
  go_enter Try.func7, Try.ntmps7
  go_wp2_with fail
  refine (specPol s l _).mono ?_
  rw [Hp.out]
  rintro e w1 ⟨u1, rfl, ho1, hb1⟩
  have Ho1 := Lib.hid ho1
  have Hb1 := Lib.hid hb1
  clear ho1 hb1
  go_wp2_with fail
  refine (implPol s l _).mono ?_
  rw [Hp.out]
  rintro e w2 ⟨u2, rfl, ho2, hb2⟩
  have Ho2 := Lib.hid ho2
  have Hb2 := Lib.hid hb2
  clear ho2 hb2
  go_wp2_with fail
  refine (eqIntS_any _ _ xs xs _ Ho2.out.ints (Ho1.out.ints.keep Hb2.out)).mono ?_
  rintro e w3 ⟨rfl, m, rfl⟩
  rw [decide_eq_true rfl]
  go_wp2_with fail
  refine (markIntS_any _ xs 1 (w2.drewN m) w1.heap.size Ho2.out (by omega)).mono ?_
  rintro e w4 ⟨rfl, ho4, hg4⟩
  have Ho4 := Lib.hid ho4
  have Hb4 := Lib.hid (show Below w1.heap.size w1 w4 from (below_drewN Hb2.out m).grown hg4 Hb2.out.size (fun k hk => (World.ownsRow.lt Ho2.out k hk).1))
  clear ho4 hg4
  have hm1 : (((1 + xs.length : Nat) : Int) < 0) = False := by simp; omega
  go_wp2_with fail
  refine (heldIntS_any _ 1 xs.length _ Ho4.out.ints (by omega)).mono ?_
  rintro e w5 ⟨rfl, rfl⟩
  go_wp2_with fail
  refine (implPol s l _).mono ?_
  rw [Hp.out]
  rintro e w6 ⟨u6, rfl, ho6, hb6⟩
  have Ho6 := Lib.hid ho6
  have Hb6 := Lib.hid hb6
  have Hc6 := Lib.hid (Hb4.out.trans (hb6.mono Hb4.out.size))
  clear ho6 hb6
  go_wp2_with fail
  refine (eqIntS_any _ _ xs xs _ Ho6.out.ints (Ho1.out.ints.keep Hc6.out)).mono ?_
  rintro e w7 ⟨rfl, m', rfl⟩
  rw [decide_eq_true rfl]
  go_wp2_with fail
  refine (heldIntS_any _ 1 xs.length _ (by exact (Ho4.out.ints.keep (below_drewN Hb6.out _))) (by omega)).mono ?_
  rintro e w8 ⟨rfl, rfl⟩
  go_wp2_with fail
  go_ret
  exact ⟨rfl, below_drewN (Hb1.out.trans (Hc6.out.mono Hb1.out.size)) m'⟩
end Go.Proofs.Ytdmadigjdlbhiaa
