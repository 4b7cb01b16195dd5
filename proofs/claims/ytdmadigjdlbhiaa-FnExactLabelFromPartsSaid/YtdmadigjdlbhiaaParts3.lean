import Derived.Test.YtdmadigjdlbhiaaParts2
namespace Go.Proofs.Ytdmadigjdlbhiaa
open Go.RowKit
theorem inB_iff {lo hi x : Int} : inB lo hi x = true ↔ lo ≤ x ∧ x ≤ hi := by simp [inB]
theorem inB_neg {lo hi x : Int} : inB lo hi x = false ↔ ¬ (lo ≤ x ∧ x ≤ hi) := by simp [inB]
def lfp5 (a b c d : Int) : Int × Bool := if (inB 0 999999999999 a && inB 0 99 b && inB 0 9 c && inB 0 1 d && inB 0 999999999999 (((a * 100 + b) * 10 + c) * 2 + d)) = true then (((a * 100 + b) * 10 + c) * 2 + d, true) else (0, false)
def lfp4 (a b : Int) : Int × Bool := if (inB 0 999999999999 a && inB 0 99 b && inB 0 999999999999 (a * 100 + b)) = true then (a * 100 + b, true) else (0, false)
def lfp1 (a : Int) : Int × Bool := if (inB 0 999999999999 a) = true then (a, true) else (0, false)
set_option maxHeartbeats 1000000 in
theorem specLabel5 (v : Value) (a b c d : Int) (w : World) (h : IntS w v [a, b, c, d]) :
    Calls Try.prog 13 #[.int .i64 5, v] w fun e w' => e = .returned (.tuple #[.int .i64 (lfp5 a b c d).1, .bool (lfp5 a b c d).2]) ∧ Below w.heap.size w w' := by
  have hV := h
  obtain ⟨B, off, cp, rfl, hB, hcl⟩ := h.lit
  have c0 := hcl 0 a rfl
  have c1 := hcl 1 b rfl
  have c2 := hcl 2 c rfl
  have c3 := hcl 3 d rfl
  clear hcl h
  simp only [Nat.add_zero] at c0
  have HV := Lib.hid hV
  clear hV
  have hs3 : inB 1 5 5 = true := by decide
  cases t0 : inB 0 999999999999 a
  · skip
    have hr : lfp5 a b c d = (0, false) := by unfold lfp5; rw [if_neg]; have t := inB_neg.1 t0; simp only [Bool.and_eq_true, inB_iff] at *; omega
    rw [hr]
    clear hr
    go_enter Try.func13, Try.ntmps13
    go_wp2_with (first | (go_at_call 28; refine (plScheme_b _ _).mono ?_; rintro e w' ⟨rfl, rfl⟩) | (go_at_call 33; refine (plLabel_b _ _).mono ?_; rintro e w' ⟨rfl, rfl⟩) | (go_at_call 34; refine (l1In_b _ _ _ _).mono ?_; rintro e w' ⟨rfl, rfl⟩))
    refine (plRanges_any _ _).mono ?_
    rintro e w1 ⟨u1, rfl, ho1, hb1⟩
    obtain ⟨g1, cc1, rfl, hg1, hgg1, hcc1, hcl1⟩ := Own.lit (show Own w1 _ u1 (100 :: [10, 2]) from ho1)
    have r10 := hcl1 0 100 rfl
    have r11 := hcl1 1 10 rfl
    have r12 := hcl1 2 2 rfl
    clear hcl1
    have d10 := (hb1.cell (p := ⟨B, off, none⟩) hB).trans c0
    have d11 := (hb1.cell (p := ⟨B, off + 1, none⟩) hB).trans c1
    have d12 := (hb1.cell (p := ⟨B, off + 2, none⟩) hB).trans c2
    have d13 := (hb1.cell (p := ⟨B, off + 3, none⟩) hB).trans c3
    have Hb1 := Lib.hid hb1
    clear ho1 hb1
    go_wp2_with (first | (go_at_call 28; refine (plScheme_b _ _).mono ?_; rintro e w' ⟨rfl, rfl⟩) | (go_at_call 33; refine (plLabel_b _ _).mono ?_; rintro e w' ⟨rfl, rfl⟩) | (go_at_call 34; refine (l1In_b _ _ _ _).mono ?_; rintro e w' ⟨rfl, rfl⟩))
    go_ret2
    exact ⟨rfl, Hb1.out⟩
  · skip
    cases t1 : inB 0 99 b
    · skip
      have b0 := inB_iff.1 t0
      have hr : lfp5 a b c d = (0, false) := by unfold lfp5; rw [if_neg]; have t := inB_neg.1 t1; simp only [Bool.and_eq_true, inB_iff] at *; omega
      rw [hr]
      clear hr
      go_enter Try.func13, Try.ntmps13
      go_wp2_with (first | (go_at_call 28; refine (plScheme_b _ _).mono ?_; rintro e w' ⟨rfl, rfl⟩) | (go_at_call 33; refine (plLabel_b _ _).mono ?_; rintro e w' ⟨rfl, rfl⟩) | (go_at_call 34; refine (l1In_b _ _ _ _).mono ?_; rintro e w' ⟨rfl, rfl⟩))
      refine (plRanges_any _ _).mono ?_
      rintro e w1 ⟨u1, rfl, ho1, hb1⟩
      obtain ⟨g1, cc1, rfl, hg1, hgg1, hcc1, hcl1⟩ := Own.lit (show Own w1 _ u1 (100 :: [10, 2]) from ho1)
      have r10 := hcl1 0 100 rfl
      have r11 := hcl1 1 10 rfl
      have r12 := hcl1 2 2 rfl
      clear hcl1
      have d10 := (hb1.cell (p := ⟨B, off, none⟩) hB).trans c0
      have d11 := (hb1.cell (p := ⟨B, off + 1, none⟩) hB).trans c1
      have d12 := (hb1.cell (p := ⟨B, off + 2, none⟩) hB).trans c2
      have d13 := (hb1.cell (p := ⟨B, off + 3, none⟩) hB).trans c3
      have Hb1 := Lib.hid hb1
      clear ho1 hb1
      go_wp2_with (first | (go_at_call 28; refine (plScheme_b _ _).mono ?_; rintro e w' ⟨rfl, rfl⟩) | (go_at_call 33; refine (plLabel_b _ _).mono ?_; rintro e w' ⟨rfl, rfl⟩) | (go_at_call 34; refine (l1In_b _ _ _ _).mono ?_; rintro e w' ⟨rfl, rfl⟩))
      refine (plRanges_any _ _).mono ?_
      rintro e w2 ⟨u2, rfl, ho2, hb2⟩
      have hb3 := Hb1.out.trans (hb2.mono Hb1.out.size)
      obtain ⟨g2, cc2, rfl, hg2, hgg2, hcc2, hcl2⟩ := Own.lit (show Own w2 _ u2 (100 :: [10, 2]) from ho2)
      have r20 := hcl2 0 100 rfl
      have r21 := hcl2 1 10 rfl
      have r22 := hcl2 2 2 rfl
      clear hcl2
      have d20 := (hb3.cell (p := ⟨B, off, none⟩) hB).trans c0
      have d21 := (hb3.cell (p := ⟨B, off + 1, none⟩) hB).trans c1
      have d22 := (hb3.cell (p := ⟨B, off + 2, none⟩) hB).trans c2
      have d23 := (hb3.cell (p := ⟨B, off + 3, none⟩) hB).trans c3
      have Hb2 := Lib.hid hb3
      clear ho2 hb2 hb3
      go_wp2_with (first | (go_at_call 28; refine (plScheme_b _ _).mono ?_; rintro e w' ⟨rfl, rfl⟩) | (go_at_call 33; refine (plLabel_b _ _).mono ?_; rintro e w' ⟨rfl, rfl⟩) | (go_at_call 34; refine (l1In_b _ _ _ _).mono ?_; rintro e w' ⟨rfl, rfl⟩))
      refine wp_loop_rounds 4 ?_
      iterate 1
        rw [rounds_succ]
        go_wp2_with (first | (go_at_call 28; refine (plScheme_b _ _).mono ?_; rintro e w' ⟨rfl, rfl⟩) | (go_at_call 33; refine (plLabel_b _ _).mono ?_; rintro e w' ⟨rfl, rfl⟩) | (go_at_call 34; refine (l1In_b _ _ _ _).mono ?_; rintro e w' ⟨rfl, rfl⟩))
      go_ret2
      exact ⟨rfl, Hb2.out⟩
    · skip
      cases t2 : inB 0 9 c
      · skip
        have b0 := inB_iff.1 t0
        have b1 := inB_iff.1 t1
        have hr : lfp5 a b c d = (0, false) := by unfold lfp5; rw [if_neg]; have t := inB_neg.1 t2; simp only [Bool.and_eq_true, inB_iff] at *; omega
        rw [hr]
        clear hr
        go_enter Try.func13, Try.ntmps13
        go_wp2_with (first | (go_at_call 28; refine (plScheme_b _ _).mono ?_; rintro e w' ⟨rfl, rfl⟩) | (go_at_call 33; refine (plLabel_b _ _).mono ?_; rintro e w' ⟨rfl, rfl⟩) | (go_at_call 34; refine (l1In_b _ _ _ _).mono ?_; rintro e w' ⟨rfl, rfl⟩))
        refine (plRanges_any _ _).mono ?_
        rintro e w1 ⟨u1, rfl, ho1, hb1⟩
        obtain ⟨g1, cc1, rfl, hg1, hgg1, hcc1, hcl1⟩ := Own.lit (show Own w1 _ u1 (100 :: [10, 2]) from ho1)
        have r10 := hcl1 0 100 rfl
        have r11 := hcl1 1 10 rfl
        have r12 := hcl1 2 2 rfl
        clear hcl1
        have d10 := (hb1.cell (p := ⟨B, off, none⟩) hB).trans c0
        have d11 := (hb1.cell (p := ⟨B, off + 1, none⟩) hB).trans c1
        have d12 := (hb1.cell (p := ⟨B, off + 2, none⟩) hB).trans c2
        have d13 := (hb1.cell (p := ⟨B, off + 3, none⟩) hB).trans c3
        have Hb1 := Lib.hid hb1
        clear ho1 hb1
        go_wp2_with (first | (go_at_call 28; refine (plScheme_b _ _).mono ?_; rintro e w' ⟨rfl, rfl⟩) | (go_at_call 33; refine (plLabel_b _ _).mono ?_; rintro e w' ⟨rfl, rfl⟩) | (go_at_call 34; refine (l1In_b _ _ _ _).mono ?_; rintro e w' ⟨rfl, rfl⟩))
        refine (plRanges_any _ _).mono ?_
        rintro e w2 ⟨u2, rfl, ho2, hb2⟩
        have hb3 := Hb1.out.trans (hb2.mono Hb1.out.size)
        obtain ⟨g2, cc2, rfl, hg2, hgg2, hcc2, hcl2⟩ := Own.lit (show Own w2 _ u2 (100 :: [10, 2]) from ho2)
        have r20 := hcl2 0 100 rfl
        have r21 := hcl2 1 10 rfl
        have r22 := hcl2 2 2 rfl
        clear hcl2
        have d20 := (hb3.cell (p := ⟨B, off, none⟩) hB).trans c0
        have d21 := (hb3.cell (p := ⟨B, off + 1, none⟩) hB).trans c1
        have d22 := (hb3.cell (p := ⟨B, off + 2, none⟩) hB).trans c2
        have d23 := (hb3.cell (p := ⟨B, off + 3, none⟩) hB).trans c3
        have Hb2 := Lib.hid hb3
        clear ho2 hb2 hb3
        go_wp2_with (first | (go_at_call 28; refine (plScheme_b _ _).mono ?_; rintro e w' ⟨rfl, rfl⟩) | (go_at_call 33; refine (plLabel_b _ _).mono ?_; rintro e w' ⟨rfl, rfl⟩) | (go_at_call 34; refine (l1In_b _ _ _ _).mono ?_; rintro e w' ⟨rfl, rfl⟩))
        refine wp_loop_rounds 4 ?_
        iterate 2
          rw [rounds_succ]
          go_wp2_with (first | (go_at_call 28; refine (plScheme_b _ _).mono ?_; rintro e w' ⟨rfl, rfl⟩) | (go_at_call 33; refine (plLabel_b _ _).mono ?_; rintro e w' ⟨rfl, rfl⟩) | (go_at_call 34; refine (l1In_b _ _ _ _).mono ?_; rintro e w' ⟨rfl, rfl⟩))
        go_ret2
        exact ⟨rfl, Hb2.out⟩
      · skip
        cases t3 : inB 0 1 d
        · skip
          have b0 := inB_iff.1 t0
          have b1 := inB_iff.1 t1
          have b2 := inB_iff.1 t2
          have hr : lfp5 a b c d = (0, false) := by unfold lfp5; rw [if_neg]; have t := inB_neg.1 t3; simp only [Bool.and_eq_true, inB_iff] at *; omega
          rw [hr]
          clear hr
          go_enter Try.func13, Try.ntmps13
          go_wp2_with (first | (go_at_call 28; refine (plScheme_b _ _).mono ?_; rintro e w' ⟨rfl, rfl⟩) | (go_at_call 33; refine (plLabel_b _ _).mono ?_; rintro e w' ⟨rfl, rfl⟩) | (go_at_call 34; refine (l1In_b _ _ _ _).mono ?_; rintro e w' ⟨rfl, rfl⟩))
          refine (plRanges_any _ _).mono ?_
          rintro e w1 ⟨u1, rfl, ho1, hb1⟩
          obtain ⟨g1, cc1, rfl, hg1, hgg1, hcc1, hcl1⟩ := Own.lit (show Own w1 _ u1 (100 :: [10, 2]) from ho1)
          have r10 := hcl1 0 100 rfl
          have r11 := hcl1 1 10 rfl
          have r12 := hcl1 2 2 rfl
          clear hcl1
          have d10 := (hb1.cell (p := ⟨B, off, none⟩) hB).trans c0
          have d11 := (hb1.cell (p := ⟨B, off + 1, none⟩) hB).trans c1
          have d12 := (hb1.cell (p := ⟨B, off + 2, none⟩) hB).trans c2
          have d13 := (hb1.cell (p := ⟨B, off + 3, none⟩) hB).trans c3
          have Hb1 := Lib.hid hb1
          clear ho1 hb1
          go_wp2_with (first | (go_at_call 28; refine (plScheme_b _ _).mono ?_; rintro e w' ⟨rfl, rfl⟩) | (go_at_call 33; refine (plLabel_b _ _).mono ?_; rintro e w' ⟨rfl, rfl⟩) | (go_at_call 34; refine (l1In_b _ _ _ _).mono ?_; rintro e w' ⟨rfl, rfl⟩))
          refine (plRanges_any _ _).mono ?_
          rintro e w2 ⟨u2, rfl, ho2, hb2⟩
          have hb3 := Hb1.out.trans (hb2.mono Hb1.out.size)
          obtain ⟨g2, cc2, rfl, hg2, hgg2, hcc2, hcl2⟩ := Own.lit (show Own w2 _ u2 (100 :: [10, 2]) from ho2)
          have r20 := hcl2 0 100 rfl
          have r21 := hcl2 1 10 rfl
          have r22 := hcl2 2 2 rfl
          clear hcl2
          have d20 := (hb3.cell (p := ⟨B, off, none⟩) hB).trans c0
          have d21 := (hb3.cell (p := ⟨B, off + 1, none⟩) hB).trans c1
          have d22 := (hb3.cell (p := ⟨B, off + 2, none⟩) hB).trans c2
          have d23 := (hb3.cell (p := ⟨B, off + 3, none⟩) hB).trans c3
          have Hb2 := Lib.hid hb3
          clear ho2 hb2 hb3
          go_wp2_with (first | (go_at_call 28; refine (plScheme_b _ _).mono ?_; rintro e w' ⟨rfl, rfl⟩) | (go_at_call 33; refine (plLabel_b _ _).mono ?_; rintro e w' ⟨rfl, rfl⟩) | (go_at_call 34; refine (l1In_b _ _ _ _).mono ?_; rintro e w' ⟨rfl, rfl⟩))
          refine wp_loop_rounds 4 ?_
          iterate 3
            rw [rounds_succ]
            go_wp2_with (first | (go_at_call 28; refine (plScheme_b _ _).mono ?_; rintro e w' ⟨rfl, rfl⟩) | (go_at_call 33; refine (plLabel_b _ _).mono ?_; rintro e w' ⟨rfl, rfl⟩) | (go_at_call 34; refine (l1In_b _ _ _ _).mono ?_; rintro e w' ⟨rfl, rfl⟩))
          go_ret2
          exact ⟨rfl, Hb2.out⟩
        · skip
          cases t4 : inB 0 999999999999 (((a * 100 + b) * 10 + c) * 2 + d)
          · skip
            have b0 := inB_iff.1 t0
            have b1 := inB_iff.1 t1
            have b2 := inB_iff.1 t2
            have b3 := inB_iff.1 t3
            have hr : lfp5 a b c d = (0, false) := by unfold lfp5; rw [if_neg]; have t := inB_neg.1 t4; simp only [Bool.and_eq_true, inB_iff] at *; omega
            rw [hr]
            clear hr
            go_enter Try.func13, Try.ntmps13
            go_wp2_with (first | (go_at_call 28; refine (plScheme_b _ _).mono ?_; rintro e w' ⟨rfl, rfl⟩) | (go_at_call 33; refine (plLabel_b _ _).mono ?_; rintro e w' ⟨rfl, rfl⟩) | (go_at_call 34; refine (l1In_b _ _ _ _).mono ?_; rintro e w' ⟨rfl, rfl⟩))
            refine (plRanges_any _ _).mono ?_
            rintro e w1 ⟨u1, rfl, ho1, hb1⟩
            obtain ⟨g1, cc1, rfl, hg1, hgg1, hcc1, hcl1⟩ := Own.lit (show Own w1 _ u1 (100 :: [10, 2]) from ho1)
            have r10 := hcl1 0 100 rfl
            have r11 := hcl1 1 10 rfl
            have r12 := hcl1 2 2 rfl
            clear hcl1
            have d10 := (hb1.cell (p := ⟨B, off, none⟩) hB).trans c0
            have d11 := (hb1.cell (p := ⟨B, off + 1, none⟩) hB).trans c1
            have d12 := (hb1.cell (p := ⟨B, off + 2, none⟩) hB).trans c2
            have d13 := (hb1.cell (p := ⟨B, off + 3, none⟩) hB).trans c3
            have Hb1 := Lib.hid hb1
            clear ho1 hb1
            go_wp2_with (first | (go_at_call 28; refine (plScheme_b _ _).mono ?_; rintro e w' ⟨rfl, rfl⟩) | (go_at_call 33; refine (plLabel_b _ _).mono ?_; rintro e w' ⟨rfl, rfl⟩) | (go_at_call 34; refine (l1In_b _ _ _ _).mono ?_; rintro e w' ⟨rfl, rfl⟩))
            refine (plRanges_any _ _).mono ?_
            rintro e w2 ⟨u2, rfl, ho2, hb2⟩
            have hb3 := Hb1.out.trans (hb2.mono Hb1.out.size)
            obtain ⟨g2, cc2, rfl, hg2, hgg2, hcc2, hcl2⟩ := Own.lit (show Own w2 _ u2 (100 :: [10, 2]) from ho2)
            have r20 := hcl2 0 100 rfl
            have r21 := hcl2 1 10 rfl
            have r22 := hcl2 2 2 rfl
            clear hcl2
            have d20 := (hb3.cell (p := ⟨B, off, none⟩) hB).trans c0
            have d21 := (hb3.cell (p := ⟨B, off + 1, none⟩) hB).trans c1
            have d22 := (hb3.cell (p := ⟨B, off + 2, none⟩) hB).trans c2
            have d23 := (hb3.cell (p := ⟨B, off + 3, none⟩) hB).trans c3
            have Hb2 := Lib.hid hb3
            clear ho2 hb2 hb3
            go_wp2_with (first | (go_at_call 28; refine (plScheme_b _ _).mono ?_; rintro e w' ⟨rfl, rfl⟩) | (go_at_call 33; refine (plLabel_b _ _).mono ?_; rintro e w' ⟨rfl, rfl⟩) | (go_at_call 34; refine (l1In_b _ _ _ _).mono ?_; rintro e w' ⟨rfl, rfl⟩))
            refine wp_loop_rounds 4 ?_
            iterate 4
              rw [rounds_succ]
              go_wp2_with (first | (go_at_call 28; refine (plScheme_b _ _).mono ?_; rintro e w' ⟨rfl, rfl⟩) | (go_at_call 33; refine (plLabel_b _ _).mono ?_; rintro e w' ⟨rfl, rfl⟩) | (go_at_call 34; refine (l1In_b _ _ _ _).mono ?_; rintro e w' ⟨rfl, rfl⟩))
            refine (plJoin5 _ a b c d _ (HV.out.keep Hb2.out) (by omega) (by omega) (by omega) (by omega) (by omega) (by omega) (by omega) (by omega)).mono ?_
            rintro e w3 ⟨rfl, hb4⟩
            have Hb4 := Lib.hid hb4
            clear hb4
            go_wp2_with (first | (go_at_call 28; refine (plScheme_b _ _).mono ?_; rintro e w' ⟨rfl, rfl⟩) | (go_at_call 33; refine (plLabel_b _ _).mono ?_; rintro e w' ⟨rfl, rfl⟩) | (go_at_call 34; refine (l1In_b _ _ _ _).mono ?_; rintro e w' ⟨rfl, rfl⟩))
            go_ret2
            exact ⟨rfl, Hb2.out.trans (Hb4.out.mono Hb2.out.size)⟩
          · skip
            have b0 := inB_iff.1 t0
            have b1 := inB_iff.1 t1
            have b2 := inB_iff.1 t2
            have b3 := inB_iff.1 t3
            have b4 := inB_iff.1 t4
            have hr : lfp5 a b c d = (((a * 100 + b) * 10 + c) * 2 + d, true) := by unfold lfp5; rw [if_pos]; simp only [Bool.and_eq_true, inB_iff] at *; omega
            rw [hr]
            clear hr
            go_enter Try.func13, Try.ntmps13
            go_wp2_with (first | (go_at_call 28; refine (plScheme_b _ _).mono ?_; rintro e w' ⟨rfl, rfl⟩) | (go_at_call 33; refine (plLabel_b _ _).mono ?_; rintro e w' ⟨rfl, rfl⟩) | (go_at_call 34; refine (l1In_b _ _ _ _).mono ?_; rintro e w' ⟨rfl, rfl⟩))
            refine (plRanges_any _ _).mono ?_
            rintro e w1 ⟨u1, rfl, ho1, hb1⟩
            obtain ⟨g1, cc1, rfl, hg1, hgg1, hcc1, hcl1⟩ := Own.lit (show Own w1 _ u1 (100 :: [10, 2]) from ho1)
            have r10 := hcl1 0 100 rfl
            have r11 := hcl1 1 10 rfl
            have r12 := hcl1 2 2 rfl
            clear hcl1
            have d10 := (hb1.cell (p := ⟨B, off, none⟩) hB).trans c0
            have d11 := (hb1.cell (p := ⟨B, off + 1, none⟩) hB).trans c1
            have d12 := (hb1.cell (p := ⟨B, off + 2, none⟩) hB).trans c2
            have d13 := (hb1.cell (p := ⟨B, off + 3, none⟩) hB).trans c3
            have Hb1 := Lib.hid hb1
            clear ho1 hb1
            go_wp2_with (first | (go_at_call 28; refine (plScheme_b _ _).mono ?_; rintro e w' ⟨rfl, rfl⟩) | (go_at_call 33; refine (plLabel_b _ _).mono ?_; rintro e w' ⟨rfl, rfl⟩) | (go_at_call 34; refine (l1In_b _ _ _ _).mono ?_; rintro e w' ⟨rfl, rfl⟩))
            refine (plRanges_any _ _).mono ?_
            rintro e w2 ⟨u2, rfl, ho2, hb2⟩
            have hb3 := Hb1.out.trans (hb2.mono Hb1.out.size)
            obtain ⟨g2, cc2, rfl, hg2, hgg2, hcc2, hcl2⟩ := Own.lit (show Own w2 _ u2 (100 :: [10, 2]) from ho2)
            have r20 := hcl2 0 100 rfl
            have r21 := hcl2 1 10 rfl
            have r22 := hcl2 2 2 rfl
            clear hcl2
            have d20 := (hb3.cell (p := ⟨B, off, none⟩) hB).trans c0
            have d21 := (hb3.cell (p := ⟨B, off + 1, none⟩) hB).trans c1
            have d22 := (hb3.cell (p := ⟨B, off + 2, none⟩) hB).trans c2
            have d23 := (hb3.cell (p := ⟨B, off + 3, none⟩) hB).trans c3
            have Hb2 := Lib.hid hb3
            clear ho2 hb2 hb3
            go_wp2_with (first | (go_at_call 28; refine (plScheme_b _ _).mono ?_; rintro e w' ⟨rfl, rfl⟩) | (go_at_call 33; refine (plLabel_b _ _).mono ?_; rintro e w' ⟨rfl, rfl⟩) | (go_at_call 34; refine (l1In_b _ _ _ _).mono ?_; rintro e w' ⟨rfl, rfl⟩))
            refine wp_loop_rounds 4 ?_
            iterate 4
              rw [rounds_succ]
              go_wp2_with (first | (go_at_call 28; refine (plScheme_b _ _).mono ?_; rintro e w' ⟨rfl, rfl⟩) | (go_at_call 33; refine (plLabel_b _ _).mono ?_; rintro e w' ⟨rfl, rfl⟩) | (go_at_call 34; refine (l1In_b _ _ _ _).mono ?_; rintro e w' ⟨rfl, rfl⟩))
            refine (plJoin5 _ a b c d _ (HV.out.keep Hb2.out) (by omega) (by omega) (by omega) (by omega) (by omega) (by omega) (by omega) (by omega)).mono ?_
            rintro e w3 ⟨rfl, hb4⟩
            have Hb4 := Lib.hid hb4
            clear hb4
            go_wp2_with (first | (go_at_call 28; refine (plScheme_b _ _).mono ?_; rintro e w' ⟨rfl, rfl⟩) | (go_at_call 33; refine (plLabel_b _ _).mono ?_; rintro e w' ⟨rfl, rfl⟩) | (go_at_call 34; refine (l1In_b _ _ _ _).mono ?_; rintro e w' ⟨rfl, rfl⟩))
            go_ret2
            exact ⟨rfl, Hb2.out.trans (Hb4.out.mono Hb2.out.size)⟩
set_option maxHeartbeats 1000000 in
theorem specLabel4 (v : Value) (a b : Int) (w : World) (h : IntS w v [a, b]) :
    Calls Try.prog 13 #[.int .i64 4, v] w fun e w' => e = .returned (.tuple #[.int .i64 (lfp4 a b).1, .bool (lfp4 a b).2]) ∧ Below w.heap.size w w' := by
  have hV := h
  obtain ⟨B, off, cp, rfl, hB, hcl⟩ := h.lit
  have c0 := hcl 0 a rfl
  have c1 := hcl 1 b rfl
  clear hcl h
  simp only [Nat.add_zero] at c0
  have HV := Lib.hid hV
  clear hV
  have hs3 : inB 1 5 4 = true := by decide
  cases t0 : inB 0 999999999999 a
  · skip
    have hr : lfp4 a b = (0, false) := by unfold lfp4; rw [if_neg]; have t := inB_neg.1 t0; simp only [Bool.and_eq_true, inB_iff] at *; omega
    rw [hr]
    clear hr
    go_enter Try.func13, Try.ntmps13
    go_wp2_with (first | (go_at_call 28; refine (plScheme_b _ _).mono ?_; rintro e w' ⟨rfl, rfl⟩) | (go_at_call 33; refine (plLabel_b _ _).mono ?_; rintro e w' ⟨rfl, rfl⟩) | (go_at_call 34; refine (l1In_b _ _ _ _).mono ?_; rintro e w' ⟨rfl, rfl⟩))
    refine (plRanges_any _ _).mono ?_
    rintro e w1 ⟨u1, rfl, ho1, hb1⟩
    obtain ⟨g1, cc1, rfl, hg1, hgg1, hcc1, hcl1⟩ := Own.lit (show Own w1 _ u1 (100 :: []) from ho1)
    have r10 := hcl1 0 100 rfl
    clear hcl1
    have d10 := (hb1.cell (p := ⟨B, off, none⟩) hB).trans c0
    have d11 := (hb1.cell (p := ⟨B, off + 1, none⟩) hB).trans c1
    have Hb1 := Lib.hid hb1
    clear ho1 hb1
    go_wp2_with (first | (go_at_call 28; refine (plScheme_b _ _).mono ?_; rintro e w' ⟨rfl, rfl⟩) | (go_at_call 33; refine (plLabel_b _ _).mono ?_; rintro e w' ⟨rfl, rfl⟩) | (go_at_call 34; refine (l1In_b _ _ _ _).mono ?_; rintro e w' ⟨rfl, rfl⟩))
    go_ret2
    exact ⟨rfl, Hb1.out⟩
  · skip
    cases t1 : inB 0 99 b
    · skip
      have b0 := inB_iff.1 t0
      have hr : lfp4 a b = (0, false) := by unfold lfp4; rw [if_neg]; have t := inB_neg.1 t1; simp only [Bool.and_eq_true, inB_iff] at *; omega
      rw [hr]
      clear hr
      go_enter Try.func13, Try.ntmps13
      go_wp2_with (first | (go_at_call 28; refine (plScheme_b _ _).mono ?_; rintro e w' ⟨rfl, rfl⟩) | (go_at_call 33; refine (plLabel_b _ _).mono ?_; rintro e w' ⟨rfl, rfl⟩) | (go_at_call 34; refine (l1In_b _ _ _ _).mono ?_; rintro e w' ⟨rfl, rfl⟩))
      refine (plRanges_any _ _).mono ?_
      rintro e w1 ⟨u1, rfl, ho1, hb1⟩
      obtain ⟨g1, cc1, rfl, hg1, hgg1, hcc1, hcl1⟩ := Own.lit (show Own w1 _ u1 (100 :: []) from ho1)
      have r10 := hcl1 0 100 rfl
      clear hcl1
      have d10 := (hb1.cell (p := ⟨B, off, none⟩) hB).trans c0
      have d11 := (hb1.cell (p := ⟨B, off + 1, none⟩) hB).trans c1
      have Hb1 := Lib.hid hb1
      clear ho1 hb1
      go_wp2_with (first | (go_at_call 28; refine (plScheme_b _ _).mono ?_; rintro e w' ⟨rfl, rfl⟩) | (go_at_call 33; refine (plLabel_b _ _).mono ?_; rintro e w' ⟨rfl, rfl⟩) | (go_at_call 34; refine (l1In_b _ _ _ _).mono ?_; rintro e w' ⟨rfl, rfl⟩))
      refine (plRanges_any _ _).mono ?_
      rintro e w2 ⟨u2, rfl, ho2, hb2⟩
      have hb3 := Hb1.out.trans (hb2.mono Hb1.out.size)
      obtain ⟨g2, cc2, rfl, hg2, hgg2, hcc2, hcl2⟩ := Own.lit (show Own w2 _ u2 (100 :: []) from ho2)
      have r20 := hcl2 0 100 rfl
      clear hcl2
      have d20 := (hb3.cell (p := ⟨B, off, none⟩) hB).trans c0
      have d21 := (hb3.cell (p := ⟨B, off + 1, none⟩) hB).trans c1
      have Hb2 := Lib.hid hb3
      clear ho2 hb2 hb3
      go_wp2_with (first | (go_at_call 28; refine (plScheme_b _ _).mono ?_; rintro e w' ⟨rfl, rfl⟩) | (go_at_call 33; refine (plLabel_b _ _).mono ?_; rintro e w' ⟨rfl, rfl⟩) | (go_at_call 34; refine (l1In_b _ _ _ _).mono ?_; rintro e w' ⟨rfl, rfl⟩))
      refine wp_loop_rounds 2 ?_
      iterate 1
        rw [rounds_succ]
        go_wp2_with (first | (go_at_call 28; refine (plScheme_b _ _).mono ?_; rintro e w' ⟨rfl, rfl⟩) | (go_at_call 33; refine (plLabel_b _ _).mono ?_; rintro e w' ⟨rfl, rfl⟩) | (go_at_call 34; refine (l1In_b _ _ _ _).mono ?_; rintro e w' ⟨rfl, rfl⟩))
      go_ret2
      exact ⟨rfl, Hb2.out⟩
    · skip
      cases t2 : inB 0 999999999999 (a * 100 + b)
      · skip
        have b0 := inB_iff.1 t0
        have b1 := inB_iff.1 t1
        have hr : lfp4 a b = (0, false) := by unfold lfp4; rw [if_neg]; have t := inB_neg.1 t2; simp only [Bool.and_eq_true, inB_iff] at *; omega
        rw [hr]
        clear hr
        go_enter Try.func13, Try.ntmps13
        go_wp2_with (first | (go_at_call 28; refine (plScheme_b _ _).mono ?_; rintro e w' ⟨rfl, rfl⟩) | (go_at_call 33; refine (plLabel_b _ _).mono ?_; rintro e w' ⟨rfl, rfl⟩) | (go_at_call 34; refine (l1In_b _ _ _ _).mono ?_; rintro e w' ⟨rfl, rfl⟩))
        refine (plRanges_any _ _).mono ?_
        rintro e w1 ⟨u1, rfl, ho1, hb1⟩
        obtain ⟨g1, cc1, rfl, hg1, hgg1, hcc1, hcl1⟩ := Own.lit (show Own w1 _ u1 (100 :: []) from ho1)
        have r10 := hcl1 0 100 rfl
        clear hcl1
        have d10 := (hb1.cell (p := ⟨B, off, none⟩) hB).trans c0
        have d11 := (hb1.cell (p := ⟨B, off + 1, none⟩) hB).trans c1
        have Hb1 := Lib.hid hb1
        clear ho1 hb1
        go_wp2_with (first | (go_at_call 28; refine (plScheme_b _ _).mono ?_; rintro e w' ⟨rfl, rfl⟩) | (go_at_call 33; refine (plLabel_b _ _).mono ?_; rintro e w' ⟨rfl, rfl⟩) | (go_at_call 34; refine (l1In_b _ _ _ _).mono ?_; rintro e w' ⟨rfl, rfl⟩))
        refine (plRanges_any _ _).mono ?_
        rintro e w2 ⟨u2, rfl, ho2, hb2⟩
        have hb3 := Hb1.out.trans (hb2.mono Hb1.out.size)
        obtain ⟨g2, cc2, rfl, hg2, hgg2, hcc2, hcl2⟩ := Own.lit (show Own w2 _ u2 (100 :: []) from ho2)
        have r20 := hcl2 0 100 rfl
        clear hcl2
        have d20 := (hb3.cell (p := ⟨B, off, none⟩) hB).trans c0
        have d21 := (hb3.cell (p := ⟨B, off + 1, none⟩) hB).trans c1
        have Hb2 := Lib.hid hb3
        clear ho2 hb2 hb3
        go_wp2_with (first | (go_at_call 28; refine (plScheme_b _ _).mono ?_; rintro e w' ⟨rfl, rfl⟩) | (go_at_call 33; refine (plLabel_b _ _).mono ?_; rintro e w' ⟨rfl, rfl⟩) | (go_at_call 34; refine (l1In_b _ _ _ _).mono ?_; rintro e w' ⟨rfl, rfl⟩))
        refine wp_loop_rounds 2 ?_
        iterate 2
          rw [rounds_succ]
          go_wp2_with (first | (go_at_call 28; refine (plScheme_b _ _).mono ?_; rintro e w' ⟨rfl, rfl⟩) | (go_at_call 33; refine (plLabel_b _ _).mono ?_; rintro e w' ⟨rfl, rfl⟩) | (go_at_call 34; refine (l1In_b _ _ _ _).mono ?_; rintro e w' ⟨rfl, rfl⟩))
        refine (plJoin4 _ a b _ (HV.out.keep Hb2.out) (by omega) (by omega) (by omega) (by omega)).mono ?_
        rintro e w3 ⟨rfl, hb4⟩
        have Hb4 := Lib.hid hb4
        clear hb4
        go_wp2_with (first | (go_at_call 28; refine (plScheme_b _ _).mono ?_; rintro e w' ⟨rfl, rfl⟩) | (go_at_call 33; refine (plLabel_b _ _).mono ?_; rintro e w' ⟨rfl, rfl⟩) | (go_at_call 34; refine (l1In_b _ _ _ _).mono ?_; rintro e w' ⟨rfl, rfl⟩))
        go_ret2
        exact ⟨rfl, Hb2.out.trans (Hb4.out.mono Hb2.out.size)⟩
      · skip
        have b0 := inB_iff.1 t0
        have b1 := inB_iff.1 t1
        have b2 := inB_iff.1 t2
        have hr : lfp4 a b = (a * 100 + b, true) := by unfold lfp4; rw [if_pos]; simp only [Bool.and_eq_true, inB_iff] at *; omega
        rw [hr]
        clear hr
        go_enter Try.func13, Try.ntmps13
        go_wp2_with (first | (go_at_call 28; refine (plScheme_b _ _).mono ?_; rintro e w' ⟨rfl, rfl⟩) | (go_at_call 33; refine (plLabel_b _ _).mono ?_; rintro e w' ⟨rfl, rfl⟩) | (go_at_call 34; refine (l1In_b _ _ _ _).mono ?_; rintro e w' ⟨rfl, rfl⟩))
        refine (plRanges_any _ _).mono ?_
        rintro e w1 ⟨u1, rfl, ho1, hb1⟩
        obtain ⟨g1, cc1, rfl, hg1, hgg1, hcc1, hcl1⟩ := Own.lit (show Own w1 _ u1 (100 :: []) from ho1)
        have r10 := hcl1 0 100 rfl
        clear hcl1
        have d10 := (hb1.cell (p := ⟨B, off, none⟩) hB).trans c0
        have d11 := (hb1.cell (p := ⟨B, off + 1, none⟩) hB).trans c1
        have Hb1 := Lib.hid hb1
        clear ho1 hb1
        go_wp2_with (first | (go_at_call 28; refine (plScheme_b _ _).mono ?_; rintro e w' ⟨rfl, rfl⟩) | (go_at_call 33; refine (plLabel_b _ _).mono ?_; rintro e w' ⟨rfl, rfl⟩) | (go_at_call 34; refine (l1In_b _ _ _ _).mono ?_; rintro e w' ⟨rfl, rfl⟩))
        refine (plRanges_any _ _).mono ?_
        rintro e w2 ⟨u2, rfl, ho2, hb2⟩
        have hb3 := Hb1.out.trans (hb2.mono Hb1.out.size)
        obtain ⟨g2, cc2, rfl, hg2, hgg2, hcc2, hcl2⟩ := Own.lit (show Own w2 _ u2 (100 :: []) from ho2)
        have r20 := hcl2 0 100 rfl
        clear hcl2
        have d20 := (hb3.cell (p := ⟨B, off, none⟩) hB).trans c0
        have d21 := (hb3.cell (p := ⟨B, off + 1, none⟩) hB).trans c1
        have Hb2 := Lib.hid hb3
        clear ho2 hb2 hb3
        go_wp2_with (first | (go_at_call 28; refine (plScheme_b _ _).mono ?_; rintro e w' ⟨rfl, rfl⟩) | (go_at_call 33; refine (plLabel_b _ _).mono ?_; rintro e w' ⟨rfl, rfl⟩) | (go_at_call 34; refine (l1In_b _ _ _ _).mono ?_; rintro e w' ⟨rfl, rfl⟩))
        refine wp_loop_rounds 2 ?_
        iterate 2
          rw [rounds_succ]
          go_wp2_with (first | (go_at_call 28; refine (plScheme_b _ _).mono ?_; rintro e w' ⟨rfl, rfl⟩) | (go_at_call 33; refine (plLabel_b _ _).mono ?_; rintro e w' ⟨rfl, rfl⟩) | (go_at_call 34; refine (l1In_b _ _ _ _).mono ?_; rintro e w' ⟨rfl, rfl⟩))
        refine (plJoin4 _ a b _ (HV.out.keep Hb2.out) (by omega) (by omega) (by omega) (by omega)).mono ?_
        rintro e w3 ⟨rfl, hb4⟩
        have Hb4 := Lib.hid hb4
        clear hb4
        go_wp2_with (first | (go_at_call 28; refine (plScheme_b _ _).mono ?_; rintro e w' ⟨rfl, rfl⟩) | (go_at_call 33; refine (plLabel_b _ _).mono ?_; rintro e w' ⟨rfl, rfl⟩) | (go_at_call 34; refine (l1In_b _ _ _ _).mono ?_; rintro e w' ⟨rfl, rfl⟩))
        go_ret2
        exact ⟨rfl, Hb2.out.trans (Hb4.out.mono Hb2.out.size)⟩
set_option maxHeartbeats 1000000 in
theorem specLabel1 (v : Value) (a : Int) (s : Int) (hs : s ≠ 4) (hs2 : s ≠ 5) (hs3 : inB 1 5 s = true) (w : World) (h : IntS w v [a]) :
    Calls Try.prog 13 #[.int .i64 s, v] w fun e w' => e = .returned (.tuple #[.int .i64 (lfp1 a).1, .bool (lfp1 a).2]) ∧ Below w.heap.size w w' := by
  have hV := h
  obtain ⟨B, off, cp, rfl, hB, hcl⟩ := h.lit
  have c0 := hcl 0 a rfl
  clear hcl h
  simp only [Nat.add_zero] at c0
  have HV := Lib.hid hV
  clear hV
  cases t0 : inB 0 999999999999 a
  · skip
    have hr : lfp1 a = (0, false) := by unfold lfp1; rw [if_neg]; have t := inB_neg.1 t0; simp only [Bool.and_eq_true, inB_iff] at *; omega
    rw [hr]
    clear hr
    go_enter Try.func13, Try.ntmps13
    go_wp2_with (first | (go_at_call 28; refine (plScheme_b _ _).mono ?_; rintro e w' ⟨rfl, rfl⟩) | (go_at_call 33; refine (plLabel_b _ _).mono ?_; rintro e w' ⟨rfl, rfl⟩) | (go_at_call 34; refine (l1In_b _ _ _ _).mono ?_; rintro e w' ⟨rfl, rfl⟩))
    refine (plRanges_any _ _).mono ?_
    rintro e w1 ⟨u1, rfl, ho1, hb1⟩
    obtain ⟨A1, cc1, rfl⟩ := Own.lit0 (show Own w1 _ u1 [] by have := ho1; rwa [show rangesL s = [] by simp [rangesL, hs, hs2]] at this)
    have d10 := (hb1.cell (p := ⟨B, off, none⟩) hB).trans c0
    have Hb1 := Lib.hid hb1
    clear ho1 hb1
    go_wp2_with (first | (go_at_call 28; refine (plScheme_b _ _).mono ?_; rintro e w' ⟨rfl, rfl⟩) | (go_at_call 33; refine (plLabel_b _ _).mono ?_; rintro e w' ⟨rfl, rfl⟩) | (go_at_call 34; refine (l1In_b _ _ _ _).mono ?_; rintro e w' ⟨rfl, rfl⟩))
    go_ret2
    exact ⟨rfl, Hb1.out⟩
  · skip
    have b0 := inB_iff.1 t0
    have hr : lfp1 a = (a, true) := by unfold lfp1; rw [if_pos]; simp only [Bool.and_eq_true, inB_iff] at *; omega
    rw [hr]
    clear hr
    go_enter Try.func13, Try.ntmps13
    go_wp2_with (first | (go_at_call 28; refine (plScheme_b _ _).mono ?_; rintro e w' ⟨rfl, rfl⟩) | (go_at_call 33; refine (plLabel_b _ _).mono ?_; rintro e w' ⟨rfl, rfl⟩) | (go_at_call 34; refine (l1In_b _ _ _ _).mono ?_; rintro e w' ⟨rfl, rfl⟩))
    refine (plRanges_any _ _).mono ?_
    rintro e w1 ⟨u1, rfl, ho1, hb1⟩
    obtain ⟨A1, cc1, rfl⟩ := Own.lit0 (show Own w1 _ u1 [] by have := ho1; rwa [show rangesL s = [] by simp [rangesL, hs, hs2]] at this)
    have d10 := (hb1.cell (p := ⟨B, off, none⟩) hB).trans c0
    have Hb1 := Lib.hid hb1
    clear ho1 hb1
    go_wp2_with (first | (go_at_call 28; refine (plScheme_b _ _).mono ?_; rintro e w' ⟨rfl, rfl⟩) | (go_at_call 33; refine (plLabel_b _ _).mono ?_; rintro e w' ⟨rfl, rfl⟩) | (go_at_call 34; refine (l1In_b _ _ _ _).mono ?_; rintro e w' ⟨rfl, rfl⟩))
    refine (plRanges_any _ _).mono ?_
    rintro e w2 ⟨u2, rfl, ho2, hb2⟩
    have hb3 := Hb1.out.trans (hb2.mono Hb1.out.size)
    obtain ⟨A2, cc2, rfl⟩ := Own.lit0 (show Own w2 _ u2 [] by have := ho2; rwa [show rangesL s = [] by simp [rangesL, hs, hs2]] at this)
    have d20 := (hb3.cell (p := ⟨B, off, none⟩) hB).trans c0
    have Hb2 := Lib.hid hb3
    clear ho2 hb2 hb3
    go_wp2_with (first | (go_at_call 28; refine (plScheme_b _ _).mono ?_; rintro e w' ⟨rfl, rfl⟩) | (go_at_call 33; refine (plLabel_b _ _).mono ?_; rintro e w' ⟨rfl, rfl⟩) | (go_at_call 34; refine (l1In_b _ _ _ _).mono ?_; rintro e w' ⟨rfl, rfl⟩))
    refine wp_loop_rounds 1 ?_
    iterate 1
      rw [rounds_succ]
      go_wp2_with (first | (go_at_call 28; refine (plScheme_b _ _).mono ?_; rintro e w' ⟨rfl, rfl⟩) | (go_at_call 33; refine (plLabel_b _ _).mono ?_; rintro e w' ⟨rfl, rfl⟩) | (go_at_call 34; refine (l1In_b _ _ _ _).mono ?_; rintro e w' ⟨rfl, rfl⟩))
    refine (plJoin1 _ a s hs hs2 _ (HV.out.keep Hb2.out) (by omega) (by omega)).mono ?_
    rintro e w3 ⟨rfl, hb4⟩
    have Hb4 := Lib.hid hb4
    clear hb4
    go_wp2_with (first | (go_at_call 28; refine (plScheme_b _ _).mono ?_; rintro e w' ⟨rfl, rfl⟩) | (go_at_call 33; refine (plLabel_b _ _).mono ?_; rintro e w' ⟨rfl, rfl⟩) | (go_at_call 34; refine (l1In_b _ _ _ _).mono ?_; rintro e w' ⟨rfl, rfl⟩))
    go_ret2
    exact ⟨rfl, Hb2.out.trans (Hb4.out.mono Hb2.out.size)⟩
end Go.Proofs.Ytdmadigjdlbhiaa
