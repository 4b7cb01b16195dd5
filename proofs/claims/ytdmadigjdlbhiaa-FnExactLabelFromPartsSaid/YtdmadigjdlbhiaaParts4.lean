import Derived.Test.YtdmadigjdlbhiaaParts3
namespace Go.Proofs.Ytdmadigjdlbhiaa
open Go.RowKit
set_option maxHeartbeats 1000000 in
theorem implLabel5 (v : Value) (a b c d : Int) (w : World) (h : IntS w v [a, b, c, d]) :
    Calls Try.prog 15 #[.int .i64 5, v] w fun e w' => e = .returned (.tuple #[.int .i64 (lfp5 a b c d).1, .bool (lfp5 a b c d).2]) ∧ Below w.heap.size w w' := by
  have hV := h
  obtain ⟨B, off, cp, rfl, hB, hcl⟩ := h.lit
  have c0 := hcl 0 a rfl
  have c1 := hcl 1 b rfl
  have c2 := hcl 2 c rfl
  have c3 := hcl 3 d rfl
  clear hcl h
  simp only [Nat.add_zero] at c0
  have HV := Lib.hid hV
  clear hV
  have hs3 : inB 1 5 5 = true := by decide
  cases t0 : inB 0 999999999999 a
  · skip
    have hr : lfp5 a b c d = (0, false) := by unfold lfp5; rw [if_neg]; have t := inB_neg.1 t0; simp only [Bool.and_eq_true, inB_iff] at *; omega
    rw [hr]
    clear hr
    go_enter Try.func15, Try.ntmps15
    go_wp2_with (first | (go_at_call 29; refine (isScheme_b _ _).mono ?_; rintro e w' ⟨rfl, rfl⟩) | (go_at_call 37; refine (isProofLabel_b _ _).mono ?_; rintro e w' ⟨rfl, rfl⟩) | (go_at_call 38; refine (within_b _ _ _ _).mono ?_; rintro e w' ⟨rfl, rfl⟩))
    refine (rangesOf_any _ _).mono ?_
    rintro e w1 ⟨u1, rfl, ho1, hb1⟩
    obtain ⟨g1, cc1, rfl, hg1, hgg1, hcc1, hcl1⟩ := Own.lit (show Own w1 _ u1 (100 :: [10, 2]) from ho1)
    have r10 := hcl1 0 100 rfl
    have r11 := hcl1 1 10 rfl
    have r12 := hcl1 2 2 rfl
    clear hcl1
    have d10 := (hb1.cell (p := ⟨B, off, none⟩) hB).trans c0
    have d11 := (hb1.cell (p := ⟨B, off + 1, none⟩) hB).trans c1
    have d12 := (hb1.cell (p := ⟨B, off + 2, none⟩) hB).trans c2
    have d13 := (hb1.cell (p := ⟨B, off + 3, none⟩) hB).trans c3
    have Hb1 := Lib.hid hb1
    clear ho1 hb1
    go_wp2_with (first | (go_at_call 29; refine (isScheme_b _ _).mono ?_; rintro e w' ⟨rfl, rfl⟩) | (go_at_call 37; refine (isProofLabel_b _ _).mono ?_; rintro e w' ⟨rfl, rfl⟩) | (go_at_call 38; refine (within_b _ _ _ _).mono ?_; rintro e w' ⟨rfl, rfl⟩))
    go_ret2
    exact ⟨rfl, Hb1.out⟩
  · skip
    cases t1 : inB 0 99 b
    · skip
      have b0 := inB_iff.1 t0
      have hr : lfp5 a b c d = (0, false) := by unfold lfp5; rw [if_neg]; have t := inB_neg.1 t1; simp only [Bool.and_eq_true, inB_iff] at *; omega
      rw [hr]
      clear hr
      go_enter Try.func15, Try.ntmps15
      go_wp2_with (first | (go_at_call 29; refine (isScheme_b _ _).mono ?_; rintro e w' ⟨rfl, rfl⟩) | (go_at_call 37; refine (isProofLabel_b _ _).mono ?_; rintro e w' ⟨rfl, rfl⟩) | (go_at_call 38; refine (within_b _ _ _ _).mono ?_; rintro e w' ⟨rfl, rfl⟩))
      refine (rangesOf_any _ _).mono ?_
      rintro e w1 ⟨u1, rfl, ho1, hb1⟩
      obtain ⟨g1, cc1, rfl, hg1, hgg1, hcc1, hcl1⟩ := Own.lit (show Own w1 _ u1 (100 :: [10, 2]) from ho1)
      have r10 := hcl1 0 100 rfl
      have r11 := hcl1 1 10 rfl
      have r12 := hcl1 2 2 rfl
      clear hcl1
      have d10 := (hb1.cell (p := ⟨B, off, none⟩) hB).trans c0
      have d11 := (hb1.cell (p := ⟨B, off + 1, none⟩) hB).trans c1
      have d12 := (hb1.cell (p := ⟨B, off + 2, none⟩) hB).trans c2
      have d13 := (hb1.cell (p := ⟨B, off + 3, none⟩) hB).trans c3
      have Hb1 := Lib.hid hb1
      clear ho1 hb1
      go_wp2_with (first | (go_at_call 29; refine (isScheme_b _ _).mono ?_; rintro e w' ⟨rfl, rfl⟩) | (go_at_call 37; refine (isProofLabel_b _ _).mono ?_; rintro e w' ⟨rfl, rfl⟩) | (go_at_call 38; refine (within_b _ _ _ _).mono ?_; rintro e w' ⟨rfl, rfl⟩))
      refine wp_loop_rounds 4 ?_
      iterate 1
        rw [rounds_succ]
        go_wp2_with (first | (go_at_call 29; refine (isScheme_b _ _).mono ?_; rintro e w' ⟨rfl, rfl⟩) | (go_at_call 37; refine (isProofLabel_b _ _).mono ?_; rintro e w' ⟨rfl, rfl⟩) | (go_at_call 38; refine (within_b _ _ _ _).mono ?_; rintro e w' ⟨rfl, rfl⟩))
      go_ret2
      exact ⟨rfl, Hb1.out⟩
    · skip
      cases t2 : inB 0 999999999999 (a * 100 + b)
      · skip
        have b0 := inB_iff.1 t0
        have b1 := inB_iff.1 t1
        have hr : lfp5 a b c d = (0, false) := by unfold lfp5; rw [if_neg]; have t := inB_neg.1 t2; simp only [Bool.and_eq_true, inB_iff] at *; omega
        rw [hr]
        clear hr
        go_enter Try.func15, Try.ntmps15
        go_wp2_with (first | (go_at_call 29; refine (isScheme_b _ _).mono ?_; rintro e w' ⟨rfl, rfl⟩) | (go_at_call 37; refine (isProofLabel_b _ _).mono ?_; rintro e w' ⟨rfl, rfl⟩) | (go_at_call 38; refine (within_b _ _ _ _).mono ?_; rintro e w' ⟨rfl, rfl⟩))
        refine (rangesOf_any _ _).mono ?_
        rintro e w1 ⟨u1, rfl, ho1, hb1⟩
        obtain ⟨g1, cc1, rfl, hg1, hgg1, hcc1, hcl1⟩ := Own.lit (show Own w1 _ u1 (100 :: [10, 2]) from ho1)
        have r10 := hcl1 0 100 rfl
        have r11 := hcl1 1 10 rfl
        have r12 := hcl1 2 2 rfl
        clear hcl1
        have d10 := (hb1.cell (p := ⟨B, off, none⟩) hB).trans c0
        have d11 := (hb1.cell (p := ⟨B, off + 1, none⟩) hB).trans c1
        have d12 := (hb1.cell (p := ⟨B, off + 2, none⟩) hB).trans c2
        have d13 := (hb1.cell (p := ⟨B, off + 3, none⟩) hB).trans c3
        have Hb1 := Lib.hid hb1
        clear ho1 hb1
        go_wp2_with (first | (go_at_call 29; refine (isScheme_b _ _).mono ?_; rintro e w' ⟨rfl, rfl⟩) | (go_at_call 37; refine (isProofLabel_b _ _).mono ?_; rintro e w' ⟨rfl, rfl⟩) | (go_at_call 38; refine (within_b _ _ _ _).mono ?_; rintro e w' ⟨rfl, rfl⟩))
        refine wp_loop_rounds 4 ?_
        iterate 1
          rw [rounds_succ]
          go_wp2_with (first | (go_at_call 29; refine (isScheme_b _ _).mono ?_; rintro e w' ⟨rfl, rfl⟩) | (go_at_call 37; refine (isProofLabel_b _ _).mono ?_; rintro e w' ⟨rfl, rfl⟩) | (go_at_call 38; refine (within_b _ _ _ _).mono ?_; rintro e w' ⟨rfl, rfl⟩))
        go_ret2
        exact ⟨rfl, Hb1.out⟩
      · skip
        cases t3 : inB 0 9 c
        · skip
          have b0 := inB_iff.1 t0
          have b1 := inB_iff.1 t1
          have b2 := inB_iff.1 t2
          have hr : lfp5 a b c d = (0, false) := by unfold lfp5; rw [if_neg]; have t := inB_neg.1 t3; simp only [Bool.and_eq_true, inB_iff] at *; omega
          rw [hr]
          clear hr
          go_enter Try.func15, Try.ntmps15
          go_wp2_with (first | (go_at_call 29; refine (isScheme_b _ _).mono ?_; rintro e w' ⟨rfl, rfl⟩) | (go_at_call 37; refine (isProofLabel_b _ _).mono ?_; rintro e w' ⟨rfl, rfl⟩) | (go_at_call 38; refine (within_b _ _ _ _).mono ?_; rintro e w' ⟨rfl, rfl⟩))
          refine (rangesOf_any _ _).mono ?_
          rintro e w1 ⟨u1, rfl, ho1, hb1⟩
          obtain ⟨g1, cc1, rfl, hg1, hgg1, hcc1, hcl1⟩ := Own.lit (show Own w1 _ u1 (100 :: [10, 2]) from ho1)
          have r10 := hcl1 0 100 rfl
          have r11 := hcl1 1 10 rfl
          have r12 := hcl1 2 2 rfl
          clear hcl1
          have d10 := (hb1.cell (p := ⟨B, off, none⟩) hB).trans c0
          have d11 := (hb1.cell (p := ⟨B, off + 1, none⟩) hB).trans c1
          have d12 := (hb1.cell (p := ⟨B, off + 2, none⟩) hB).trans c2
          have d13 := (hb1.cell (p := ⟨B, off + 3, none⟩) hB).trans c3
          have Hb1 := Lib.hid hb1
          clear ho1 hb1
          go_wp2_with (first | (go_at_call 29; refine (isScheme_b _ _).mono ?_; rintro e w' ⟨rfl, rfl⟩) | (go_at_call 37; refine (isProofLabel_b _ _).mono ?_; rintro e w' ⟨rfl, rfl⟩) | (go_at_call 38; refine (within_b _ _ _ _).mono ?_; rintro e w' ⟨rfl, rfl⟩))
          refine wp_loop_rounds 4 ?_
          iterate 2
            rw [rounds_succ]
            go_wp2_with (first | (go_at_call 29; refine (isScheme_b _ _).mono ?_; rintro e w' ⟨rfl, rfl⟩) | (go_at_call 37; refine (isProofLabel_b _ _).mono ?_; rintro e w' ⟨rfl, rfl⟩) | (go_at_call 38; refine (within_b _ _ _ _).mono ?_; rintro e w' ⟨rfl, rfl⟩))
          go_ret2
          exact ⟨rfl, Hb1.out⟩
        · skip
          cases t4 : inB 0 999999999999 ((a * 100 + b) * 10 + c)
          · skip
            have b0 := inB_iff.1 t0
            have b1 := inB_iff.1 t1
            have b2 := inB_iff.1 t2
            have b3 := inB_iff.1 t3
            have hr : lfp5 a b c d = (0, false) := by unfold lfp5; rw [if_neg]; have t := inB_neg.1 t4; simp only [Bool.and_eq_true, inB_iff] at *; omega
            rw [hr]
            clear hr
            go_enter Try.func15, Try.ntmps15
            go_wp2_with (first | (go_at_call 29; refine (isScheme_b _ _).mono ?_; rintro e w' ⟨rfl, rfl⟩) | (go_at_call 37; refine (isProofLabel_b _ _).mono ?_; rintro e w' ⟨rfl, rfl⟩) | (go_at_call 38; refine (within_b _ _ _ _).mono ?_; rintro e w' ⟨rfl, rfl⟩))
            refine (rangesOf_any _ _).mono ?_
            rintro e w1 ⟨u1, rfl, ho1, hb1⟩
            obtain ⟨g1, cc1, rfl, hg1, hgg1, hcc1, hcl1⟩ := Own.lit (show Own w1 _ u1 (100 :: [10, 2]) from ho1)
            have r10 := hcl1 0 100 rfl
            have r11 := hcl1 1 10 rfl
            have r12 := hcl1 2 2 rfl
            clear hcl1
            have d10 := (hb1.cell (p := ⟨B, off, none⟩) hB).trans c0
            have d11 := (hb1.cell (p := ⟨B, off + 1, none⟩) hB).trans c1
            have d12 := (hb1.cell (p := ⟨B, off + 2, none⟩) hB).trans c2
            have d13 := (hb1.cell (p := ⟨B, off + 3, none⟩) hB).trans c3
            have Hb1 := Lib.hid hb1
            clear ho1 hb1
            go_wp2_with (first | (go_at_call 29; refine (isScheme_b _ _).mono ?_; rintro e w' ⟨rfl, rfl⟩) | (go_at_call 37; refine (isProofLabel_b _ _).mono ?_; rintro e w' ⟨rfl, rfl⟩) | (go_at_call 38; refine (within_b _ _ _ _).mono ?_; rintro e w' ⟨rfl, rfl⟩))
            refine wp_loop_rounds 4 ?_
            iterate 2
              rw [rounds_succ]
              go_wp2_with (first | (go_at_call 29; refine (isScheme_b _ _).mono ?_; rintro e w' ⟨rfl, rfl⟩) | (go_at_call 37; refine (isProofLabel_b _ _).mono ?_; rintro e w' ⟨rfl, rfl⟩) | (go_at_call 38; refine (within_b _ _ _ _).mono ?_; rintro e w' ⟨rfl, rfl⟩))
            go_ret2
            exact ⟨rfl, Hb1.out⟩
          · skip
            cases t5 : inB 0 1 d
            · skip
              have b0 := inB_iff.1 t0
              have b1 := inB_iff.1 t1
              have b2 := inB_iff.1 t2
              have b3 := inB_iff.1 t3
              have b4 := inB_iff.1 t4
              have hr : lfp5 a b c d = (0, false) := by unfold lfp5; rw [if_neg]; have t := inB_neg.1 t5; simp only [Bool.and_eq_true, inB_iff] at *; omega
              rw [hr]
              clear hr
              go_enter Try.func15, Try.ntmps15
              go_wp2_with (first | (go_at_call 29; refine (isScheme_b _ _).mono ?_; rintro e w' ⟨rfl, rfl⟩) | (go_at_call 37; refine (isProofLabel_b _ _).mono ?_; rintro e w' ⟨rfl, rfl⟩) | (go_at_call 38; refine (within_b _ _ _ _).mono ?_; rintro e w' ⟨rfl, rfl⟩))
              refine (rangesOf_any _ _).mono ?_
              rintro e w1 ⟨u1, rfl, ho1, hb1⟩
              obtain ⟨g1, cc1, rfl, hg1, hgg1, hcc1, hcl1⟩ := Own.lit (show Own w1 _ u1 (100 :: [10, 2]) from ho1)
              have r10 := hcl1 0 100 rfl
              have r11 := hcl1 1 10 rfl
              have r12 := hcl1 2 2 rfl
              clear hcl1
              have d10 := (hb1.cell (p := ⟨B, off, none⟩) hB).trans c0
              have d11 := (hb1.cell (p := ⟨B, off + 1, none⟩) hB).trans c1
              have d12 := (hb1.cell (p := ⟨B, off + 2, none⟩) hB).trans c2
              have d13 := (hb1.cell (p := ⟨B, off + 3, none⟩) hB).trans c3
              have Hb1 := Lib.hid hb1
              clear ho1 hb1
              go_wp2_with (first | (go_at_call 29; refine (isScheme_b _ _).mono ?_; rintro e w' ⟨rfl, rfl⟩) | (go_at_call 37; refine (isProofLabel_b _ _).mono ?_; rintro e w' ⟨rfl, rfl⟩) | (go_at_call 38; refine (within_b _ _ _ _).mono ?_; rintro e w' ⟨rfl, rfl⟩))
              refine wp_loop_rounds 4 ?_
              iterate 3
                rw [rounds_succ]
                go_wp2_with (first | (go_at_call 29; refine (isScheme_b _ _).mono ?_; rintro e w' ⟨rfl, rfl⟩) | (go_at_call 37; refine (isProofLabel_b _ _).mono ?_; rintro e w' ⟨rfl, rfl⟩) | (go_at_call 38; refine (within_b _ _ _ _).mono ?_; rintro e w' ⟨rfl, rfl⟩))
              go_ret2
              exact ⟨rfl, Hb1.out⟩
            · skip
              cases t6 : inB 0 999999999999 (((a * 100 + b) * 10 + c) * 2 + d)
              · skip
                have b0 := inB_iff.1 t0
                have b1 := inB_iff.1 t1
                have b2 := inB_iff.1 t2
                have b3 := inB_iff.1 t3
                have b4 := inB_iff.1 t4
                have b5 := inB_iff.1 t5
                have hr : lfp5 a b c d = (0, false) := by unfold lfp5; rw [if_neg]; have t := inB_neg.1 t6; simp only [Bool.and_eq_true, inB_iff] at *; omega
                rw [hr]
                clear hr
                go_enter Try.func15, Try.ntmps15
                go_wp2_with (first | (go_at_call 29; refine (isScheme_b _ _).mono ?_; rintro e w' ⟨rfl, rfl⟩) | (go_at_call 37; refine (isProofLabel_b _ _).mono ?_; rintro e w' ⟨rfl, rfl⟩) | (go_at_call 38; refine (within_b _ _ _ _).mono ?_; rintro e w' ⟨rfl, rfl⟩))
                refine (rangesOf_any _ _).mono ?_
                rintro e w1 ⟨u1, rfl, ho1, hb1⟩
                obtain ⟨g1, cc1, rfl, hg1, hgg1, hcc1, hcl1⟩ := Own.lit (show Own w1 _ u1 (100 :: [10, 2]) from ho1)
                have r10 := hcl1 0 100 rfl
                have r11 := hcl1 1 10 rfl
                have r12 := hcl1 2 2 rfl
                clear hcl1
                have d10 := (hb1.cell (p := ⟨B, off, none⟩) hB).trans c0
                have d11 := (hb1.cell (p := ⟨B, off + 1, none⟩) hB).trans c1
                have d12 := (hb1.cell (p := ⟨B, off + 2, none⟩) hB).trans c2
                have d13 := (hb1.cell (p := ⟨B, off + 3, none⟩) hB).trans c3
                have Hb1 := Lib.hid hb1
                clear ho1 hb1
                go_wp2_with (first | (go_at_call 29; refine (isScheme_b _ _).mono ?_; rintro e w' ⟨rfl, rfl⟩) | (go_at_call 37; refine (isProofLabel_b _ _).mono ?_; rintro e w' ⟨rfl, rfl⟩) | (go_at_call 38; refine (within_b _ _ _ _).mono ?_; rintro e w' ⟨rfl, rfl⟩))
                refine wp_loop_rounds 4 ?_
                iterate 3
                  rw [rounds_succ]
                  go_wp2_with (first | (go_at_call 29; refine (isScheme_b _ _).mono ?_; rintro e w' ⟨rfl, rfl⟩) | (go_at_call 37; refine (isProofLabel_b _ _).mono ?_; rintro e w' ⟨rfl, rfl⟩) | (go_at_call 38; refine (within_b _ _ _ _).mono ?_; rintro e w' ⟨rfl, rfl⟩))
                go_ret2
                exact ⟨rfl, Hb1.out⟩
              · skip
                have b0 := inB_iff.1 t0
                have b1 := inB_iff.1 t1
                have b2 := inB_iff.1 t2
                have b3 := inB_iff.1 t3
                have b4 := inB_iff.1 t4
                have b5 := inB_iff.1 t5
                have b6 := inB_iff.1 t6
                have hr : lfp5 a b c d = (((a * 100 + b) * 10 + c) * 2 + d, true) := by unfold lfp5; rw [if_pos]; simp only [Bool.and_eq_true, inB_iff] at *; omega
                rw [hr]
                clear hr
                go_enter Try.func15, Try.ntmps15
                go_wp2_with (first | (go_at_call 29; refine (isScheme_b _ _).mono ?_; rintro e w' ⟨rfl, rfl⟩) | (go_at_call 37; refine (isProofLabel_b _ _).mono ?_; rintro e w' ⟨rfl, rfl⟩) | (go_at_call 38; refine (within_b _ _ _ _).mono ?_; rintro e w' ⟨rfl, rfl⟩))
                refine (rangesOf_any _ _).mono ?_
                rintro e w1 ⟨u1, rfl, ho1, hb1⟩
                obtain ⟨g1, cc1, rfl, hg1, hgg1, hcc1, hcl1⟩ := Own.lit (show Own w1 _ u1 (100 :: [10, 2]) from ho1)
                have r10 := hcl1 0 100 rfl
                have r11 := hcl1 1 10 rfl
                have r12 := hcl1 2 2 rfl
                clear hcl1
                have d10 := (hb1.cell (p := ⟨B, off, none⟩) hB).trans c0
                have d11 := (hb1.cell (p := ⟨B, off + 1, none⟩) hB).trans c1
                have d12 := (hb1.cell (p := ⟨B, off + 2, none⟩) hB).trans c2
                have d13 := (hb1.cell (p := ⟨B, off + 3, none⟩) hB).trans c3
                have Hb1 := Lib.hid hb1
                clear ho1 hb1
                go_wp2_with (first | (go_at_call 29; refine (isScheme_b _ _).mono ?_; rintro e w' ⟨rfl, rfl⟩) | (go_at_call 37; refine (isProofLabel_b _ _).mono ?_; rintro e w' ⟨rfl, rfl⟩) | (go_at_call 38; refine (within_b _ _ _ _).mono ?_; rintro e w' ⟨rfl, rfl⟩))
                refine wp_loop_rounds 4 ?_
                iterate 4
                  rw [rounds_succ]
                  go_wp2_with (first | (go_at_call 29; refine (isScheme_b _ _).mono ?_; rintro e w' ⟨rfl, rfl⟩) | (go_at_call 37; refine (isProofLabel_b _ _).mono ?_; rintro e w' ⟨rfl, rfl⟩) | (go_at_call 38; refine (within_b _ _ _ _).mono ?_; rintro e w' ⟨rfl, rfl⟩))
                go_ret2
                exact ⟨rfl, Hb1.out⟩
set_option maxHeartbeats 1000000 in
theorem implLabel4 (v : Value) (a b : Int) (w : World) (h : IntS w v [a, b]) :
    Calls Try.prog 15 #[.int .i64 4, v] w fun e w' => e = .returned (.tuple #[.int .i64 (lfp4 a b).1, .bool (lfp4 a b).2]) ∧ Below w.heap.size w w' := by
  have hV := h
  obtain ⟨B, off, cp, rfl, hB, hcl⟩ := h.lit
  have c0 := hcl 0 a rfl
  have c1 := hcl 1 b rfl
  clear hcl h
  simp only [Nat.add_zero] at c0
  have HV := Lib.hid hV
  clear hV
  have hs3 : inB 1 5 4 = true := by decide
  cases t0 : inB 0 999999999999 a
  · skip
    have hr : lfp4 a b = (0, false) := by unfold lfp4; rw [if_neg]; have t := inB_neg.1 t0; simp only [Bool.and_eq_true, inB_iff] at *; omega
    rw [hr]
    clear hr
    go_enter Try.func15, Try.ntmps15
    go_wp2_with (first | (go_at_call 29; refine (isScheme_b _ _).mono ?_; rintro e w' ⟨rfl, rfl⟩) | (go_at_call 37; refine (isProofLabel_b _ _).mono ?_; rintro e w' ⟨rfl, rfl⟩) | (go_at_call 38; refine (within_b _ _ _ _).mono ?_; rintro e w' ⟨rfl, rfl⟩))
    refine (rangesOf_any _ _).mono ?_
    rintro e w1 ⟨u1, rfl, ho1, hb1⟩
    obtain ⟨g1, cc1, rfl, hg1, hgg1, hcc1, hcl1⟩ := Own.lit (show Own w1 _ u1 (100 :: []) from ho1)
    have r10 := hcl1 0 100 rfl
    clear hcl1
    have d10 := (hb1.cell (p := ⟨B, off, none⟩) hB).trans c0
    have d11 := (hb1.cell (p := ⟨B, off + 1, none⟩) hB).trans c1
    have Hb1 := Lib.hid hb1
    clear ho1 hb1
    go_wp2_with (first | (go_at_call 29; refine (isScheme_b _ _).mono ?_; rintro e w' ⟨rfl, rfl⟩) | (go_at_call 37; refine (isProofLabel_b _ _).mono ?_; rintro e w' ⟨rfl, rfl⟩) | (go_at_call 38; refine (within_b _ _ _ _).mono ?_; rintro e w' ⟨rfl, rfl⟩))
    go_ret2
    exact ⟨rfl, Hb1.out⟩
  · skip
    cases t1 : inB 0 99 b
    · skip
      have b0 := inB_iff.1 t0
      have hr : lfp4 a b = (0, false) := by unfold lfp4; rw [if_neg]; have t := inB_neg.1 t1; simp only [Bool.and_eq_true, inB_iff] at *; omega
      rw [hr]
      clear hr
      go_enter Try.func15, Try.ntmps15
      go_wp2_with (first | (go_at_call 29; refine (isScheme_b _ _).mono ?_; rintro e w' ⟨rfl, rfl⟩) | (go_at_call 37; refine (isProofLabel_b _ _).mono ?_; rintro e w' ⟨rfl, rfl⟩) | (go_at_call 38; refine (within_b _ _ _ _).mono ?_; rintro e w' ⟨rfl, rfl⟩))
      refine (rangesOf_any _ _).mono ?_
      rintro e w1 ⟨u1, rfl, ho1, hb1⟩
      obtain ⟨g1, cc1, rfl, hg1, hgg1, hcc1, hcl1⟩ := Own.lit (show Own w1 _ u1 (100 :: []) from ho1)
      have r10 := hcl1 0 100 rfl
      clear hcl1
      have d10 := (hb1.cell (p := ⟨B, off, none⟩) hB).trans c0
      have d11 := (hb1.cell (p := ⟨B, off + 1, none⟩) hB).trans c1
      have Hb1 := Lib.hid hb1
      clear ho1 hb1
      go_wp2_with (first | (go_at_call 29; refine (isScheme_b _ _).mono ?_; rintro e w' ⟨rfl, rfl⟩) | (go_at_call 37; refine (isProofLabel_b _ _).mono ?_; rintro e w' ⟨rfl, rfl⟩) | (go_at_call 38; refine (within_b _ _ _ _).mono ?_; rintro e w' ⟨rfl, rfl⟩))
      refine wp_loop_rounds 2 ?_
      iterate 1
        rw [rounds_succ]
        go_wp2_with (first | (go_at_call 29; refine (isScheme_b _ _).mono ?_; rintro e w' ⟨rfl, rfl⟩) | (go_at_call 37; refine (isProofLabel_b _ _).mono ?_; rintro e w' ⟨rfl, rfl⟩) | (go_at_call 38; refine (within_b _ _ _ _).mono ?_; rintro e w' ⟨rfl, rfl⟩))
      go_ret2
      exact ⟨rfl, Hb1.out⟩
    · skip
      cases t2 : inB 0 999999999999 (a * 100 + b)
      · skip
        have b0 := inB_iff.1 t0
        have b1 := inB_iff.1 t1
        have hr : lfp4 a b = (0, false) := by unfold lfp4; rw [if_neg]; have t := inB_neg.1 t2; simp only [Bool.and_eq_true, inB_iff] at *; omega
        rw [hr]
        clear hr
        go_enter Try.func15, Try.ntmps15
        go_wp2_with (first | (go_at_call 29; refine (isScheme_b _ _).mono ?_; rintro e w' ⟨rfl, rfl⟩) | (go_at_call 37; refine (isProofLabel_b _ _).mono ?_; rintro e w' ⟨rfl, rfl⟩) | (go_at_call 38; refine (within_b _ _ _ _).mono ?_; rintro e w' ⟨rfl, rfl⟩))
        refine (rangesOf_any _ _).mono ?_
        rintro e w1 ⟨u1, rfl, ho1, hb1⟩
        obtain ⟨g1, cc1, rfl, hg1, hgg1, hcc1, hcl1⟩ := Own.lit (show Own w1 _ u1 (100 :: []) from ho1)
        have r10 := hcl1 0 100 rfl
        clear hcl1
        have d10 := (hb1.cell (p := ⟨B, off, none⟩) hB).trans c0
        have d11 := (hb1.cell (p := ⟨B, off + 1, none⟩) hB).trans c1
        have Hb1 := Lib.hid hb1
        clear ho1 hb1
        go_wp2_with (first | (go_at_call 29; refine (isScheme_b _ _).mono ?_; rintro e w' ⟨rfl, rfl⟩) | (go_at_call 37; refine (isProofLabel_b _ _).mono ?_; rintro e w' ⟨rfl, rfl⟩) | (go_at_call 38; refine (within_b _ _ _ _).mono ?_; rintro e w' ⟨rfl, rfl⟩))
        refine wp_loop_rounds 2 ?_
        iterate 1
          rw [rounds_succ]
          go_wp2_with (first | (go_at_call 29; refine (isScheme_b _ _).mono ?_; rintro e w' ⟨rfl, rfl⟩) | (go_at_call 37; refine (isProofLabel_b _ _).mono ?_; rintro e w' ⟨rfl, rfl⟩) | (go_at_call 38; refine (within_b _ _ _ _).mono ?_; rintro e w' ⟨rfl, rfl⟩))
        go_ret2
        exact ⟨rfl, Hb1.out⟩
      · skip
        have b0 := inB_iff.1 t0
        have b1 := inB_iff.1 t1
        have b2 := inB_iff.1 t2
        have hr : lfp4 a b = (a * 100 + b, true) := by unfold lfp4; rw [if_pos]; simp only [Bool.and_eq_true, inB_iff] at *; omega
        rw [hr]
        clear hr
        go_enter Try.func15, Try.ntmps15
        go_wp2_with (first | (go_at_call 29; refine (isScheme_b _ _).mono ?_; rintro e w' ⟨rfl, rfl⟩) | (go_at_call 37; refine (isProofLabel_b _ _).mono ?_; rintro e w' ⟨rfl, rfl⟩) | (go_at_call 38; refine (within_b _ _ _ _).mono ?_; rintro e w' ⟨rfl, rfl⟩))
        refine (rangesOf_any _ _).mono ?_
        rintro e w1 ⟨u1, rfl, ho1, hb1⟩
        obtain ⟨g1, cc1, rfl, hg1, hgg1, hcc1, hcl1⟩ := Own.lit (show Own w1 _ u1 (100 :: []) from ho1)
        have r10 := hcl1 0 100 rfl
        clear hcl1
        have d10 := (hb1.cell (p := ⟨B, off, none⟩) hB).trans c0
        have d11 := (hb1.cell (p := ⟨B, off + 1, none⟩) hB).trans c1
        have Hb1 := Lib.hid hb1
        clear ho1 hb1
        go_wp2_with (first | (go_at_call 29; refine (isScheme_b _ _).mono ?_; rintro e w' ⟨rfl, rfl⟩) | (go_at_call 37; refine (isProofLabel_b _ _).mono ?_; rintro e w' ⟨rfl, rfl⟩) | (go_at_call 38; refine (within_b _ _ _ _).mono ?_; rintro e w' ⟨rfl, rfl⟩))
        refine wp_loop_rounds 2 ?_
        iterate 2
          rw [rounds_succ]
          go_wp2_with (first | (go_at_call 29; refine (isScheme_b _ _).mono ?_; rintro e w' ⟨rfl, rfl⟩) | (go_at_call 37; refine (isProofLabel_b _ _).mono ?_; rintro e w' ⟨rfl, rfl⟩) | (go_at_call 38; refine (within_b _ _ _ _).mono ?_; rintro e w' ⟨rfl, rfl⟩))
        go_ret2
        exact ⟨rfl, Hb1.out⟩
set_option maxHeartbeats 1000000 in
theorem implLabel1 (v : Value) (a : Int) (s : Int) (hs : s ≠ 4) (hs2 : s ≠ 5) (hs3 : inB 1 5 s = true) (w : World) (h : IntS w v [a]) :
    Calls Try.prog 15 #[.int .i64 s, v] w fun e w' => e = .returned (.tuple #[.int .i64 (lfp1 a).1, .bool (lfp1 a).2]) ∧ Below w.heap.size w w' := by
  have hV := h
  obtain ⟨B, off, cp, rfl, hB, hcl⟩ := h.lit
  have c0 := hcl 0 a rfl
  clear hcl h
  simp only [Nat.add_zero] at c0
  have HV := Lib.hid hV
  clear hV
  cases t0 : inB 0 999999999999 a
  · skip
    have hr : lfp1 a = (0, false) := by unfold lfp1; rw [if_neg]; have t := inB_neg.1 t0; simp only [Bool.and_eq_true, inB_iff] at *; omega
    rw [hr]
    clear hr
    go_enter Try.func15, Try.ntmps15
    go_wp2_with (first | (go_at_call 29; refine (isScheme_b _ _).mono ?_; rintro e w' ⟨rfl, rfl⟩) | (go_at_call 37; refine (isProofLabel_b _ _).mono ?_; rintro e w' ⟨rfl, rfl⟩) | (go_at_call 38; refine (within_b _ _ _ _).mono ?_; rintro e w' ⟨rfl, rfl⟩))
    refine (rangesOf_any _ _).mono ?_
    rintro e w1 ⟨u1, rfl, ho1, hb1⟩
    obtain ⟨A1, cc1, rfl⟩ := Own.lit0 (show Own w1 _ u1 [] by have := ho1; rwa [show rangesL s = [] by simp [rangesL, hs, hs2]] at this)
    have d10 := (hb1.cell (p := ⟨B, off, none⟩) hB).trans c0
    have Hb1 := Lib.hid hb1
    clear ho1 hb1
    go_wp2_with (first | (go_at_call 29; refine (isScheme_b _ _).mono ?_; rintro e w' ⟨rfl, rfl⟩) | (go_at_call 37; refine (isProofLabel_b _ _).mono ?_; rintro e w' ⟨rfl, rfl⟩) | (go_at_call 38; refine (within_b _ _ _ _).mono ?_; rintro e w' ⟨rfl, rfl⟩))
    go_ret2
    exact ⟨rfl, Hb1.out⟩
  · skip
    have b0 := inB_iff.1 t0
    have hr : lfp1 a = (a, true) := by unfold lfp1; rw [if_pos]; simp only [Bool.and_eq_true, inB_iff] at *; omega
    rw [hr]
    clear hr
    go_enter Try.func15, Try.ntmps15
    go_wp2_with (first | (go_at_call 29; refine (isScheme_b _ _).mono ?_; rintro e w' ⟨rfl, rfl⟩) | (go_at_call 37; refine (isProofLabel_b _ _).mono ?_; rintro e w' ⟨rfl, rfl⟩) | (go_at_call 38; refine (within_b _ _ _ _).mono ?_; rintro e w' ⟨rfl, rfl⟩))
    refine (rangesOf_any _ _).mono ?_
    rintro e w1 ⟨u1, rfl, ho1, hb1⟩
    obtain ⟨A1, cc1, rfl⟩ := Own.lit0 (show Own w1 _ u1 [] by have := ho1; rwa [show rangesL s = [] by simp [rangesL, hs, hs2]] at this)
    have d10 := (hb1.cell (p := ⟨B, off, none⟩) hB).trans c0
    have Hb1 := Lib.hid hb1
    clear ho1 hb1
    go_wp2_with (first | (go_at_call 29; refine (isScheme_b _ _).mono ?_; rintro e w' ⟨rfl, rfl⟩) | (go_at_call 37; refine (isProofLabel_b _ _).mono ?_; rintro e w' ⟨rfl, rfl⟩) | (go_at_call 38; refine (within_b _ _ _ _).mono ?_; rintro e w' ⟨rfl, rfl⟩))
    refine wp_loop_rounds 1 ?_
    iterate 1
      rw [rounds_succ]
      go_wp2_with (first | (go_at_call 29; refine (isScheme_b _ _).mono ?_; rintro e w' ⟨rfl, rfl⟩) | (go_at_call 37; refine (isProofLabel_b _ _).mono ?_; rintro e w' ⟨rfl, rfl⟩) | (go_at_call 38; refine (within_b _ _ _ _).mono ?_; rintro e w' ⟨rfl, rfl⟩))
    go_ret2
    exact ⟨rfl, Hb1.out⟩
end Go.Proofs.Ytdmadigjdlbhiaa
