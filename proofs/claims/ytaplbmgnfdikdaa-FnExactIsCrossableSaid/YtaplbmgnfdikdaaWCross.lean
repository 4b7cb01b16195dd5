import Derived.Test.YtaplbmgnfdikdaaLawKit
import Derived.Test.YtaplbmgnfdikdaaCross5
namespace Go.Proofs.Ytaplbmgnfdikdaa
open Go.RowKit
set_option maxHeartbeats 8000000 in
theorem fnExactIsCrossable_walk (w : World) (ve vi vn : Value) (n : Net) (ni : NetIn w ve vi vn n) (_ : Net64 n) (vl : Value) (ls : List Int) (il : IntS w vl ls) (_ : I64s ls) (v : Int) (_ : -9223372036854775808 ≤ v ∧ v ≤ 9223372036854775807) (i : Int) (_ : -9223372036854775808 ≤ i ∧ i ≤ 9223372036854775807)
    (x : Int) (_ : -9223372036854775808 ≤ x ∧ x ≤ 9223372036854775807) (j : Int) (_ : -9223372036854775808 ≤ j ∧ j ≤ 9223372036854775807) :
    Calls Try.prog 3 #[.agg #[ve, vi, vn], vl, .int .i64 v, .int .i64 i, .int .i64 x, .int .i64 j] w fun e w' => e = .returned (.bool true) ∧ Below w.heap.size w w' := by
  obtain ⟨w0, hw0⟩ : ∃ w0, w0 = (w).alloc (.cells #[ve, vi, vn] 25) := ⟨_, rfl⟩
  have hb0 : Below w.heap.size w w0 := by rw [hw0]; exact ((Below.refl _ _).alloc (by simp) _)
  have H := Lib.hid (ni.keep hb0)
  obtain ⟨h1, h2, h3⟩ := ni.keep hb0
  obtain ⟨A, c, rfl, hlc, hm, hA⟩ := h1
  obtain ⟨A2, c2, rfl, _, hm2, _⟩ := h2
  obtain ⟨A3, c3, rfl, _, hm3, _⟩ := h3
  unfold maxLen at hm hm2 hm3
  have p00 : ∀ W, Since w0 W → W.cell? ⟨w.heap.size, 0, none⟩ = some (.slice A n.ends.length c) := have_cell (by rw [hw0]; simp)
  have p01 : ∀ W, Since w0 W → W.cell? ⟨w.heap.size, 1, none⟩ = some (.slice A2 n.ids.length c2) := have_cell (by rw [hw0]; simp)
  have p02 : ∀ W, Since w0 W → W.cell? ⟨w.heap.size, 2, none⟩ = some (.slice A3 n.inputs.length c3) := have_cell (by rw [hw0]; simp)
  have Hb0 := Lib.hid hb0
  have Hw0 := Lib.hid hw0
  have HA := Lib.hid hA
  clear hA ni
  clear hb0 hw0
  have HL := Lib.hid (il.keep Hb0.out)
  obtain ⟨AL, cL, rfl, hlL, hmL, _⟩ := il
  unfold maxLen at hmL
  obtain ⟨c0, c1, hc⟩ : ∃ c0 c1 : Bool, crossRes n ls v i x j = .tuple #[.bool c0, .bool c1] := ⟨_, _, rfl⟩
  have Hc := Lib.hid hc
  clear hc
  by_cases hbig : ls.length ≤ 1048576
  · go_enter Try.func3, Try.ntmps3
    go_upto_region 1 with (fail)
    rw [← Hw0.out]
    have hs0 : Since w0 w0 := since_refl _
    go_wp2_with fail
    by_cases hsz : szNet n ≤ 1048576
    · obtain ⟨q, hq, hq0⟩ := left_ok hsz
      refine (szNetwork_any _ _ _ n _ (by omega) (by omega) _ H.out).mono ?_
      rw [hq]
      rintro e W1 ⟨rfl, hb1⟩
      have hs1 : Since w0 W1 := hb1
      clear hb1 hs0 hq
      go_wp2_with fail
      refine (toNetwork_any _ _ _ n _ (H.out.keep hs1.below) hsz).mono ?_
      rintro e W2 ⟨ve2, vi2, vn2, S2, rfl, ho2, hb2⟩
      have HN2 := Lib.hid ho2.read
      obtain ⟨B1, d1, rfl, _⟩ := id ho2.read.1
      obtain ⟨B2, d2, rfl, _⟩ := id ho2.read.2.1
      obtain ⟨B3, d3, rfl, _⟩ := id ho2.read.2.2
      have hs2 : Since w0 W2 := hs1.trans hb2
      clear hb2 ho2 hs1
      go_wp2_with fail
      refine (toIntS_any _ ls _ (HL.out.keep hs2.below) (by omega)).mono ?_
      rintro e W3 ⟨u3, rfl, ho3, hb3⟩
      have HI3 := Lib.hid ho3.ints
      have HN3 := Lib.hid (HN2.out.keep hb3)
      obtain ⟨B4, d4, rfl, _⟩ := id ho3.ints
      have hs3 : Since w0 W3 := hs2.trans hb3
      clear hb3 ho3 hs2 HN2
      go_wp2_with fail
      refine (specIsCrossable_any _ _ _ _ n ls v i x j _ HN3.out HI3.out).mono ?_
      rw [Hc.out]
      rintro e W4 ⟨rfl, hb4⟩
      have hs4 : Since w0 W4 := hs3.trans hb4
      clear hb4 hs3 HN3 HI3
      go_wp2_with fail
      refine (toNetwork_any _ _ _ n _ (H.out.keep hs4.below) hsz).mono ?_
      rintro e W5 ⟨ve2, vi2, vn2, S2, rfl, ho2, hb2⟩
      have hn5 := ho2.read
      obtain ⟨C1, f1, rfl, _⟩ := id ho2.read.1
      obtain ⟨C2, f2, rfl, _⟩ := id ho2.read.2.1
      obtain ⟨C3, f3, rfl, _⟩ := id ho2.read.2.2
      have hs5 : Since w0 W5 := hs4.trans hb2
      clear hb2 ho2 hs4
      go_wp2_with fail
      obtain ⟨w6, hw6⟩ : ∃ w6, w6 = W5.alloc (.cells #[.slice C1 n.ends.length f1, .slice C2 n.ids.length f2, .slice C3 n.inputs.length f3] 31) := ⟨_, rfl⟩
      rw [← hw6]
      have hs56 : Since W5 w6 := by rw [hw6]; exact since_alloc _ (since_refl _)
      have hs6 : Since w0 w6 := hs5.after hs56
      have x0 : ∀ X, Since w6 X → X.cell? ⟨W5.heap.size, 0, none⟩ = some (.slice C1 n.ends.length f1) := have_cell (by rw [hw6]; simp)
      have x1 : ∀ X, Since w6 X → X.cell? ⟨W5.heap.size, 1, none⟩ = some (.slice C2 n.ids.length f2) := have_cell (by rw [hw6]; simp)
      have x2 : ∀ X, Since w6 X → X.cell? ⟨W5.heap.size, 2, none⟩ = some (.slice C3 n.inputs.length f3) := have_cell (by rw [hw6]; simp)
      have HX := Lib.hid (show ∀ X, Since w6 X → NetIn X (.slice C1 n.ends.length f1) (.slice C2 n.ids.length f2) (.slice C3 n.inputs.length f3) n from fun X hX => hn5.keep (hs56.after hX).below)
      have q0 := lift_cell p00 hs6
      have q1 := lift_cell p01 hs6
      have q2 := lift_cell p02 hs6
      have HA6 := Lib.hid (show ∀ X, Since w6 X → NetIn X (.slice A n.ends.length c) (.slice A2 n.ids.length c2) (.slice A3 n.inputs.length c3) n from fun X hX => H.out.keep (hs6.after hX).below)
      have HL6 := Lib.hid (show ∀ X, Since w6 X → IntS X (.slice AL ls.length cL) ls from fun X hX => HL.out.keep (hs6.after hX).below)
      have Hs6 := Lib.hid hs6
      have hs : Since w6 w6 := since_refl _
      clear hw6 hs56 hs6 hs5 hn5 p00 p01 p02
      refine (toIntS_any _ ls _ (HL6.out _ hs) (by omega)).mono ?_
      rintro e W7 ⟨u7, rfl, ho7, hb7⟩
      have hs7 : Since w6 W7 := hs.trans hb7
      have HI7 := Lib.hid (show ∀ X, Since W7 X → IntS X u7 ls from fun X hX => ho7.ints.keep hX.below)
      obtain ⟨B7, d7, rfl, _⟩ := id ho7.ints
      clear hb7 ho7 hs
      go_wp2_with fail
      refine (implIsCrossable_any _ _ _ _ n ls v i x j _ (HX.out _ hs7) (HI7.out _ (since_refl _)) (szNet_ids hsz)).mono ?_
      rw [Hc.out]
      rintro e W8 ⟨rfl, hb8⟩
      have hs8 : Since w6 W8 := hs7.trans hb8
      have h78 : Since W7 W8 := hb8
      clear hb8 hs7
      go_upto_region 13 with (fail)
      have r0 := lift_cell x0 hs8
      have r1 := lift_cell x1 hs8
      have r2 := lift_cell x2 hs8
      have g0 := lift_cell q0 hs8
      have g1 := lift_cell q1 hs8
      have g2 := lift_cell q2 hs8
      have Hs8 := Lib.hid hs8
      have H78 := Lib.hid h78
      clear x0 x1 x2 q0 q1 q2 hs8 h78
      refine wp_region_one (w0 := W8) 2 rfl (fun W u => ∃ a b c, u = .agg #[a, b, c] ∧ NetIn W a b c n) (fun W W' u h hs => by obtain ⟨a, b, c, rfl, h⟩ := h; exact ⟨a, b, c, rfl, h.keep hs⟩) (by kernel_rfl) (by kernel_rfl) (by kernel_rfl) (by simp) (since_refl _) ?_
      simp only [List.take_succ_cons, List.take_zero, List.drop_succ_cons, List.drop_zero]
      refine pflow_val (v := ?_) rfl ?_ ?_; rotate_left; (intro W hW; go_simp; with_reducible rfl)
      simp only [Act.put, List.setIfInBounds_toArray, List.set_cons_succ, List.set_cons_zero]
      refine pflow_val (v := ?_) rfl ?_ ?_; rotate_left; (intro W hW; go_simp; with_reducible rfl)
      simp only [Act.put, List.setIfInBounds_toArray, List.set_cons_succ, List.set_cons_zero]
      refine ⟨⟨rfl, fun W hW => ?_⟩, fun u => ?_⟩
      · unfold GivesAny
        go_simp
        refine (toNetwork_any _ _ _ n W ((fun W hW => HA6.out W (Hs8.out.after hW)) W hW) hsz).mono ?_
        rintro e W' ⟨a, b, c, S, rfl, ho, hb⟩
        exact ⟨_, rfl, ⟨a, b, c, rfl, ho.read⟩, hb⟩
      simp only [Act.put, List.setIfInBounds_toArray, List.set_cons_succ, List.set_cons_zero]
      refine flow_op (.bool true) rfl (fun W hW => ?_) ?_
      · have hS := hW.1
        have hR := Lib.hid hW.2
        clear hW
        unfold Gives
        go_simp
        obtain ⟨a, b, c, hu, hN⟩ := hR.out
        rw [hu]
        refine (eqNetwork_same _ _ _ _ _ _ n W ((fun W hW => HX.out W (Hs8.out.after hW)) W hS) hN).mono ?_
        rintro e W' ⟨rfl, hb⟩
        exact ⟨rfl, hS.trans hb, a, b, c, rfl, hN.keep hb⟩
      simp only [Act.put, List.setIfInBounds_toArray, List.set_cons_succ, List.set_cons_zero]
      refine flow_val (v := .bool false) rfl (fun W hW => by go_simp) ?_
      simp only [Act.put, List.setIfInBounds_toArray, List.set_cons_succ, List.set_cons_zero]
      intro W9 hW9 _
      have Hs9 := Lib.hid (Hs8.out.after hW9)
      have H79 := Lib.hid (H78.out.after hW9)
      clear hW9
      go_wp2_with fail
      refine (toIntS_any _ ls _ (HL6.out _ Hs9.out) (by omega)).mono ?_
      rintro e W10 ⟨u10, rfl, ho10, hb10⟩
      have HI10 := Lib.hid ho10.ints
      obtain ⟨B10, d10, rfl, _⟩ := id ho10.ints
      have Hs10 := Lib.hid (Hs9.out.trans hb10)
      have H710 := Lib.hid (H79.out.trans hb10)
      clear hb10 ho10
      go_wp2_with fail
      refine (eqIntS_same _ _ ls _ (HI7.out _ H710.out) HI10.out).mono ?_
      rintro e W11 ⟨rfl, hb11⟩
      have Hs11 := Lib.hid (Hs10.out.trans hb11)
      clear hb11
      go_wp2_with fail
      go_ret
      exact ⟨rfl, Since.after Hb0.out (Hs6.out.after Hs11.out)⟩
    · refine (szNetwork_any _ _ _ n _ (by omega) (by omega) _ H.out).mono ?_
      rw [left_bad hsz]
      rintro e W1 ⟨rfl, hb1⟩
      have HS := Lib.hid (Since.after Hb0.out hb1)
      clear hb1 hs0
      go_wp2_with fail
      go_ret
      exact ⟨rfl, HS.out⟩
  · go_enter Try.func3, Try.ntmps3
    go_wp2_with fail
    rw [← Hw0.out]
    go_ret
    exact ⟨rfl, Hb0.out⟩
end Go.Proofs.Ytaplbmgnfdikdaa
