import Derived.Test.YtaplbmgnfdikdaaVer7
namespace Go.Proofs.Ytaplbmgnfdikdaa
open Go.RowKit
def accAt (n : Net) (s : Int) (ls : List Int) (k : Nat) : Bool := accB n s ls (ls.getD k 0) (n.ids.getD k 0) (n.inputs.getD k 0) (n.ends.getD k [])
/-- what a node of good labels has -/
theorem acc_at {n : Net} {s : Int} {ls : List Int} (h : labOk n s ls = true) {k : Nat} (hk : k < n.ends.length) :
    ∃ es l idk ink, 1 ≤ s ∧ s ≤ 5 ∧ n.ends[k]? = some es ∧ es.length ≤ 6 ∧ (∀ e ∈ es, 0 ≤ e.1 ∧ e.1 < ls.length) ∧ (∀ x ∈ ls, 0 ≤ x ∧ x ≤ 999999999999) ∧ ls[k]? = some l ∧ (n.ids.length ≠ 0 → n.ids[k]? = some idk) ∧ n.inputs[k]? = some ink ∧ accAt n s ls k = accB n s ls l idk ink es := by
  unfold labOk at h
  simp only [Bool.and_eq_true, beq_iff_eq] at h
  obtain ⟨⟨⟨h1, h2⟩, h3⟩, h4⟩ := h
  have hs := inB_iff.1 h2
  have hl : ls.length = n.ends.length := by omega
  obtain ⟨es, hes⟩ := getx n.ends k hk
  obtain ⟨l, hl'⟩ := getx ls k (by omega)
  obtain ⟨r1, r2⟩ := netOk_row h1 hes
  unfold allB' at h4
  rw [List.all_eq_true] at h4
  have ha : ∀ x ∈ ls, 0 ≤ x ∧ x ≤ 999999999999 := fun x hx => inB_iff.1 (h4 x hx)
  unfold netOk at h1
  simp only [Bool.and_eq_true] at h1
  obtain ⟨⟨⟨-, i1⟩, i2⟩, -⟩ := h1
  unfold inputsB at i2
  simp only [Bool.and_eq_true, beq_iff_eq] at i2
  obtain ⟨ink, hink⟩ := getx n.inputs k (by omega)
  have hids : n.ids.length ≠ 0 → n.ids[k]? = some (n.ids.getD k 0) := fun h0 => by
    unfold idsB at i1
    simp only [Bool.or_eq_true, Bool.and_eq_true, beq_iff_eq] at i1
    have : n.ids.length = n.ends.length := by
      rcases i1 with e | ⟨e, -⟩
      · exact absurd (by simpa using e) h0
      · omega
    have hk' : k < n.ids.length := by omega
    rw [List.getD_eq_getElem?_getD, List.getElem?_eq_getElem hk']; rfl
  exact ⟨es, l, _, ink, hs.1, hs.2, hes, r1, fun e he => by rw [hl]; exact r2 e he, ha, hl', hids, hink, by simp [accAt, hes, hl', hink]⟩
theorem labOk_net {n : Net} {s : Int} {ls : List Int} (h : labOk n s ls = true) : netOk n = true ∧ ls.length = n.ends.length ∧ n.ends.length ≤ 40 := by
  unfold labOk at h
  simp only [Bool.and_eq_true, beq_iff_eq] at h
  exact ⟨h.1.1.1, by have := h.1.2; omega, (netOk_len h.1.1.1).2⟩
def fnExactVerifyAt_r1 (n : Net) (s : Int) (ls : List Int) (v : Int) : Bool := labOk n s ls && inB 0 ((n.ends.length : Int) - 1) v
def fnExactVerifyAt_r0 (n : Net) (s : Int) (ls : List Int) (v : Int) : Bool := fnExactVerifyAt_r1 n s ls v && accAt n s ls v.toNat
def nodeB (ess : List (List (Int × Int))) (v : Int) : Bool := inB 0 ((ess.length : Int) - 1) v
theorem hasNode_b (ve vi vn : Value) (ess : List (List (Int × Int))) (v : Int) (w : World) (h : EndSS w ve ess) :
    Calls Try.prog 83 #[.agg #[ve, vi, vn], .int .i64 v] w fun e w' => e = .returned (.bool (nodeB ess v)) ∧ Below w.heap.size w w' := hasNode_any ve vi vn ess v w h
theorem tup2 {a b c d : Bool} (h1 : a = b) (h2 : c = d) : Ending.returned (.tuple #[.bool a, .bool c]) = .returned (.tuple #[.bool b, .bool d]) := by rw [h1, h2]
set_option maxRecDepth 100000 in
set_option maxHeartbeats 8000000 in
theorem fnExactVerifyAt_spec (ve vi vn : Value) (n : Net) (s : Int) (vl : Value) (ls : List Int) (v : Int) (w : World) (h : NetIn w ve vi vn n) (_ : -9223372036854775808 ≤ s ∧ s ≤ 9223372036854775807) (hl : IntS w vl ls) (_ : -9223372036854775808 ≤ v ∧ v ≤ 9223372036854775807) (hsz : szNet n ≤ 1048576) (hbig : ls.length ≤ 1048576) :
    Calls Try.prog 35 #[.agg #[ve, vi, vn], .int .i64 s, vl, .int .i64 v] w fun e w' => e = .returned (.tuple #[.bool (fnExactVerifyAt_r0 n s ls v), .bool (fnExactVerifyAt_r1 n s ls v)]) ∧ Below w.heap.size w w' := by
  obtain ⟨w0, hw0⟩ : ∃ w0, w0 = (w).alloc (.cells #[ve, vi, vn] 31) := ⟨_, rfl⟩
  have hb0 : Below w.heap.size w w0 := by rw [hw0]; exact ((Below.refl _ _).alloc (by simp) _)
  have H := Lib.hid (h.keep hb0)
  obtain ⟨h1, h2, h3⟩ := h.keep hb0
  obtain ⟨A, c, rfl, hlc, hm, hA⟩ := h1
  obtain ⟨A2, c2, rfl, _, hm2, _⟩ := h2
  obtain ⟨A3, c3, rfl, _, hm3, _⟩ := h3
  unfold maxLen at hm hm2 hm3
  have p00 : ∀ W, Since w0 W → W.cell? ⟨w.heap.size, 0, none⟩ = some (.slice A n.ends.length c) := have_cell (by rw [hw0]; simp)
  have p01 : ∀ W, Since w0 W → W.cell? ⟨w.heap.size, 1, none⟩ = some (.slice A2 n.ids.length c2) := have_cell (by rw [hw0]; simp)
  have p02 : ∀ W, Since w0 W → W.cell? ⟨w.heap.size, 2, none⟩ = some (.slice A3 n.inputs.length c3) := have_cell (by rw [hw0]; simp)
  have Hb0 := Lib.hid hb0
  have Hw0 := Lib.hid hw0
  have HA := Lib.hid hA
  clear hA h
  clear hb0 hw0
  have HL := Lib.hid (hl.keep Hb0.out)
  obtain ⟨AL, cL, rfl, hlL, hmL, _⟩ := hl
  unfold maxLen at hmL
  go_enter Try.func35, Try.ntmps35
  go_upto_region 1 with (fail)
  rw [← Hw0.out]
  refine wp_region_flow0 11 (Since w0) (since_refl _) ?_
  simp only [List.take_succ_cons, List.take_zero, List.drop_succ_cons, List.drop_zero]
  refine flow_val (v := ?_) rfl ?_ ?_; rotate_left; (intro W hW; go_simp; with_reducible rfl)
  simp only [Act.put, List.setIfInBounds_toArray, List.set_cons_succ, List.set_cons_zero]
  refine flow_val (v := ?_) rfl ?_ ?_; rotate_left; (intro W hW; go_simp; with_reducible rfl)
  simp only [Act.put, List.setIfInBounds_toArray, List.set_cons_succ, List.set_cons_zero]
  refine flow_val (v := ?_) rfl ?_ ?_; rotate_left; (intro W hW; go_simp; with_reducible rfl)
  simp only [Act.put, List.setIfInBounds_toArray, List.set_cons_succ, List.set_cons_zero]
  refine flow_op ?_ rfl ?_ ?_; rotate_left; (intro W hW; unfold Gives; go_simp; (with_reducible refine (plLabels_any _ _ _ _ n s ls W (H.out.keep hW.below) (HL.out.keep hW.below)).mono ?_); rintro e W' ⟨rfl, hb3⟩; first | (refine ⟨?_, Since.trans hW hb3⟩; with_reducible rfl) | (subst hb3; refine ⟨?_, hW⟩; with_reducible rfl))
  simp only [Act.put, List.setIfInBounds_toArray, List.set_cons_succ, List.set_cons_zero]
  refine flow_val (v := ?_) rfl ?_ ?_; rotate_left; (intro W hW; go_simp; with_reducible rfl)
  simp only [Act.put, List.setIfInBounds_toArray, List.set_cons_succ, List.set_cons_zero]
  refine flow_val (v := ?_) rfl ?_ ?_; rotate_left; (intro W hW; go_simp; with_reducible rfl)
  simp only [Act.put, List.setIfInBounds_toArray, List.set_cons_succ, List.set_cons_zero]
  refine flow_gval (v := ?_) rfl rfl ?_ ?_; rotate_left; (intro hb W hW; go_simp; with_reducible rfl)
  simp only [Act.put, List.setIfInBounds_toArray, List.set_cons_succ, List.set_cons_zero]
  refine flow_gval (v := ?_) rfl rfl ?_ ?_; rotate_left; (intro hb W hW; go_simp; with_reducible rfl)
  simp only [Act.put, List.setIfInBounds_toArray, List.set_cons_succ, List.set_cons_zero]
  refine flow_gop (v := ?_) rfl rfl ?_ ?_; rotate_left; (intro hb W hW; unfold Gives; go_simp; (with_reducible refine (neNode_b _ _ _ n v W (H.out.keep hW.below)).mono ?_); rintro e W' ⟨rfl, hb3⟩; first | (refine ⟨?_, Since.trans hW hb3⟩; with_reducible rfl) | (subst hb3; refine ⟨?_, hW⟩; with_reducible rfl))
  simp only [Act.put, List.setIfInBounds_toArray, List.set_cons_succ, List.set_cons_zero]
  refine flow_gval (v := ?_) rfl rfl ?_ ?_; rotate_left; (intro hb W hW; go_simp; with_reducible rfl)
  simp only [Act.put, List.setIfInBounds_toArray, List.set_cons_succ, List.set_cons_zero]
  first | refine flow_or rfl rfl ?_ | (refine flow_val (v := ?_) rfl ?_ ?_; rotate_left; (intro W hW; go_simp; with_reducible rfl))
  simp only [Act.put, List.setIfInBounds_toArray, List.set_cons_succ, List.set_cons_zero]
  intro W hW
  cases hg : (!labOk n s ls || !neNodeB n v)
  · simp only [Bool.or_eq_false_iff, Bool.not_eq_false', neNodeB, Bool.and_eq_true] at hg
    obtain ⟨g1, g2, g3⟩ := hg
    have hv := inB_iff.1 g3
    obtain ⟨k, rfl⟩ := Int.eq_ofNat_of_zero_le hv.1
    obtain ⟨es, l, idk, ink, a1, a2, a3, a4, a5, a6, a7, a8, a9, a10⟩ := acc_at g1 (k := k) (by omega)
    have R1 := Lib.hid (show fnExactVerifyAt_r1 n s ls k = true by simp [fnExactVerifyAt_r1, g1, g3])
    have R0 := Lib.hid (show fnExactVerifyAt_r0 n s ls k = accB n s ls l idk ink es by rw [fnExactVerifyAt_r0, R1.out, Bool.true_and, Int.toNat_natCast, a10])
    have HA := Lib.hid (And.intro a3 (And.intro a5 (And.intro a6 (And.intro a7 (And.intro a8 a9)))))
    have HW := Lib.hid hW
    clear g1 g2 g3 hv a3 a5 a6 a7 a8 a9 a10
    go_wp2_with fail
    refine (plAt_any _ _ _ _ n s ls k es l idk ink W (H.out.keep HW.out.below) (HL.out.keep HW.out.below) a1 a2 HA.out.1 a4 HA.out.2.1 HA.out.2.2.1 HA.out.2.2.2.1 HA.out.2.2.2.2.1 HA.out.2.2.2.2.2).mono ?_
    rintro e w2 ⟨rfl, hb2⟩
    have HW2 := Lib.hid (HW.out.trans hb2)
    clear hb2 hW
    go_wp2
    go_ret2
    exact ⟨tup2 R0.out.symm R1.out.symm, Since.after Hb0.out HW2.out⟩
  · have R1 := Lib.hid (show fnExactVerifyAt_r1 n s ls v = false by
      simp only [Bool.or_eq_true, Bool.not_eq_true', neNodeB, Bool.and_eq_false_iff] at hg
      rcases hg with hg | hg | hg
      · simp [fnExactVerifyAt_r1, hg]
      · simp [fnExactVerifyAt_r1, labOk, hg]
      · simp [fnExactVerifyAt_r1, hg])
    have R0 := Lib.hid (show fnExactVerifyAt_r0 n s ls v = false by simp [fnExactVerifyAt_r0, R1.out])
    have HW := Lib.hid hW
    clear hW hg
    go_wp2
    go_ret2
    exact ⟨tup2 R0.out.symm R1.out.symm, Since.after Hb0.out HW.out⟩
set_option maxRecDepth 100000 in
set_option maxHeartbeats 8000000 in
theorem fnExactVerifyAt_impl (ve vi vn : Value) (n : Net) (s : Int) (vl : Value) (ls : List Int) (v : Int) (w : World) (h : NetIn w ve vi vn n) (_ : -9223372036854775808 ≤ s ∧ s ≤ 9223372036854775807) (hl : IntS w vl ls) (_ : -9223372036854775808 ≤ v ∧ v ≤ 9223372036854775807) (hsz : szNet n ≤ 1048576) (hbig : ls.length ≤ 1048576) :
    Calls Try.prog 36 #[.agg #[ve, vi, vn], .int .i64 s, vl, .int .i64 v] w fun e w' => e = .returned (.tuple #[.bool (fnExactVerifyAt_r0 n s ls v), .bool (fnExactVerifyAt_r1 n s ls v)]) ∧ Below w.heap.size w w' := by
  obtain ⟨w0, hw0⟩ : ∃ w0, w0 = (w).alloc (.cells #[ve, vi, vn] 31) := ⟨_, rfl⟩
  have hb0 : Below w.heap.size w w0 := by rw [hw0]; exact ((Below.refl _ _).alloc (by simp) _)
  have H := Lib.hid (h.keep hb0)
  obtain ⟨h1, h2, h3⟩ := h.keep hb0
  obtain ⟨A, c, rfl, hlc, hm, hA⟩ := h1
  obtain ⟨A2, c2, rfl, _, hm2, _⟩ := h2
  obtain ⟨A3, c3, rfl, _, hm3, _⟩ := h3
  unfold maxLen at hm hm2 hm3
  have p00 : ∀ W, Since w0 W → W.cell? ⟨w.heap.size, 0, none⟩ = some (.slice A n.ends.length c) := have_cell (by rw [hw0]; simp)
  have p01 : ∀ W, Since w0 W → W.cell? ⟨w.heap.size, 1, none⟩ = some (.slice A2 n.ids.length c2) := have_cell (by rw [hw0]; simp)
  have p02 : ∀ W, Since w0 W → W.cell? ⟨w.heap.size, 2, none⟩ = some (.slice A3 n.inputs.length c3) := have_cell (by rw [hw0]; simp)
  have Hb0 := Lib.hid hb0
  have Hw0 := Lib.hid hw0
  have HA := Lib.hid hA
  clear hA h
  clear hb0 hw0
  have HL := Lib.hid (hl.keep Hb0.out)
  obtain ⟨AL, cL, rfl, hlL, hmL, _⟩ := hl
  unfold maxLen at hmL
  go_enter Try.func36, Try.ntmps36
  go_upto_region 1 with (fail)
  rw [← Hw0.out]
  refine wp_region_flow0 11 (Since w0) (since_refl _) ?_
  simp only [List.take_succ_cons, List.take_zero, List.drop_succ_cons, List.drop_zero]
  refine flow_val (v := ?_) rfl ?_ ?_; rotate_left; (intro W hW; go_simp; with_reducible rfl)
  simp only [Act.put, List.setIfInBounds_toArray, List.set_cons_succ, List.set_cons_zero]
  refine flow_val (v := ?_) rfl ?_ ?_; rotate_left; (intro W hW; go_simp; with_reducible rfl)
  simp only [Act.put, List.setIfInBounds_toArray, List.set_cons_succ, List.set_cons_zero]
  refine flow_val (v := ?_) rfl ?_ ?_; rotate_left; (intro W hW; go_simp; with_reducible rfl)
  simp only [Act.put, List.setIfInBounds_toArray, List.set_cons_succ, List.set_cons_zero]
  refine flow_op ?_ rfl ?_ ?_; rotate_left; (intro W hW; unfold Gives; go_simp; (with_reducible refine (labelsOk_any _ _ _ _ n s ls W (H.out.keep hW.below) (HL.out.keep hW.below) hsz).mono ?_); rintro e W' ⟨rfl, hb3⟩; first | (refine ⟨?_, Since.trans hW hb3⟩; with_reducible rfl) | (subst hb3; refine ⟨?_, hW⟩; with_reducible rfl))
  simp only [Act.put, List.setIfInBounds_toArray, List.set_cons_succ, List.set_cons_zero]
  refine flow_val (v := ?_) rfl ?_ ?_; rotate_left; (intro W hW; go_simp; with_reducible rfl)
  simp only [Act.put, List.setIfInBounds_toArray, List.set_cons_succ, List.set_cons_zero]
  refine flow_val (v := ?_) rfl ?_ ?_; rotate_left; (intro W hW; go_simp; with_reducible rfl)
  simp only [Act.put, List.setIfInBounds_toArray, List.set_cons_succ, List.set_cons_zero]
  refine flow_gval (v := ?_) rfl rfl ?_ ?_; rotate_left; (intro hb W hW; go_simp; with_reducible rfl)
  simp only [Act.put, List.setIfInBounds_toArray, List.set_cons_succ, List.set_cons_zero]
  refine flow_gval (v := ?_) rfl rfl ?_ ?_; rotate_left; (intro hb W hW; go_simp; with_reducible rfl)
  simp only [Act.put, List.setIfInBounds_toArray, List.set_cons_succ, List.set_cons_zero]
  refine flow_gop (v := ?_) rfl rfl ?_ ?_; rotate_left; (intro hb W hW; unfold Gives; go_simp; (with_reducible refine (hasNode_b _ _ _ n.ends v W (H.out.keep hW.below).es).mono ?_); rintro e W' ⟨rfl, hb3⟩; first | (refine ⟨?_, Since.trans hW hb3⟩; with_reducible rfl) | (subst hb3; refine ⟨?_, hW⟩; with_reducible rfl))
  simp only [Act.put, List.setIfInBounds_toArray, List.set_cons_succ, List.set_cons_zero]
  refine flow_gval (v := ?_) rfl rfl ?_ ?_; rotate_left; (intro hb W hW; go_simp; with_reducible rfl)
  simp only [Act.put, List.setIfInBounds_toArray, List.set_cons_succ, List.set_cons_zero]
  first | refine flow_or rfl rfl ?_ | (refine flow_val (v := ?_) rfl ?_ ?_; rotate_left; (intro W hW; go_simp; with_reducible rfl))
  simp only [Act.put, List.setIfInBounds_toArray, List.set_cons_succ, List.set_cons_zero]
  intro W hW
  cases hg : (!labOk n s ls || !nodeB n.ends v)
  · simp only [Bool.or_eq_false_iff, Bool.not_eq_false', nodeB] at hg
    obtain ⟨g1, g3⟩ := hg
    have hv := inB_iff.1 g3
    obtain ⟨k, rfl⟩ := Int.eq_ofNat_of_zero_le hv.1
    obtain ⟨es, l, idk, ink, a1, a2, a3, a4, a5, a6, a7, a8, a9, a10⟩ := acc_at g1 (k := k) (by omega)
    have R1 := Lib.hid (show fnExactVerifyAt_r1 n s ls k = true by simp [fnExactVerifyAt_r1, g1, g3])
    have R0 := Lib.hid (show fnExactVerifyAt_r0 n s ls k = accB n s ls l idk ink es by rw [fnExactVerifyAt_r0, R1.out, Bool.true_and, Int.toNat_natCast, a10])
    have HA := Lib.hid (And.intro a3 (And.intro a5 (And.intro a6 (And.intro a7 (And.intro a8 a9)))))
    have HW := Lib.hid hW
    clear g1 g3 hv a3 a5 a6 a7 a8 a9 a10
    go_wp2_with fail
    refine (accepts_any _ _ _ _ n s ls k es l idk ink W (H.out.keep HW.out.below) (HL.out.keep HW.out.below) a1 a2 HA.out.1 a4 HA.out.2.1 HA.out.2.2.1 HA.out.2.2.2.1 HA.out.2.2.2.2.1 HA.out.2.2.2.2.2).mono ?_
    rintro e w2 ⟨rfl, hb2⟩
    have HW2 := Lib.hid (HW.out.trans hb2)
    clear hb2 hW
    go_wp2
    go_ret2
    exact ⟨tup2 R0.out.symm R1.out.symm, Since.after Hb0.out HW2.out⟩
  · have R1 := Lib.hid (show fnExactVerifyAt_r1 n s ls v = false by
      simp only [Bool.or_eq_true, Bool.not_eq_true', nodeB] at hg
      rcases hg with hg | hg
      · simp [fnExactVerifyAt_r1, hg]
      · simp [fnExactVerifyAt_r1, hg])
    have R0 := Lib.hid (show fnExactVerifyAt_r0 n s ls v = false by simp [fnExactVerifyAt_r0, R1.out])
    have HW := Lib.hid hW
    clear hW hg
    go_wp2
    go_ret2
    exact ⟨tup2 R0.out.symm R1.out.symm, Since.after Hb0.out HW.out⟩
end Go.Proofs.Ytaplbmgnfdikdaa
