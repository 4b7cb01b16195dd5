import Derived.Test.YtbfoefkfcnaimaaGreatSrch9
import Derived.Test.YtbfoefkfcnaimaaGreatOdo2
namespace Go.Proofs.YtbfoefkfcnaimaaGreat
open Go.RowKit
set_option maxRecDepth 100000 in
set_option maxHeartbeats 8000000 in
theorem fnExactSearchAccepted_spec (ve vi vn : Value) (n : Net) (s most steps : Int) (w : World) (h : NetIn w ve vi vn n) (_ : -9223372036854775808 ≤ s ∧ s ≤ 9223372036854775807) (_ : -9223372036854775808 ≤ most ∧ most ≤ 9223372036854775807) (_ : -9223372036854775808 ≤ steps ∧ steps ≤ 9223372036854775807) (hsz : szNet n ≤ 1048576) :
    Calls Tryz.prog 5 #[.agg #[ve, vi, vn], .int .i64 s, .int .i64 most, .int .i64 steps] w fun e w' => ∃ u, e = .returned (.tuple #[u, .int .i64 (fnExactSearchAccepted_r1 n s most steps), .int .i64 (fnExactSearchAccepted_r2 n s most steps), .bool (fnExactSearchAccepted_r3 n s most steps)]) ∧ Own w' w.heap.size u (fnExactSearchAccepted_d n s most steps) ∧ Below w.heap.size w w' := by
  obtain ⟨w0, hw0⟩ : ∃ w0, w0 = (w).alloc (.cells #[ve, vi, vn] 31) := ⟨_, rfl⟩
  have hb0 : Below w.heap.size w w0 := by rw [hw0]; exact ((Below.refl _ _).alloc (by simp) _)
  have H := Lib.hid (h.keep hb0)
  obtain ⟨h1, h2, h3⟩ := h.keep hb0
  obtain ⟨A, c, rfl, hlc, hm, hA⟩ := h1
  obtain ⟨A2, c2, rfl, _, hm2, _⟩ := h2
  obtain ⟨A3, c3, rfl, _, hm3, _⟩ := h3
  unfold maxLen at hm hm2 hm3
  have p00 : ∀ W, Since w0 W → W.cell? ⟨w.heap.size, 0, none⟩ = some (.slice A n.ends.length c) := have_cell (by rw [hw0]; simp)
  have p01 : ∀ W, Since w0 W → W.cell? ⟨w.heap.size, 1, none⟩ = some (.slice A2 n.ids.length c2) := have_cell (by rw [hw0]; simp)
  have p02 : ∀ W, Since w0 W → W.cell? ⟨w.heap.size, 2, none⟩ = some (.slice A3 n.inputs.length c3) := have_cell (by rw [hw0]; simp)
  have Hb0 := Lib.hid hb0
  have Hw0 := Lib.hid hw0
  have HA := Lib.hid hA
  clear hA h
  clear hb0 hw0
  go_enter Tryz.func5, Tryz.ntmps5
  go_upto_region 1 with (fail)
  rw [← Hw0.out]
  refine wp_region_flow0 10 (Since w0) (since_refl _) ?_
  simp only [List.take_succ_cons, List.take_zero, List.drop_succ_cons, List.drop_zero]
  refine flow_val (v := ?_) rfl ?_ ?_; rotate_left; (intro W hW; go_simp; with_reducible rfl)
  simp only [Act.put, List.setIfInBounds_toArray, List.set_cons_succ, List.set_cons_zero]
  refine flow_val (v := ?_) rfl ?_ ?_; rotate_left; (intro W hW; go_simp; with_reducible rfl)
  simp only [Act.put, List.setIfInBounds_toArray, List.set_cons_succ, List.set_cons_zero]
  refine flow_val (v := ?_) rfl ?_ ?_; rotate_left; (intro W hW; go_simp; with_reducible rfl)
  simp only [Act.put, List.setIfInBounds_toArray, List.set_cons_succ, List.set_cons_zero]
  refine flow_op ?_ rfl ?_ ?_; rotate_left; (intro W hW; unfold Gives; go_simp; (with_reducible refine (atAsked_any _ _ _ n s most W (H.out.keep hW.below)).mono ?_); rintro e W' ⟨rfl, hb3⟩; first | (refine ⟨?_, Since.trans hW hb3⟩; with_reducible rfl) | (subst hb3; refine ⟨?_, hW⟩; with_reducible rfl))
  simp only [Act.put, List.setIfInBounds_toArray, List.set_cons_succ, List.set_cons_zero]
  refine flow_val (v := ?_) rfl ?_ ?_; rotate_left; (intro W hW; go_simp; with_reducible rfl)
  simp only [Act.put, List.setIfInBounds_toArray, List.set_cons_succ, List.set_cons_zero]
  refine flow_val (v := ?_) rfl ?_ ?_; rotate_left; (intro W hW; go_simp; with_reducible rfl)
  simp only [Act.put, List.setIfInBounds_toArray, List.set_cons_succ, List.set_cons_zero]
  refine flow_gval (v := ?_) rfl rfl ?_ ?_; rotate_left; (intro hb W hW; go_simp; with_reducible rfl)
  simp only [Act.put, List.setIfInBounds_toArray, List.set_cons_succ, List.set_cons_zero]
  refine flow_gop (v := ?_) rfl rfl ?_ ?_; rotate_left; (intro hb W hW; unfold Gives; go_simp; (with_reducible refine (l1In_b _ _ _ W).mono ?_); rintro e W' ⟨rfl, hb3⟩; first | (refine ⟨?_, Since.trans hW hb3⟩; with_reducible rfl) | (subst hb3; refine ⟨?_, hW⟩; with_reducible rfl))
  simp only [Act.put, List.setIfInBounds_toArray, List.set_cons_succ, List.set_cons_zero]
  refine flow_gval (v := ?_) rfl rfl ?_ ?_; rotate_left; (intro hb W hW; go_simp; with_reducible rfl)
  simp only [Act.put, List.setIfInBounds_toArray, List.set_cons_succ, List.set_cons_zero]
  first | refine flow_or rfl rfl ?_ | (refine flow_val (v := ?_) rfl ?_ ?_; rotate_left; (intro W hW; go_simp; with_reducible rfl))
  simp only [Act.put, List.setIfInBounds_toArray, List.set_cons_succ, List.set_cons_zero]
  intro W hW
  cases hg : (!askB n s most || !inB 0 200000 steps)
  · simp only [Bool.or_eq_false_iff, Bool.not_eq_false'] at hg
    have hr : srchOk n s most steps = true := by
      have h1 := hg.1
      unfold askB at h1
      unfold srchOk
      rw [h1, hg.2]
      rfl
    have hr' := hr
    unfold srchOk at hr'
    simp only [Bool.and_eq_true] at hr'
    have hs15 := inB_iff.1 hr'.1.1.2
    have hm := inB_iff.1 hr'.1.2
    have hst := inB_iff.1 hr'.2
    have hn := hr'.1.1.1
    have Hr2 : Hid (fnExactSearchAccepted_r3 n s most steps = true) := hr
    obtain ⟨R, hR⟩ : ∃ R, R = srchR n s 0 most steps := ⟨_, rfl⟩
    have Hr := Lib.hid (show true = fnExactSearchAccepted_r3 n s most steps from hr.symm)
    have H1 := Lib.hid (show R.2.1 = fnExactSearchAccepted_r1 n s most steps by unfold fnExactSearchAccepted_r1; rw [if_pos hr, hR])
    have H2 := Lib.hid (show R.2.2 = fnExactSearchAccepted_r2 n s most steps by unfold fnExactSearchAccepted_r2; rw [if_pos hr, hR])
    have H3 := Lib.hid (show R.1 = fnExactSearchAccepted_d n s most steps by unfold fnExactSearchAccepted_d; rw [if_pos hr, hR])
    have Hno : Hid (R.2.1 ≠ 1 → R.1 = []) := by rw [hR]; exact srch_none_list _ _ _ _ _ _ _
    have HR := Lib.hid hR
    have Hn := Lib.hid hn
    obtain ⟨w2, hw2⟩ : ∃ w2, w2 = W.alloc (.cells #[.slice A n.ends.length c, .slice A2 n.ids.length c2, .slice A3 n.inputs.length c3, .int .i64 s, .int .i64 0, .int .i64 most, .int .i64 steps, .int .i64 0, .slice none 0 0] 43) := ⟨_, rfl⟩
    obtain ⟨B, hB⟩ : ∃ B, B = W.heap.size := ⟨_, rfl⟩
    have HA : Hid (AS w2 B (.slice A n.ends.length c) (.slice A2 n.ids.length c2) (.slice A3 n.inputs.length c3) s 0 most steps 0 (.slice none 0 0)) := by
      show (_ : Option _) = _
      rw [hw2, hB]
      show (W.heap.push _)[W.heap.size]? = _
      rw [Array.getElem?_push_size]
    have Hs2 : Hid (Since w0 w2) := by rw [hw2]; exact since_alloc _ hW
    have HBw : Hid (w0.heap.size ≤ B) := by rw [hB]; exact (Since.below hW).size
    have Hw2 := Lib.hid hw2
    have HB := Lib.hid hB
    clear hg hr hr' hn hR hw2 hB
    go_upto_region 4 with (fail)
    rw [← Hw2.out, ← HB.out]
    clear hW
    go_wp2_with fail
    refine (sRun_any _ _ _ _ n s 0 most steps B w2 w0 H.out Hs2.out HBw.out HA.out Hn.out (.inr ⟨hs15.1, hs15.2, hm.1, hm.2⟩) hst.1 (by omega)).mono ?_
    rw [← HR.out]
    rintro e w3 ⟨rfl, hs3, vl', ha3, hown⟩
    have HA3 := Lib.hid ha3
    have Hown := Lib.hid hown
    have Hs3 := Lib.hid hs3
    have c7 := have_cell ha3.c7
    obtain ⟨uf, huf⟩ : ∃ u, u = (if R.2.1 = 1 then vl' else .slice none 0 0) := ⟨_, rfl⟩
    have Hfd : Hid (∀ W, Since w3 W → Calls Tryz.prog 18 #[.pointer (some ⟨B, 0, none⟩), .int .i64 R.2.1] W fun e w' => e = .returned uf ∧ Below W.heap.size W w') := fun W hW => by rw [huf]; exact found_any _ _ _ _ _ _ _ _ _ R.2.1 B W (HA3.out.since hW)
    have Huf := Lib.hid huf
    clear hs3 ha3 hown huf
    go_upto_region 5 with (fail)
    refine wp_region_flow 12 (Since w3) (by kernel_rfl) (by kernel_rfl) (by simp) (since_drew (since_refl _)) ?_
    simp only [List.take_succ_cons, List.take_zero, List.drop_succ_cons, List.drop_zero]
    refine flow_val (v := ?_) rfl ?_ ?_; rotate_left; (intro W hW; go_simp; with_reducible rfl)
    simp only [Act.put, List.setIfInBounds_toArray, List.set_cons_succ, List.set_cons_zero]
    refine flow_val (v := ?_) rfl ?_ ?_; rotate_left; (intro W hW; go_simp; with_reducible rfl)
    simp only [Act.put, List.setIfInBounds_toArray, List.set_cons_succ, List.set_cons_zero]
    refine flow_op ?_ rfl ?_ ?_; rotate_left; (intro W hW; unfold Gives; go_simp; (with_reducible refine (Hfd.out W hW).mono ?_); rintro e W' ⟨rfl, hb3⟩; first | (refine ⟨?_, Since.trans hW hb3⟩; with_reducible rfl) | (subst hb3; refine ⟨?_, hW⟩; with_reducible rfl))
    simp only [Act.put, List.setIfInBounds_toArray, List.set_cons_succ, List.set_cons_zero]
    refine flow_val (v := ?_) rfl ?_ ?_; rotate_left; (intro W hW; go_simp; with_reducible rfl)
    simp only [Act.put, List.setIfInBounds_toArray, List.set_cons_succ, List.set_cons_zero]
    refine flow_val (v := ?_) rfl ?_ ?_; rotate_left; (intro W hW; go_simp; with_reducible rfl)
    simp only [Act.put, List.setIfInBounds_toArray, List.set_cons_succ, List.set_cons_zero]
    refine flow_val (v := ?_) rfl ?_ ?_; rotate_left; (intro W hW; go_simp; with_reducible rfl)
    simp only [Act.put, List.setIfInBounds_toArray, List.set_cons_succ, List.set_cons_zero]
    refine flow_val (v := ?_) rfl ?_ ?_; rotate_left; (intro W hW; go_simp; with_reducible rfl)
    simp only [Act.put, List.setIfInBounds_toArray, List.set_cons_succ, List.set_cons_zero]
    refine flow_val (v := ?_) rfl ?_ ?_; rotate_left; (intro W hW; go_simp; with_reducible rfl)
    simp only [Act.put, List.setIfInBounds_toArray, List.set_cons_succ, List.set_cons_zero]
    refine flow_val (v := ?_) rfl ?_ ?_; rotate_left; (intro W hW; go_simp; with_reducible rfl)
    simp only [Act.put, List.setIfInBounds_toArray, List.set_cons_succ, List.set_cons_zero]
    refine flow_val (v := ?_) rfl ?_ ?_; rotate_left; (intro W hW; go_simp; with_reducible rfl)
    simp only [Act.put, List.setIfInBounds_toArray, List.set_cons_succ, List.set_cons_zero]
    refine flow_val (v := ?_) rfl ?_ ?_; rotate_left; (intro W hW; go_simp; with_reducible rfl)
    simp only [Act.put, List.setIfInBounds_toArray, List.set_cons_succ, List.set_cons_zero]
    refine flow_val (v := ?_) rfl ?_ ?_; rotate_left; (intro W hW; go_simp; with_reducible rfl)
    simp only [Act.put, List.setIfInBounds_toArray, List.set_cons_succ, List.set_cons_zero]
    intro W4 hW4
    have HW4 := Lib.hid hW4
    clear c7 hW4
    go_wp2
    refine bodyPost_ret (results_tmp4 rfl _ _ _) rfl ?_
    refine ⟨_, tup4 H1.out H2.out Hr.out, ?_, Since.after Hb0.out (Hs3.out.after HW4.out)⟩
    rw [← H3.out]
    show Own _ _ uf _
    rw [Huf.out]
    by_cases h1 : R.2.1 = 1
    · rw [if_pos h1]; exact ((Hown.out h1).since HW4.out).mono Hb0.out.size
    · rw [if_neg h1, Hno.out h1]; exact own_nil _ _
  · have hr : fnExactSearchAccepted_r3 n s most steps = false := by
      unfold fnExactSearchAccepted_r3 srchOk
      unfold askB at hg
      revert hg
      cases netOk n <;> cases inB 1 5 s <;> cases inB 0 999999999999 most <;> cases inB 0 200000 steps <;> simp
    have Hr := Lib.hid (show false = fnExactSearchAccepted_r3 n s most steps from hr.symm)
    have H1 := Lib.hid (show 0 = fnExactSearchAccepted_r1 n s most steps by unfold fnExactSearchAccepted_r1; rw [if_neg (by unfold fnExactSearchAccepted_r3 at hr; rw [hr]; simp)])
    have H2 := Lib.hid (show 0 = fnExactSearchAccepted_r2 n s most steps by unfold fnExactSearchAccepted_r2; rw [if_neg (by unfold fnExactSearchAccepted_r3 at hr; rw [hr]; simp)])
    have H3 := Lib.hid (show [] = fnExactSearchAccepted_d n s most steps by unfold fnExactSearchAccepted_d; rw [if_neg (by unfold fnExactSearchAccepted_r3 at hr; rw [hr]; simp)])
    have HW := Lib.hid hW
    clear hg hr hW
    go_wp2
    refine bodyPost_ret (results_tmp4 rfl _ _ _) rfl ?_
    exact ⟨_, tup4 H1.out H2.out Hr.out, by rw [← H3.out]; exact own_nil _ _, Since.after Hb0.out HW.out⟩
end Go.Proofs.YtbfoefkfcnaimaaGreat
