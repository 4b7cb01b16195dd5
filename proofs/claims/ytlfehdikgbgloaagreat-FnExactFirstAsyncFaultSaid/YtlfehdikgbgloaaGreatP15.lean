/- Parts of the proof: walks of functions and plain laws. -/
import Derived.Test.YtlfehdikgbgloaaGreatP14
import Derived.Test.YtlfehdikgbgloaaGreatP9
import Derived.Test.YtlfehdikgbgloaaGreatP8
import Derived.Test.YtlfehdikgbgloaaGreatP10
import Derived.Test.YtlfehdikgbgloaaGreatP5
namespace Go.Proofs.YtlfehdikgbgloaaGreat
open Go.RowKit
set_option maxRecDepth 100000 in
set_option maxHeartbeats 4000000 in
theorem runsOn_any (ma mb mc md ve vi vn : Value) (m : Mac) (n : Net) (w : World) (hMa : MacIn w ma mb mc md m) (h : NetIn w ve vi vn n) (hok : macOk m = true) (hn : netOk n = true) :
    Calls Tryz.prog 165 #[.agg #[.int .i64 m.degree, .int .i64 m.states, .int .i64 m.messages, ma, mb, mc, md], .agg #[ve, vi, vn]] w fun e w' => e = .returned (.bool (maOnB m n)) ∧ Below w.heap.size w w' := by
  rw [← runsOn_eq hn]
  have hn40 := (netOk_len hn).2
  have hil := (netOk_inp hn).1
  obtain ⟨w0, hw0⟩ : ∃ w0, w0 = ((w).alloc (.cells #[.int .i64 m.degree, .int .i64 m.states, .int .i64 m.messages, ma, mb, mc, md] 62)).alloc (.cells #[ve, vi, vn] 31) := ⟨_, rfl⟩
  have hb0 : Below w.heap.size w w0 := by rw [hw0]; exact (((Below.refl _ _).alloc (by simp <;> omega) _).alloc (by simp <;> omega) _)
  have H := Lib.hid (h.keep hb0)
  obtain ⟨h1, h2, h3⟩ := h.keep hb0
  obtain ⟨A, c, rfl, hlc, hm, hA⟩ := h1
  obtain ⟨A2, c2, rfl, _, hm2, _⟩ := h2
  obtain ⟨A3, c3, rfl, _, hm3, _⟩ := h3
  unfold maxLen at hm hm2 hm3
  have hkM := hMa.keep hb0
  have HM := Lib.hid hkM
  obtain ⟨M0, mz0, rfl, hlM0, hmM0, hMe0⟩ := id hkM.1
  unfold maxLen at hmM0
  have HMe0 := Lib.hid hMe0
  clear hMe0
  obtain ⟨M1, mz1, rfl, hlM1, hmM1, hMe1⟩ := id hkM.2.1
  unfold maxLen at hmM1
  have HMe1 := Lib.hid hMe1
  clear hMe1
  obtain ⟨M2, mz2, rfl, hlM2, hmM2, hMe2⟩ := id hkM.2.2.1
  unfold maxLen at hmM2
  have HMe2 := Lib.hid hMe2
  clear hMe2
  obtain ⟨M3, mz3, rfl, hlM3, hmM3, hMe3⟩ := id hkM.2.2.2
  unfold maxLen at hmM3
  have HMe3 := Lib.hid hMe3
  clear hMe3
  clear hkM hMa
  have p00 : ∀ W, Since w0 W → W.cell? ⟨w.heap.size, 0, none⟩ = some (.int .i64 m.degree) := have_cell (by rw [hw0]; simp)
  have p01 : ∀ W, Since w0 W → W.cell? ⟨w.heap.size, 1, none⟩ = some (.int .i64 m.states) := have_cell (by rw [hw0]; simp)
  have p02 : ∀ W, Since w0 W → W.cell? ⟨w.heap.size, 2, none⟩ = some (.int .i64 m.messages) := have_cell (by rw [hw0]; simp)
  have p03 : ∀ W, Since w0 W → W.cell? ⟨w.heap.size, 3, none⟩ = some (.slice M0 m.start.length mz0) := have_cell (by rw [hw0]; simp)
  have p04 : ∀ W, Since w0 W → W.cell? ⟨w.heap.size, 4, none⟩ = some (.slice M1 m.send.length mz1) := have_cell (by rw [hw0]; simp)
  have p05 : ∀ W, Since w0 W → W.cell? ⟨w.heap.size, 5, none⟩ = some (.slice M2 m.clauses.length mz2) := have_cell (by rw [hw0]; simp)
  have p06 : ∀ W, Since w0 W → W.cell? ⟨w.heap.size, 6, none⟩ = some (.slice M3 m.output.length mz3) := have_cell (by rw [hw0]; simp)
  have p10 : ∀ W, Since w0 W → W.cell? ⟨w.heap.size + 1, 0, none⟩ = some (.slice A n.ends.length c) := have_cell (by rw [hw0]; simp)
  have p11 : ∀ W, Since w0 W → W.cell? ⟨w.heap.size + 1, 1, none⟩ = some (.slice A2 n.ids.length c2) := have_cell (by rw [hw0]; simp)
  have p12 : ∀ W, Since w0 W → W.cell? ⟨w.heap.size + 1, 2, none⟩ = some (.slice A3 n.inputs.length c3) := have_cell (by rw [hw0]; simp)
  have Hb0 := Lib.hid hb0
  have Hw0 := Lib.hid hw0
  have HA := Lib.hid hA
  clear hA h
  clear hb0 hw0
  obtain ⟨hst, hsl, hd, _⟩ := macOk_start hok
  obtain ⟨x0, hx0⟩ := getx m.start 0 hsl
  obtain ⟨bb, off, u0, rfl, hc0, hu⟩ := HMe0.out 0 x0 hx0
  have r0 : ∀ W, Since w0 W → W.cell? ⟨bb, off, none⟩ = some u0 := fun W hW => bc hW (by simpa using hc0)
  obtain ⟨U0, y0, rfl, _, hy0, _⟩ := hu
  unfold maxLen at hy0
  have Hx0' := Lib.hid (show m.start.getD 0 [] = x0 by simp [List.getD, hx0])
  have Hil := Lib.hid hil
  have HI := Lib.hid H.out.2.2
  have hs0 : Since w0 w0 := since_refl _
  clear hc0 hx0 hn hok hst hd hil
  go_enter Tryz.func165, Tryz.ntmps165
  go_upto_region 1 with (fail)
  rw [← Hw0.out]
  go_wp2
  go_loopw [10] (fun i wr => ∃ k : Nat, k ≤ n.ends.length ∧ i = .int .i64 k ∧ (List.range k).all (runB m n) = true ∧ Since w0 wr) (fun i _ => n.ends.length - (intOf i).toNat)
  case atStart => exact ⟨0, Nat.zero_le _, rfl, rfl, hs0⟩
  case round =>
    obtain ⟨k, hk, rfl, hall, hsr⟩ := hrel
    have Hall := Lib.hid hall
    clear hall hs0
    by_cases hlt : k < n.ends.length
    · obtain ⟨es, hes⟩ := getx n.ends k hlt
      obtain ⟨b, offr, cr, ur, hA1, hkr, hc1, hrow⟩ := row_at H.out.es hes
      cases hA1
      obtain ⟨A1, z1, rfl, hz1, hz2, _⟩ := hrow
      unfold maxLen at hz2
      have q5 := have_cell hc1
      obtain ⟨y, hy⟩ := getx n.inputs k (by have := Hil.out; omega)
      obtain ⟨_, _, hv3, _, _, hA3⟩ := HI.out
      cases hv3
      obtain ⟨bi, offi, rfl, hci⟩ := hA3 k y hy
      have q6 := have_cell hci
      have Hrb : Hid (runB m n k = (decide ((es.length : Int) ≤ m.degree) && decide (y < (x0.length : Int)))) := by
        show _ = _
        unfold runB
        rw [Hx0'.out]
        simp [List.getD, hes, hy]
      have hki : k < n.inputs.length := by have := Hil.out; omega
      clear hes hc1 hy hci hA3
      go_upto_region 4 with (fail)
      refine wp_region_flow 18 (Since w0) (by kernel_rfl) (by kernel_rfl) (by simp) (since_drew hsr) ?_
      simp only [List.take_succ_cons, List.take_zero, List.drop_succ_cons, List.drop_zero]
      refine flow_val (v := ?_) rfl ?_ ?_; rotate_left; (intro W hW; go_simp; with_reducible rfl)
      simp only [Act.put, List.setIfInBounds_toArray, List.set_cons_succ, List.set_cons_zero]
      refine flow_val (v := ?_) rfl ?_ ?_; rotate_left; (intro W hW; go_simp; with_reducible rfl)
      simp only [Act.put, List.setIfInBounds_toArray, List.set_cons_succ, List.set_cons_zero]
      refine flow_val (v := ?_) rfl ?_ ?_; rotate_left; (intro W hW; go_simp; with_reducible rfl)
      simp only [Act.put, List.setIfInBounds_toArray, List.set_cons_succ, List.set_cons_zero]
      refine flow_val (v := ?_) rfl ?_ ?_; rotate_left; (intro W hW; go_simp; with_reducible rfl)
      simp only [Act.put, List.setIfInBounds_toArray, List.set_cons_succ, List.set_cons_zero]
      refine flow_val (v := ?_) rfl ?_ ?_; rotate_left; (intro W hW; go_simp; with_reducible rfl)
      simp only [Act.put, List.setIfInBounds_toArray, List.set_cons_succ, List.set_cons_zero]
      refine flow_val (v := ?_) rfl ?_ ?_; rotate_left; (intro W hW; go_simp; with_reducible rfl)
      simp only [Act.put, List.setIfInBounds_toArray, List.set_cons_succ, List.set_cons_zero]
      refine flow_gval (v := ?_) rfl rfl ?_ ?_; rotate_left; (intro hb; intro W hW; go_simp; with_reducible rfl)
      simp only [Act.put, List.setIfInBounds_toArray, List.set_cons_succ, List.set_cons_zero]
      refine flow_gval (v := ?_) rfl rfl ?_ ?_; rotate_left; (intro hb; intro W hW; go_simp; with_reducible rfl)
      simp only [Act.put, List.setIfInBounds_toArray, List.set_cons_succ, List.set_cons_zero]
      refine flow_gval (v := ?_) rfl rfl ?_ ?_; rotate_left; (intro hb; intro W hW; go_simp; with_reducible rfl)
      simp only [Act.put, List.setIfInBounds_toArray, List.set_cons_succ, List.set_cons_zero]
      refine flow_gval (v := ?_) rfl rfl ?_ ?_; rotate_left; (intro hb; intro W hW; go_simp; with_reducible rfl)
      simp only [Act.put, List.setIfInBounds_toArray, List.set_cons_succ, List.set_cons_zero]
      refine flow_gval (v := ?_) rfl rfl ?_ ?_; rotate_left; (intro hb; intro W hW; go_simp; with_reducible rfl)
      simp only [Act.put, List.setIfInBounds_toArray, List.set_cons_succ, List.set_cons_zero]
      refine flow_gval (v := ?_) rfl rfl ?_ ?_; rotate_left; (intro hb; intro W hW; go_simp; with_reducible rfl)
      simp only [Act.put, List.setIfInBounds_toArray, List.set_cons_succ, List.set_cons_zero]
      refine flow_gval (v := ?_) rfl rfl ?_ ?_; rotate_left; (intro hb; intro W hW; go_simp; with_reducible rfl)
      simp only [Act.put, List.setIfInBounds_toArray, List.set_cons_succ, List.set_cons_zero]
      refine flow_gval (v := ?_) rfl rfl ?_ ?_; rotate_left; (intro hb; intro W hW; go_simp; with_reducible rfl)
      simp only [Act.put, List.setIfInBounds_toArray, List.set_cons_succ, List.set_cons_zero]
      refine flow_gval (v := ?_) rfl rfl ?_ ?_; rotate_left; (intro hb; intro W hW; go_simp; with_reducible rfl)
      simp only [Act.put, List.setIfInBounds_toArray, List.set_cons_succ, List.set_cons_zero]
      refine flow_gval (v := ?_) rfl rfl ?_ ?_; rotate_left; (intro hb; intro W hW; go_simp; with_reducible rfl)
      simp only [Act.put, List.setIfInBounds_toArray, List.set_cons_succ, List.set_cons_zero]
      refine flow_gval (v := ?_) rfl rfl ?_ ?_; rotate_left; (intro hb; intro W hW; go_simp; with_reducible rfl)
      simp only [Act.put, List.setIfInBounds_toArray, List.set_cons_succ, List.set_cons_zero]
      first | refine flow_or rfl rfl ?_ | (refine flow_val (v := ?_) rfl ?_ ?_; rotate_left; (intro W hW; go_simp; with_reducible rfl))
      simp only [Act.put, List.setIfInBounds_toArray, List.set_cons_succ, List.set_cons_zero]
      intro W1 hW1
      have HW1 := Lib.hid hW1
      cases hg : (decide (m.degree < (es.length : Int)) || decide ((x0.length : Int) ≤ y))
      · have Hb : Hid (runB m n k = true) := by
          show _ = _
          rw [Hrb.out]
          simp only [Bool.or_eq_false_iff, decide_eq_false_iff_not] at hg
          simp only [Bool.and_eq_true, decide_eq_true_eq]
          omega
        clear hW1
        go_wp2
        go_roundw
        case rel => exact ⟨k + 1, by omega, by go_num, by rw [List.range_succ, List.all_append, Hall.out]; simpa using Hb.out, HW1.out⟩
        case measure => simp [intOf]; omega
      · have hr := Lib.hid (show runsOnB m n = false by
          unfold runsOnB
          rw [List.all_eq_false]
          refine ⟨k, List.mem_range.2 hlt, ?_⟩
          rw [Hrb.out]
          simp only [Bool.or_eq_true, decide_eq_true_eq] at hg
          simp only [Bool.and_eq_true, decide_eq_true_eq]
          omega)
        clear hW1
        go_wp2
        go_ret
        exact ⟨ret_false hr.out, Since.after Hb0.out HW1.out⟩
    · obtain rfl : k = n.ends.length := by omega
      have hr := Lib.hid (show runsOnB m n = true from Hall.out)
      have HS := Lib.hid hsr
      clear hlt hk hsr
      go_wp2
      go_ret
      exact ⟨ret_true hr.out, Since.after Hb0.out HS.out⟩
end Go.Proofs.YtlfehdikgbgloaaGreat
namespace Go.Proofs.YtlfehdikgbgloaaGreat
open Go.RowKit
set_option maxRecDepth 100000 in
set_option maxHeartbeats 4000000 in
theorem statesOk_any (ma mb mc md ve vi vn vs : Value) (m : Mac) (n : Net) (xs : List Int) (w : World) (hMa : MacIn w ma mb mc md m) (h : NetIn w ve vi vn n) (hx : IntS w vs xs) (hok : macOk m = true) :
    Calls Tryz.prog 202 #[.agg #[.int .i64 m.degree, .int .i64 m.states, .int .i64 m.messages, ma, mb, mc, md], .agg #[ve, vi, vn], vs] w fun e w' => e = .returned (.bool (maRowB xs (n.ends.length : Int) m.states)) ∧ Below w.heap.size w w' := by
  obtain ⟨_, _, _, hst, _⟩ := macOk_start hok
  have ms : IntKind.i64.wrap (m.states - 1) = m.states - 1 := wr64 _ (by omega) (by omega)
  have HX0 := Lib.hid hx
  obtain ⟨XA, xc, rfl, _, hxm, _⟩ := hx
  unfold maxLen at hxm
  obtain ⟨w0, hw0⟩ : ∃ w0, w0 = ((w).alloc (.cells #[.int .i64 m.degree, .int .i64 m.states, .int .i64 m.messages, ma, mb, mc, md] 62)).alloc (.cells #[ve, vi, vn] 31) := ⟨_, rfl⟩
  have hb0 : Below w.heap.size w w0 := by rw [hw0]; exact (((Below.refl _ _).alloc (by simp <;> omega) _).alloc (by simp <;> omega) _)
  have H := Lib.hid (h.keep hb0)
  obtain ⟨h1, h2, h3⟩ := h.keep hb0
  obtain ⟨A, c, rfl, hlc, hm, hA⟩ := h1
  obtain ⟨A2, c2, rfl, _, hm2, _⟩ := h2
  obtain ⟨A3, c3, rfl, _, hm3, _⟩ := h3
  unfold maxLen at hm hm2 hm3
  have hkM := hMa.keep hb0
  have HM := Lib.hid hkM
  obtain ⟨M0, mz0, rfl, hlM0, hmM0, hMe0⟩ := id hkM.1
  unfold maxLen at hmM0
  have HMe0 := Lib.hid hMe0
  clear hMe0
  obtain ⟨M1, mz1, rfl, hlM1, hmM1, hMe1⟩ := id hkM.2.1
  unfold maxLen at hmM1
  have HMe1 := Lib.hid hMe1
  clear hMe1
  obtain ⟨M2, mz2, rfl, hlM2, hmM2, hMe2⟩ := id hkM.2.2.1
  unfold maxLen at hmM2
  have HMe2 := Lib.hid hMe2
  clear hMe2
  obtain ⟨M3, mz3, rfl, hlM3, hmM3, hMe3⟩ := id hkM.2.2.2
  unfold maxLen at hmM3
  have HMe3 := Lib.hid hMe3
  clear hMe3
  clear hkM hMa
  have p00 : ∀ W, Since w0 W → W.cell? ⟨w.heap.size, 0, none⟩ = some (.int .i64 m.degree) := have_cell (by rw [hw0]; simp)
  have p01 : ∀ W, Since w0 W → W.cell? ⟨w.heap.size, 1, none⟩ = some (.int .i64 m.states) := have_cell (by rw [hw0]; simp)
  have p02 : ∀ W, Since w0 W → W.cell? ⟨w.heap.size, 2, none⟩ = some (.int .i64 m.messages) := have_cell (by rw [hw0]; simp)
  have p03 : ∀ W, Since w0 W → W.cell? ⟨w.heap.size, 3, none⟩ = some (.slice M0 m.start.length mz0) := have_cell (by rw [hw0]; simp)
  have p04 : ∀ W, Since w0 W → W.cell? ⟨w.heap.size, 4, none⟩ = some (.slice M1 m.send.length mz1) := have_cell (by rw [hw0]; simp)
  have p05 : ∀ W, Since w0 W → W.cell? ⟨w.heap.size, 5, none⟩ = some (.slice M2 m.clauses.length mz2) := have_cell (by rw [hw0]; simp)
  have p06 : ∀ W, Since w0 W → W.cell? ⟨w.heap.size, 6, none⟩ = some (.slice M3 m.output.length mz3) := have_cell (by rw [hw0]; simp)
  have p10 : ∀ W, Since w0 W → W.cell? ⟨w.heap.size + 1, 0, none⟩ = some (.slice A n.ends.length c) := have_cell (by rw [hw0]; simp)
  have p11 : ∀ W, Since w0 W → W.cell? ⟨w.heap.size + 1, 1, none⟩ = some (.slice A2 n.ids.length c2) := have_cell (by rw [hw0]; simp)
  have p12 : ∀ W, Since w0 W → W.cell? ⟨w.heap.size + 1, 2, none⟩ = some (.slice A3 n.inputs.length c3) := have_cell (by rw [hw0]; simp)
  have Hb0 := Lib.hid hb0
  have Hw0 := Lib.hid hw0
  have HA := Lib.hid hA
  clear hA h
  clear hb0 hw0
  have HX := Lib.hid (HX0.out.keep Hb0.out)
  clear hok hst
  go_enter Tryz.func202, Tryz.ntmps202
  go_upto_region 1 with (fail)
  rw [← Hw0.out]
  refine wp_region_flow0 14 (Since w0) (since_refl _) ?_
  simp only [List.take_succ_cons, List.take_zero, List.drop_succ_cons, List.drop_zero]
  refine flow_val (v := ?_) rfl ?_ ?_; rotate_left; (intro W hW; go_simp; with_reducible rfl)
  simp only [Act.put, List.setIfInBounds_toArray, List.set_cons_succ, List.set_cons_zero]
  refine flow_val (v := ?_) rfl ?_ ?_; rotate_left; (intro W hW; go_simp; with_reducible rfl)
  simp only [Act.put, List.setIfInBounds_toArray, List.set_cons_succ, List.set_cons_zero]
  refine flow_val (v := ?_) rfl ?_ ?_; rotate_left; (intro W hW; go_simp; with_reducible rfl)
  simp only [Act.put, List.setIfInBounds_toArray, List.set_cons_succ, List.set_cons_zero]
  refine flow_val (v := ?_) rfl ?_ ?_; rotate_left; (intro W hW; go_simp; with_reducible rfl)
  simp only [Act.put, List.setIfInBounds_toArray, List.set_cons_succ, List.set_cons_zero]
  refine flow_val (v := ?_) rfl ?_ ?_; rotate_left; (intro W hW; go_simp; with_reducible rfl)
  simp only [Act.put, List.setIfInBounds_toArray, List.set_cons_succ, List.set_cons_zero]
  refine flow_val (v := ?_) rfl ?_ ?_; rotate_left; (intro W hW; go_simp; with_reducible rfl)
  simp only [Act.put, List.setIfInBounds_toArray, List.set_cons_succ, List.set_cons_zero]
  refine flow_val (v := ?_) rfl ?_ ?_; rotate_left; (intro W hW; go_simp; with_reducible rfl)
  simp only [Act.put, List.setIfInBounds_toArray, List.set_cons_succ, List.set_cons_zero]
  refine flow_gval (v := ?_) rfl rfl ?_ ?_; rotate_left; (intro hb; intro W hW; go_simp; with_reducible rfl)
  simp only [Act.put, List.setIfInBounds_toArray, List.set_cons_succ, List.set_cons_zero]
  refine flow_gval (v := ?_) rfl rfl ?_ ?_; rotate_left; (intro hb; intro W hW; go_simp; with_reducible rfl)
  simp only [Act.put, List.setIfInBounds_toArray, List.set_cons_succ, List.set_cons_zero]
  refine flow_gval (v := ?_) rfl rfl ?_ ?_; rotate_left; (intro hb; intro W hW; go_simp; with_reducible rfl)
  simp only [Act.put, List.setIfInBounds_toArray, List.set_cons_succ, List.set_cons_zero]
  refine flow_gval (v := ?_) rfl rfl ?_ ?_; rotate_left; (intro hb; intro W hW; go_simp; with_reducible rfl)
  simp only [Act.put, List.setIfInBounds_toArray, List.set_cons_succ, List.set_cons_zero]
  refine flow_gop (v := ?_) rfl rfl ?_ ?_; rotate_left; (intro hb; intro W hW; unfold Gives; go_simp; (with_reducible refine (allWithin_b _ xs _ _ W (HX.out.keep hW.below)).mono ?_); rintro e W' ⟨rfl, hb3⟩; first | (refine ⟨?_, Since.trans hW hb3⟩; with_reducible rfl) | (subst hb3; refine ⟨?_, hW⟩; with_reducible rfl))
  simp only [Act.put, List.setIfInBounds_toArray, List.set_cons_succ, List.set_cons_zero]
  first | refine flow_and rfl rfl ?_ | (refine flow_val (v := ?_) rfl ?_ ?_; rotate_left; (intro W hW; go_simp; with_reducible rfl))
  simp only [Act.put, List.setIfInBounds_toArray, List.set_cons_succ, List.set_cons_zero]
  refine flow_val (v := ?_) rfl ?_ ?_; rotate_left; (intro W hW; go_simp; with_reducible rfl)
  simp only [Act.put, List.setIfInBounds_toArray, List.set_cons_succ, List.set_cons_zero]
  intro W hW
  have HW := Lib.hid hW
  clear hW
  go_wp2
  go_ret
  exact ⟨rfl, Since.after Hb0.out HW.out⟩
end Go.Proofs.YtlfehdikgbgloaaGreat
namespace Go.Proofs.YtlfehdikgbgloaaGreat
open Go.RowKit
set_option maxRecDepth 100000 in
set_option maxHeartbeats 4000000 in
theorem maAsked_any (ma mb mc md ve vi vn : Value) (m : Mac) (n : Net) (w : World) (hMa : MacIn w ma mb mc md m) (h : NetIn w ve vi vn n) (hil : n.ids.length ≤ 17592186044416) :
    Calls Tryz.prog 97 #[.agg #[.int .i64 m.degree, .int .i64 m.states, .int .i64 m.messages, ma, mb, mc, md], .agg #[ve, vi, vn]] w fun e w' => e = .returned (.bool (askedB m n)) ∧ Below w.heap.size w w' := by
  have Hil := Lib.hid hil
  clear hil
  obtain ⟨w0, hw0⟩ : ∃ w0, w0 = ((w).alloc (.cells #[.int .i64 m.degree, .int .i64 m.states, .int .i64 m.messages, ma, mb, mc, md] 62)).alloc (.cells #[ve, vi, vn] 31) := ⟨_, rfl⟩
  have hb0 : Below w.heap.size w w0 := by rw [hw0]; exact (((Below.refl _ _).alloc (by simp <;> omega) _).alloc (by simp <;> omega) _)
  have H := Lib.hid (h.keep hb0)
  obtain ⟨h1, h2, h3⟩ := h.keep hb0
  obtain ⟨A, c, rfl, hlc, hm, hA⟩ := h1
  obtain ⟨A2, c2, rfl, _, hm2, _⟩ := h2
  obtain ⟨A3, c3, rfl, _, hm3, _⟩ := h3
  unfold maxLen at hm hm2 hm3
  have hkM := hMa.keep hb0
  have HM := Lib.hid hkM
  obtain ⟨M0, mz0, rfl, hlM0, hmM0, hMe0⟩ := id hkM.1
  unfold maxLen at hmM0
  have HMe0 := Lib.hid hMe0
  clear hMe0
  obtain ⟨M1, mz1, rfl, hlM1, hmM1, hMe1⟩ := id hkM.2.1
  unfold maxLen at hmM1
  have HMe1 := Lib.hid hMe1
  clear hMe1
  obtain ⟨M2, mz2, rfl, hlM2, hmM2, hMe2⟩ := id hkM.2.2.1
  unfold maxLen at hmM2
  have HMe2 := Lib.hid hMe2
  clear hMe2
  obtain ⟨M3, mz3, rfl, hlM3, hmM3, hMe3⟩ := id hkM.2.2.2
  unfold maxLen at hmM3
  have HMe3 := Lib.hid hMe3
  clear hMe3
  clear hkM hMa
  have p00 : ∀ W, Since w0 W → W.cell? ⟨w.heap.size, 0, none⟩ = some (.int .i64 m.degree) := have_cell (by rw [hw0]; simp)
  have p01 : ∀ W, Since w0 W → W.cell? ⟨w.heap.size, 1, none⟩ = some (.int .i64 m.states) := have_cell (by rw [hw0]; simp)
  have p02 : ∀ W, Since w0 W → W.cell? ⟨w.heap.size, 2, none⟩ = some (.int .i64 m.messages) := have_cell (by rw [hw0]; simp)
  have p03 : ∀ W, Since w0 W → W.cell? ⟨w.heap.size, 3, none⟩ = some (.slice M0 m.start.length mz0) := have_cell (by rw [hw0]; simp)
  have p04 : ∀ W, Since w0 W → W.cell? ⟨w.heap.size, 4, none⟩ = some (.slice M1 m.send.length mz1) := have_cell (by rw [hw0]; simp)
  have p05 : ∀ W, Since w0 W → W.cell? ⟨w.heap.size, 5, none⟩ = some (.slice M2 m.clauses.length mz2) := have_cell (by rw [hw0]; simp)
  have p06 : ∀ W, Since w0 W → W.cell? ⟨w.heap.size, 6, none⟩ = some (.slice M3 m.output.length mz3) := have_cell (by rw [hw0]; simp)
  have p10 : ∀ W, Since w0 W → W.cell? ⟨w.heap.size + 1, 0, none⟩ = some (.slice A n.ends.length c) := have_cell (by rw [hw0]; simp)
  have p11 : ∀ W, Since w0 W → W.cell? ⟨w.heap.size + 1, 1, none⟩ = some (.slice A2 n.ids.length c2) := have_cell (by rw [hw0]; simp)
  have p12 : ∀ W, Since w0 W → W.cell? ⟨w.heap.size + 1, 2, none⟩ = some (.slice A3 n.inputs.length c3) := have_cell (by rw [hw0]; simp)
  have Hb0 := Lib.hid hb0
  have Hw0 := Lib.hid hw0
  have HA := Lib.hid hA
  clear hA h
  clear hb0 hw0
  go_enter Tryz.func97, Tryz.ntmps97
  go_upto_region 1 with (fail)
  rw [← Hw0.out]
  refine wp_region_flow0 12 (Since w0) (since_refl _) ?_
  simp only [List.take_succ_cons, List.take_zero, List.drop_succ_cons, List.drop_zero]
  refine flow_val (v := ?_) rfl ?_ ?_; rotate_left; (intro W hW; go_simp; with_reducible rfl)
  simp only [Act.put, List.setIfInBounds_toArray, List.set_cons_succ, List.set_cons_zero]
  refine flow_op ?_ rfl ?_ ?_; rotate_left; (intro W hW; unfold Gives; go_simp; (with_reducible refine (maGood_any _ _ _ _ m W (HM.out.keep hW.below)).mono ?_); rintro e W' ⟨rfl, hb3⟩; first | (refine ⟨?_, Since.trans hW hb3⟩; with_reducible rfl) | (subst hb3; refine ⟨?_, hW⟩; with_reducible rfl))
  simp only [Act.put, List.setIfInBounds_toArray, List.set_cons_succ, List.set_cons_zero]
  refine flow_val (v := ?_) rfl ?_ ?_; rotate_left; (intro W hW; go_simp; with_reducible rfl)
  simp only [Act.put, List.setIfInBounds_toArray, List.set_cons_succ, List.set_cons_zero]
  refine flow_gval (v := ?_) rfl rfl ?_ ?_; rotate_left; (intro hb; intro W hW; go_simp; with_reducible rfl)
  simp only [Act.put, List.setIfInBounds_toArray, List.set_cons_succ, List.set_cons_zero]
  refine flow_gop (v := ?_) rfl rfl ?_ ?_; rotate_left; (intro hb; intro W hW; unfold Gives; go_simp; (with_reducible refine (neGood_any _ _ _ n W (H.out.keep hW.below)).mono ?_); rintro e W' ⟨rfl, hb3⟩; first | (refine ⟨?_, Since.trans hW hb3⟩; with_reducible rfl) | (subst hb3; refine ⟨?_, hW⟩; with_reducible rfl))
  simp only [Act.put, List.setIfInBounds_toArray, List.set_cons_succ, List.set_cons_zero]
  first | refine flow_and rfl rfl ?_ | (refine flow_val (v := ?_) rfl ?_ ?_; rotate_left; (intro W hW; go_simp; with_reducible rfl))
  simp only [Act.put, List.setIfInBounds_toArray, List.set_cons_succ, List.set_cons_zero]
  refine flow_val (v := ?_) rfl ?_ ?_; rotate_left; (intro W hW; go_simp; with_reducible rfl)
  simp only [Act.put, List.setIfInBounds_toArray, List.set_cons_succ, List.set_cons_zero]
  refine flow_gval (v := ?_) rfl rfl ?_ ?_; rotate_left; (intro hb; intro W hW; go_simp; with_reducible rfl)
  simp only [Act.put, List.setIfInBounds_toArray, List.set_cons_succ, List.set_cons_zero]
  refine flow_gval (v := ?_) rfl rfl ?_ ?_; rotate_left; (intro hb; intro W hW; go_simp; with_reducible rfl)
  simp only [Act.put, List.setIfInBounds_toArray, List.set_cons_succ, List.set_cons_zero]
  refine flow_gop (v := ?_) rfl rfl ?_ ?_; rotate_left; (intro hb; intro W hW; unfold Gives; go_simp; (with_reducible refine (maOn_any _ _ _ _ _ _ _ m n W (HM.out.keep hW.below) (H.out.keep hW.below) (by simpa using (Bool.and_eq_true_iff.1 (by simpa using hb)).1) (by simpa using (Bool.and_eq_true_iff.1 (by simpa using hb)).2)).mono ?_); rintro e W' ⟨rfl, hb3⟩; first | (refine ⟨?_, Since.trans hW hb3⟩; with_reducible rfl) | (subst hb3; refine ⟨?_, hW⟩; with_reducible rfl))
  simp only [Act.put, List.setIfInBounds_toArray, List.set_cons_succ, List.set_cons_zero]
  first | refine flow_and rfl rfl ?_ | (refine flow_val (v := ?_) rfl ?_ ?_; rotate_left; (intro W hW; go_simp; with_reducible rfl))
  simp only [Act.put, List.setIfInBounds_toArray, List.set_cons_succ, List.set_cons_zero]
  refine flow_val (v := ?_) rfl ?_ ?_; rotate_left; (intro W hW; go_simp; with_reducible rfl)
  simp only [Act.put, List.setIfInBounds_toArray, List.set_cons_succ, List.set_cons_zero]
  intro W hW
  have HW := Lib.hid hW
  clear hW
  go_wp2
  go_ret
  exact ⟨rfl, Since.after Hb0.out HW.out⟩
set_option maxRecDepth 100000 in
set_option maxHeartbeats 4000000 in
theorem fits_any (ma mb mc md ve vi vn : Value) (m : Mac) (n : Net) (w : World) (hMa : MacIn w ma mb mc md m) (h : NetIn w ve vi vn n) (hil : n.ids.length ≤ 17592186044416) :
    Calls Tryz.prog 99 #[.agg #[.int .i64 m.degree, .int .i64 m.states, .int .i64 m.messages, ma, mb, mc, md], .agg #[ve, vi, vn]] w fun e w' => e = .returned (.bool (askedB m n)) ∧ Below w.heap.size w w' := by
  have Hil := Lib.hid hil
  clear hil
  obtain ⟨w0, hw0⟩ : ∃ w0, w0 = ((w).alloc (.cells #[.int .i64 m.degree, .int .i64 m.states, .int .i64 m.messages, ma, mb, mc, md] 62)).alloc (.cells #[ve, vi, vn] 31) := ⟨_, rfl⟩
  have hb0 : Below w.heap.size w w0 := by rw [hw0]; exact (((Below.refl _ _).alloc (by simp <;> omega) _).alloc (by simp <;> omega) _)
  have H := Lib.hid (h.keep hb0)
  obtain ⟨h1, h2, h3⟩ := h.keep hb0
  obtain ⟨A, c, rfl, hlc, hm, hA⟩ := h1
  obtain ⟨A2, c2, rfl, _, hm2, _⟩ := h2
  obtain ⟨A3, c3, rfl, _, hm3, _⟩ := h3
  unfold maxLen at hm hm2 hm3
  have hkM := hMa.keep hb0
  have HM := Lib.hid hkM
  obtain ⟨M0, mz0, rfl, hlM0, hmM0, hMe0⟩ := id hkM.1
  unfold maxLen at hmM0
  have HMe0 := Lib.hid hMe0
  clear hMe0
  obtain ⟨M1, mz1, rfl, hlM1, hmM1, hMe1⟩ := id hkM.2.1
  unfold maxLen at hmM1
  have HMe1 := Lib.hid hMe1
  clear hMe1
  obtain ⟨M2, mz2, rfl, hlM2, hmM2, hMe2⟩ := id hkM.2.2.1
  unfold maxLen at hmM2
  have HMe2 := Lib.hid hMe2
  clear hMe2
  obtain ⟨M3, mz3, rfl, hlM3, hmM3, hMe3⟩ := id hkM.2.2.2
  unfold maxLen at hmM3
  have HMe3 := Lib.hid hMe3
  clear hMe3
  clear hkM hMa
  have p00 : ∀ W, Since w0 W → W.cell? ⟨w.heap.size, 0, none⟩ = some (.int .i64 m.degree) := have_cell (by rw [hw0]; simp)
  have p01 : ∀ W, Since w0 W → W.cell? ⟨w.heap.size, 1, none⟩ = some (.int .i64 m.states) := have_cell (by rw [hw0]; simp)
  have p02 : ∀ W, Since w0 W → W.cell? ⟨w.heap.size, 2, none⟩ = some (.int .i64 m.messages) := have_cell (by rw [hw0]; simp)
  have p03 : ∀ W, Since w0 W → W.cell? ⟨w.heap.size, 3, none⟩ = some (.slice M0 m.start.length mz0) := have_cell (by rw [hw0]; simp)
  have p04 : ∀ W, Since w0 W → W.cell? ⟨w.heap.size, 4, none⟩ = some (.slice M1 m.send.length mz1) := have_cell (by rw [hw0]; simp)
  have p05 : ∀ W, Since w0 W → W.cell? ⟨w.heap.size, 5, none⟩ = some (.slice M2 m.clauses.length mz2) := have_cell (by rw [hw0]; simp)
  have p06 : ∀ W, Since w0 W → W.cell? ⟨w.heap.size, 6, none⟩ = some (.slice M3 m.output.length mz3) := have_cell (by rw [hw0]; simp)
  have p10 : ∀ W, Since w0 W → W.cell? ⟨w.heap.size + 1, 0, none⟩ = some (.slice A n.ends.length c) := have_cell (by rw [hw0]; simp)
  have p11 : ∀ W, Since w0 W → W.cell? ⟨w.heap.size + 1, 1, none⟩ = some (.slice A2 n.ids.length c2) := have_cell (by rw [hw0]; simp)
  have p12 : ∀ W, Since w0 W → W.cell? ⟨w.heap.size + 1, 2, none⟩ = some (.slice A3 n.inputs.length c3) := have_cell (by rw [hw0]; simp)
  have Hb0 := Lib.hid hb0
  have Hw0 := Lib.hid hw0
  have HA := Lib.hid hA
  clear hA h
  clear hb0 hw0
  go_enter Tryz.func99, Tryz.ntmps99
  go_upto_region 1 with (fail)
  rw [← Hw0.out]
  refine wp_region_flow0 12 (Since w0) (since_refl _) ?_
  simp only [List.take_succ_cons, List.take_zero, List.drop_succ_cons, List.drop_zero]
  refine flow_val (v := ?_) rfl ?_ ?_; rotate_left; (intro W hW; go_simp; with_reducible rfl)
  simp only [Act.put, List.setIfInBounds_toArray, List.set_cons_succ, List.set_cons_zero]
  refine flow_op ?_ rfl ?_ ?_; rotate_left; (intro W hW; unfold Gives; go_simp; (with_reducible refine (isMachine_any _ _ _ _ m W (HM.out.keep hW.below)).mono ?_); rintro e W' ⟨rfl, hb3⟩; first | (refine ⟨?_, Since.trans hW hb3⟩; with_reducible rfl) | (subst hb3; refine ⟨?_, hW⟩; with_reducible rfl))
  simp only [Act.put, List.setIfInBounds_toArray, List.set_cons_succ, List.set_cons_zero]
  refine flow_val (v := ?_) rfl ?_ ?_; rotate_left; (intro W hW; go_simp; with_reducible rfl)
  simp only [Act.put, List.setIfInBounds_toArray, List.set_cons_succ, List.set_cons_zero]
  refine flow_gval (v := ?_) rfl rfl ?_ ?_; rotate_left; (intro hb; intro W hW; go_simp; with_reducible rfl)
  simp only [Act.put, List.setIfInBounds_toArray, List.set_cons_succ, List.set_cons_zero]
  refine flow_gop (v := ?_) rfl rfl ?_ ?_; rotate_left; (intro hb; intro W hW; unfold Gives; go_simp; (with_reducible refine (isNetwork_any _ _ _ n W (H.out.keep hW.below) Hil.out).mono ?_); rintro e W' ⟨rfl, hb3⟩; first | (refine ⟨?_, Since.trans hW hb3⟩; with_reducible rfl) | (subst hb3; refine ⟨?_, hW⟩; with_reducible rfl))
  simp only [Act.put, List.setIfInBounds_toArray, List.set_cons_succ, List.set_cons_zero]
  first | refine flow_and rfl rfl ?_ | (refine flow_val (v := ?_) rfl ?_ ?_; rotate_left; (intro W hW; go_simp; with_reducible rfl))
  simp only [Act.put, List.setIfInBounds_toArray, List.set_cons_succ, List.set_cons_zero]
  refine flow_val (v := ?_) rfl ?_ ?_; rotate_left; (intro W hW; go_simp; with_reducible rfl)
  simp only [Act.put, List.setIfInBounds_toArray, List.set_cons_succ, List.set_cons_zero]
  refine flow_gval (v := ?_) rfl rfl ?_ ?_; rotate_left; (intro hb; intro W hW; go_simp; with_reducible rfl)
  simp only [Act.put, List.setIfInBounds_toArray, List.set_cons_succ, List.set_cons_zero]
  refine flow_gval (v := ?_) rfl rfl ?_ ?_; rotate_left; (intro hb; intro W hW; go_simp; with_reducible rfl)
  simp only [Act.put, List.setIfInBounds_toArray, List.set_cons_succ, List.set_cons_zero]
  refine flow_gop (v := ?_) rfl rfl ?_ ?_; rotate_left; (intro hb; intro W hW; unfold Gives; go_simp; (with_reducible refine (runsOn_any _ _ _ _ _ _ _ m n W (HM.out.keep hW.below) (H.out.keep hW.below) (by simpa using (Bool.and_eq_true_iff.1 (by simpa using hb)).1) (by simpa using (Bool.and_eq_true_iff.1 (by simpa using hb)).2)).mono ?_); rintro e W' ⟨rfl, hb3⟩; first | (refine ⟨?_, Since.trans hW hb3⟩; with_reducible rfl) | (subst hb3; refine ⟨?_, hW⟩; with_reducible rfl))
  simp only [Act.put, List.setIfInBounds_toArray, List.set_cons_succ, List.set_cons_zero]
  first | refine flow_and rfl rfl ?_ | (refine flow_val (v := ?_) rfl ?_ ?_; rotate_left; (intro W hW; go_simp; with_reducible rfl))
  simp only [Act.put, List.setIfInBounds_toArray, List.set_cons_succ, List.set_cons_zero]
  refine flow_val (v := ?_) rfl ?_ ?_; rotate_left; (intro W hW; go_simp; with_reducible rfl)
  simp only [Act.put, List.setIfInBounds_toArray, List.set_cons_succ, List.set_cons_zero]
  intro W hW
  have HW := Lib.hid hW
  clear hW
  go_wp2
  go_ret
  exact ⟨rfl, Since.after Hb0.out HW.out⟩
end Go.Proofs.YtlfehdikgbgloaaGreat
namespace Go.Proofs.YtlfehdikgbgloaaGreat
open Go.RowKit
/-! the search for labels as a machine: the labels, the place, the steps made -/
theorem getD_set (ls : List Int) (v j : Nat) (x : Int) (hj : j < ls.length) : (ls.set v x).getD j 0 = if v = j then x else ls.getD j 0 := by
  simp only [List.getD_eq_getElem?_getD, List.getElem?_set]
  split
  · rename_i e; subst e; simp [hj]
  · rfl
/-- what is so ahead of a round -/
structure St (N : Nat) (most : Int) (ls : List Int) (v : Nat) : Prop where
  len : ls.length = N
  lo : ∀ j, j < v → j < N → 0 ≤ ls.getD j 0 ∧ ls.getD j 0 ≤ most
  at_ : v < N → -1 ≤ ls.getD v 0 ∧ ls.getD v 0 ≤ most
  hi : ∀ j, v < j → j < N → ls.getD j 0 = -1
/-- what is so when a label has been raised -/
structure Up (N : Nat) (most : Int) (ls : List Int) (v : Nat) : Prop where
  len : ls.length = N
  lo : ∀ j, j ≤ v → j < N → 0 ≤ ls.getD j 0 ∧ ls.getD j 0 ≤ most
  hi : ∀ j, v < j → j < N → ls.getD j 0 = -1
theorem St.start (N : Nat) (most : Int) (hm : 0 ≤ most) : St N most (List.replicate N (-1)) 0 where
  len := by simp
  lo := fun j hj => by omega
  at_ := fun h => by simp [List.getD_eq_getElem?_getD, List.getElem?_replicate, h]; omega
  hi := fun j _ h => by simp [List.getD_eq_getElem?_getD, List.getElem?_replicate, h]
theorem St.back {N : Nat} {most : Int} {ls : List Int} {v : Nat} (h : St N most ls v) (h0 : ¬ v = 0) : St N most (ls.set v (-1)) (v - 1) where
  len := by simp [h.len]
  lo := fun j hj hn => by rw [getD_set _ _ _ _ (by rw [h.len]; exact hn), if_neg (by omega)]; exact h.lo j (by omega) hn
  at_ := fun hn => by rw [getD_set _ _ _ _ (by rw [h.len]; exact hn), if_neg (by omega)]; have := h.lo (v - 1) (by omega) hn; omega
  hi := fun j hj hn => by
    rw [getD_set _ _ _ _ (by rw [h.len]; exact hn)]
    split
    · rfl
    · exact h.hi j (by omega) hn
theorem St.up {N : Nat} {most : Int} {ls : List Int} {v : Nat} (h : St N most ls v) (hv : v < N) (hm : ¬ ls.getD v 0 = most) : Up N most (ls.set v (ls.getD v 0 + 1)) v where
  len := by simp [h.len]
  lo := fun j hj hn => by
    rw [getD_set _ _ _ _ (by rw [h.len]; exact hn)]
    have := h.at_ hv
    split
    · omega
    · exact h.lo j (by omega) hn
  hi := fun j hj hn => by rw [getD_set _ _ _ _ (by rw [h.len]; exact hn), if_neg (by omega)]; exact h.hi j hj hn
theorem Up.on {N : Nat} {most : Int} {ls : List Int} {v : Nat} (h : Up N most ls v) (hm : 0 ≤ most) : St N most ls (v + 1) where
  len := h.len
  lo := fun j hj hn => h.lo j (by omega) hn
  at_ := fun hn => by have := h.hi (v + 1) (by omega) hn; omega
  hi := fun j hj hn => h.hi j (by omega) hn
end Go.Proofs.YtlfehdikgbgloaaGreat
namespace Go.Proofs.YtlfehdikgbgloaaGreat
open Go.RowKit
/-! the reference's search -/
/-- what a node of a good network has -/
theorem node_at {n : Net} (h : netOk n = true) {k : Nat} (hk : k < n.ends.length) :
    n.ends[k]? = some (n.ends.getD k []) ∧ (n.ends.getD k []).length ≤ 6 ∧ (∀ e ∈ n.ends.getD k [], 0 ≤ e.1 ∧ e.1 < n.ends.length) ∧ (n.ids.length ≠ 0 → n.ids[k]? = some (n.ids.getD k 0)) ∧ n.inputs[k]? = some (n.inputs.getD k 0) := by
  obtain ⟨es, hes⟩ := getx n.ends k hk
  have e : n.ends.getD k [] = es := by simp [List.getD_eq_getElem?_getD, hes]
  obtain ⟨r1, r2⟩ := netOk_row h hes
  unfold netOk at h
  simp only [Bool.and_eq_true] at h
  obtain ⟨⟨⟨-, i1⟩, i2⟩, -⟩ := h
  unfold inputsB at i2
  simp only [Bool.and_eq_true, beq_iff_eq] at i2
  obtain ⟨ink, hink⟩ := getx n.inputs k (by omega)
  have hids : n.ids.length ≠ 0 → n.ids[k]? = some (n.ids.getD k 0) := fun h0 => by
    unfold idsB at i1
    simp only [Bool.or_eq_true, Bool.and_eq_true, beq_iff_eq] at i1
    have : n.ids.length = n.ends.length := by
      rcases i1 with e | ⟨e, -⟩
      · exact absurd (by simpa using e) h0
      · omega
    have hk' : k < n.ids.length := by omega
    rw [List.getD_eq_getElem?_getD, List.getElem?_eq_getElem hk']; rfl
  rw [e]
  exact ⟨hes, r1, r2, hids, by rw [hink]; simp [hink]⟩
/-- the kinds of searches -/
def KindOk (s m most : Int) : Prop := (s = 0 ∧ 3 ≤ m ∧ m ≤ 40 ∧ most = m - 1) ∨ (1 ≤ s ∧ s ≤ 5 ∧ 0 ≤ most ∧ most ≤ 999999999999)
theorem KindOk.most {s m most : Int} (h : KindOk s m most) : 0 ≤ most ∧ most ≤ 999999999999 := by unfold KindOk at h; omega
section
variable {W W' : World} {B : Nat} {ve vi vn vl : Value} {s m most lim st : Int}
end
end Go.Proofs.YtlfehdikgbgloaaGreat
namespace Go.Proofs.YtlfehdikgbgloaaGreat
open Go.RowKit
end Go.Proofs.YtlfehdikgbgloaaGreat
namespace Go.Proofs.YtlfehdikgbgloaaGreat
open Go.RowKit
theorem getD_some {ls : List Int} {v : Nat} (h : v < ls.length) : ls[v]? = some (ls.getD v 0) := by rw [List.getD_eq_getElem?_getD, List.getElem?_eq_getElem h]; rfl
end Go.Proofs.YtlfehdikgbgloaaGreat
namespace Go.Proofs.YtlfehdikgbgloaaGreat
open Go.RowKit
-- the least natural number that is not in a list
-- the tree
-- the matching
def eidx (p : Int × Int → Bool) (es : List (Int × Int)) : Int := match es.findIdx? p with | some i => (i : Int) | none => -1
-- the token
/-- what the walks need -/
structure SitP (n : Net) (r : Int) (ls : List Int) : Prop where
  net : netOk n = true
  lo : 1 ≤ r
  hi : r ≤ 5
  runs : runsB n r = true
  len : ls.length = n.ends.length
  st : ∀ v, v < n.ends.length → 0 ≤ ls.getD v 0 ∧ ls.getD v 0 < countB n r v
theorem row_bd {n : Net} (h : netOk n = true) {k : Nat} {es : List (Int × Int)} (hes : n.ends[k]? = some es) {e : Int × Int} (he : e ∈ es) : (0 ≤ e.1 ∧ e.1 < n.ends.length) ∧ 0 ≤ e.2 ∧ e.2 ≤ 5 := by
  have hk := lt_of_get hes
  have h1 := (netOk_row h hes).2 e he
  refine ⟨h1, ?_⟩
  have h' := h
  unfold netOk at h
  rw [Bool.and_eq_true, List.all_eq_true] at h
  have := h.2 k (List.mem_range.2 hk)
  rw [getD_of hes] at this
  unfold rowOkB at this
  rw [Bool.and_eq_true, List.all_eq_true] at this
  obtain ⟨j, hj⟩ := List.getElem?_of_mem he
  have := this.2 j (List.mem_range.2 (lt_of_get hj))
  rw [getD_of hj] at this
  unfold endOkB at this
  rw [Bool.and_eq_true] at this
  have hp := this.1
  unfold hasPortB inB at hp
  simp only [Bool.and_eq_true, decide_eq_true_eq] at hp
  obtain ⟨-, h6, -⟩ := node_at h' (k := e.1.toNat) (by omega)
  omega
theorem SitP.row {n : Net} {r : Int} {ls : List Int} (h : SitP n r ls) {v : Nat} (hv : v < n.ends.length) : n.ends[v]? = some (rowOf n v) ∧ (rowOf n v).length ≤ 6 ∧ ∀ e ∈ rowOf n v, (0 ≤ e.1 ∧ e.1 < ls.length) ∧ 0 ≤ e.2 ∧ e.2 ≤ 5 := by
  obtain ⟨es, hes⟩ := getx n.ends v hv
  have hr := netOk_row h.net hes
  have e : rowOf n v = es := getD_of hes
  rw [e]
  refine ⟨hes, hr.1, fun x hx => ?_⟩
  have := row_bd h.net hes hx
  rw [h.len]
  omega
theorem SitP.at {n : Net} {r : Int} {ls : List Int} (h : SitP n r ls) {x : Int} (h0 : 0 ≤ x) (h1 : x < ls.length) : 0 ≤ ls.getD x.toNat 0 ∧ ls.getD x.toNat 0 < countB n r x.toNat := h.st _ (by have := h.len; omega)
-- the enabled nodes and the moves
-- the runs
end Go.Proofs.YtlfehdikgbgloaaGreat
namespace Go.Proofs.YtlfehdikgbgloaaGreat
open Go.RowKit
def PredL (w0 : World) (fid : FuncId) (caps : Array Value) (p : Int × Int → Bool) (xs : List (Int × Int)) : Prop :=
  ∀ x ∈ xs, ∀ w, Since w0 w → Calls Tryz.prog fid (#[.agg #[.int .i64 x.1, .int .i64 x.2]] ++ caps) w fun e w' => e = .returned (.bool (p x)) ∧ Below w.heap.size w w'
set_option maxHeartbeats 4000000 in
theorem indexFuncL_any (v : Value) (xs : List (Int × Int)) (fid : FuncId) (caps : Array Value) (p : Int × Int → Bool) (w : World) (h : EndS w v xs) (henter : ∀ args w, (callFunc fid args).run Tryz.prog w = .ok (.enter fid args) w) (hp : PredL w fid caps p xs) :
    Calls Tryz.prog 250 #[v, .func (.func fid) #[] caps] w fun e w' => e = .returned (.int .i64 (eidx p xs)) ∧ Below w.heap.size w w' := by
  have H := Lib.hid h
  obtain ⟨A, c, rfl, hlc, hm, hA⟩ := h
  unfold maxLen at hm
  have HA := Lib.hid hA
  clear hA
  have Hp := Lib.hid hp
  have eg := henter
  clear hp
  go_enter Tryz.func250, Tryz.ntmps250
  go_wp2
  go_loopw [8] (fun i wr => ∃ k : Nat, k ≤ xs.length ∧ i = .int .i64 k ∧ (xs.take k).any p = false ∧ Since w wr) (fun i _ => xs.length - (intOf i).toNat)
  case atStart => exact ⟨0, Nat.zero_le _, rfl, rfl, since_refl _⟩
  case round =>
    obtain ⟨k, hk, rfl, hany, hb⟩ := hrel
    have Hany := Lib.hid hany
    have Hb := Lib.hid hb
    clear hany hb
    by_cases hlt : k < xs.length
    · obtain ⟨x, hx⟩ := getx xs k hlt
      obtain ⟨b, off, rfl, hc0, hc1⟩ := HA.out k x hx
      have d0 := Hb.out.cell hc0
      have d1 := Hb.out.cell hc1
      have Hx := Lib.hid hx
      have hcall := Hp.out x (List.mem_of_getElem? hx) wr Hb.out
      obtain ⟨y, hy⟩ : ∃ y, y = p x := ⟨_, rfl⟩
      have Hy := Lib.hid hy
      rw [← hy] at hcall
      have Hcall := Lib.hid hcall
      clear hy hcall hx hc0 hc1
      go_wp2_with fail
      refine Hcall.out.mono ?_
      rintro e w1 ⟨rfl, hb1⟩
      have Hb1 := Lib.hid (Hb.out.trans hb1)
      clear hb1
      cases y
      · go_wp2
        go_roundw
        case rel => exact ⟨k + 1, by omega, by go_num, any_snoc' Hx.out Hany.out Hy.out.symm, Hb1.out⟩
        case measure => simp [intOf]; omega
      · have Hr : Hid (eidx p xs = k) := by show _ = _; unfold eidx; rw [fi_found Hx.out Hy.out.symm Hany.out]
        go_wp2
        go_ret
        exact ⟨congrArg (fun i => Ending.returned (.int .i64 i)) Hr.out.symm, Hb1.out⟩
    · obtain rfl : k = xs.length := by omega
      have Hr : Hid (eidx p xs = -1) := by show _ = _; unfold eidx; rw [fi_none (by have := Hany.out; rwa [List.take_length] at this)]
      go_wp2
      go_ret
      exact ⟨congrArg (fun i => Ending.returned (.int .i64 i)) Hr.out.symm, Hb.out⟩
theorem eidx_anyL (p : Int × Int → Bool) (es : List (Int × Int)) : decide (0 ≤ eidx p es) = es.any p := by
  unfold eidx
  cases h : es.any p with
  | false => rw [fi_none h]; rfl
  | true =>
    cases h2 : es.findIdx? p with
    | none =>
      rw [List.findIdx?_eq_none_iff] at h2
      rw [List.any_eq_true] at h
      obtain ⟨x, hx, hp⟩ := h
      rw [h2 x hx] at hp; cases hp
    | some i => simp
theorem containsFuncL_any (v : Value) (xs : List (Int × Int)) (fid : FuncId) (caps : Array Value) (p : Int × Int → Bool) (w : World) (h : EndS w v xs) (henter : ∀ args w, (callFunc fid args).run Tryz.prog w = .ok (.enter fid args) w) (hp : PredL w fid caps p xs) :
    Calls Tryz.prog 236 #[v, .func (.func fid) #[] caps] w fun e w' => e = .returned (.bool (xs.any p)) ∧ Below w.heap.size w w' := by
  have hi := Lib.hid (indexFuncL_any v xs fid caps p w h henter hp)
  have He := Lib.hid (eidx_anyL p xs)
  obtain ⟨A, c, rfl, hlc, hm, hA⟩ := h
  go_enter Tryz.func236, Tryz.ntmps236
  go_wp2_with fail
  refine hi.out.mono ?_
  rintro e w1 ⟨rfl, hb⟩
  have Hb := Lib.hid hb
  clear hb
  go_wp2
  go_ret
  exact ⟨congrArg (fun b => Ending.returned (.bool b)) He.out, Hb.out⟩
end Go.Proofs.YtlfehdikgbgloaaGreat
