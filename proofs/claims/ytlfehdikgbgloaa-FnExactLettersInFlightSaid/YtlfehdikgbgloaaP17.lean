/- Parts of the proof: walks of functions and plain laws. -/
import Derived.Test.YtlfehdikgbgloaaP16
import Derived.Test.YtlfehdikgbgloaaP10
import Derived.Test.YtlfehdikgbgloaaP11
import Derived.Test.YtlfehdikgbgloaaP8
import Derived.Test.YtlfehdikgbgloaaP13
import Derived.Test.YtlfehdikgbgloaaP14
namespace Go.Proofs.Ytlfehdikgbgloaa
open Go.RowKit
set_option maxRecDepth 100000 in
set_option maxHeartbeats 4000000 in
theorem runsOn_any (ma mb mc md ve vi vn : Value) (m : Mac) (n : Net) (w : World) (hMa : MacIn w ma mb mc md m) (h : NetIn w ve vi vn n) (hok : macOk m = true) (hn : netOk n = true) :
    Calls Try.prog 81 #[.agg #[.int .i64 m.degree, .int .i64 m.states, .int .i64 m.messages, ma, mb, mc, md], .agg #[ve, vi, vn]] w fun e w' => e = .returned (.bool (maOnB m n)) ∧ Below w.heap.size w w' := by
  rw [← runsOn_eq hn]
  have hn40 := (netOk_len hn).2
  have hil := (netOk_inp hn).1
  obtain ⟨w0, hw0⟩ : ∃ w0, w0 = ((w).alloc (.cells #[.int .i64 m.degree, .int .i64 m.states, .int .i64 m.messages, ma, mb, mc, md] 47)).alloc (.cells #[ve, vi, vn] 31) := ⟨_, rfl⟩
  have hb0 : Below w.heap.size w w0 := by rw [hw0]; exact (((Below.refl _ _).alloc (by simp <;> omega) _).alloc (by simp <;> omega) _)
  have H := Lib.hid (h.keep hb0)
  obtain ⟨h1, h2, h3⟩ := h.keep hb0
  obtain ⟨A, c, rfl, hlc, hm, hA⟩ := h1
  obtain ⟨A2, c2, rfl, _, hm2, _⟩ := h2
  obtain ⟨A3, c3, rfl, _, hm3, _⟩ := h3
  unfold maxLen at hm hm2 hm3
  have hkM := hMa.keep hb0
  have HM := Lib.hid hkM
  obtain ⟨M0, mz0, rfl, hlM0, hmM0, hMe0⟩ := id hkM.1
  unfold maxLen at hmM0
  have HMe0 := Lib.hid hMe0
  clear hMe0
  obtain ⟨M1, mz1, rfl, hlM1, hmM1, hMe1⟩ := id hkM.2.1
  unfold maxLen at hmM1
  have HMe1 := Lib.hid hMe1
  clear hMe1
  obtain ⟨M2, mz2, rfl, hlM2, hmM2, hMe2⟩ := id hkM.2.2.1
  unfold maxLen at hmM2
  have HMe2 := Lib.hid hMe2
  clear hMe2
  obtain ⟨M3, mz3, rfl, hlM3, hmM3, hMe3⟩ := id hkM.2.2.2
  unfold maxLen at hmM3
  have HMe3 := Lib.hid hMe3
  clear hMe3
  clear hkM hMa
  have p00 : ∀ W, Since w0 W → W.cell? ⟨w.heap.size, 0, none⟩ = some (.int .i64 m.degree) := have_cell (by rw [hw0]; simp)
  have p01 : ∀ W, Since w0 W → W.cell? ⟨w.heap.size, 1, none⟩ = some (.int .i64 m.states) := have_cell (by rw [hw0]; simp)
  have p02 : ∀ W, Since w0 W → W.cell? ⟨w.heap.size, 2, none⟩ = some (.int .i64 m.messages) := have_cell (by rw [hw0]; simp)
  have p03 : ∀ W, Since w0 W → W.cell? ⟨w.heap.size, 3, none⟩ = some (.slice M0 m.start.length mz0) := have_cell (by rw [hw0]; simp)
  have p04 : ∀ W, Since w0 W → W.cell? ⟨w.heap.size, 4, none⟩ = some (.slice M1 m.send.length mz1) := have_cell (by rw [hw0]; simp)
  have p05 : ∀ W, Since w0 W → W.cell? ⟨w.heap.size, 5, none⟩ = some (.slice M2 m.clauses.length mz2) := have_cell (by rw [hw0]; simp)
  have p06 : ∀ W, Since w0 W → W.cell? ⟨w.heap.size, 6, none⟩ = some (.slice M3 m.output.length mz3) := have_cell (by rw [hw0]; simp)
  have p10 : ∀ W, Since w0 W → W.cell? ⟨w.heap.size + 1, 0, none⟩ = some (.slice A n.ends.length c) := have_cell (by rw [hw0]; simp)
  have p11 : ∀ W, Since w0 W → W.cell? ⟨w.heap.size + 1, 1, none⟩ = some (.slice A2 n.ids.length c2) := have_cell (by rw [hw0]; simp)
  have p12 : ∀ W, Since w0 W → W.cell? ⟨w.heap.size + 1, 2, none⟩ = some (.slice A3 n.inputs.length c3) := have_cell (by rw [hw0]; simp)
  have Hb0 := Lib.hid hb0
  have Hw0 := Lib.hid hw0
  have HA := Lib.hid hA
  clear hA h
  clear hb0 hw0
  obtain ⟨hst, hsl, hd, _⟩ := macOk_start hok
  obtain ⟨x0, hx0⟩ := getx m.start 0 hsl
  obtain ⟨bb, off, u0, rfl, hc0, hu⟩ := HMe0.out 0 x0 hx0
  have r0 : ∀ W, Since w0 W → W.cell? ⟨bb, off, none⟩ = some u0 := fun W hW => bc hW (by simpa using hc0)
  obtain ⟨U0, y0, rfl, _, hy0, _⟩ := hu
  unfold maxLen at hy0
  have Hx0' := Lib.hid (show m.start.getD 0 [] = x0 by simp [List.getD, hx0])
  have Hil := Lib.hid hil
  have HI := Lib.hid H.out.2.2
  have hs0 : Since w0 w0 := since_refl _
  clear hc0 hx0 hn hok hst hd hil
  go_enter Try.func81, Try.ntmps81
  go_upto_region 1 with (fail)
  rw [← Hw0.out]
  go_wp2
  go_loopw [10] (fun i wr => ∃ k : Nat, k ≤ n.ends.length ∧ i = .int .i64 k ∧ (List.range k).all (runB m n) = true ∧ Since w0 wr) (fun i _ => n.ends.length - (intOf i).toNat)
  case atStart => exact ⟨0, Nat.zero_le _, rfl, rfl, hs0⟩
  case round =>
    obtain ⟨k, hk, rfl, hall, hsr⟩ := hrel
    have Hall := Lib.hid hall
    clear hall hs0
    by_cases hlt : k < n.ends.length
    · obtain ⟨es, hes⟩ := getx n.ends k hlt
      obtain ⟨b, offr, cr, ur, hA1, hkr, hc1, hrow⟩ := row_at H.out.es hes
      cases hA1
      obtain ⟨A1, z1, rfl, hz1, hz2, _⟩ := hrow
      unfold maxLen at hz2
      have q5 := have_cell hc1
      obtain ⟨y, hy⟩ := getx n.inputs k (by have := Hil.out; omega)
      obtain ⟨_, _, hv3, _, _, hA3⟩ := HI.out
      cases hv3
      obtain ⟨bi, offi, rfl, hci⟩ := hA3 k y hy
      have q6 := have_cell hci
      have Hrb : Hid (runB m n k = (decide ((es.length : Int) ≤ m.degree) && decide (y < (x0.length : Int)))) := by
        show _ = _
        unfold runB
        rw [Hx0'.out]
        simp [List.getD, hes, hy]
      have hki : k < n.inputs.length := by have := Hil.out; omega
      clear hes hc1 hy hci hA3
      go_upto_region 4 with (fail)
      refine wp_region_flow 18 (Since w0) (by kernel_rfl) (by kernel_rfl) (by simp) (since_drew hsr) ?_
      simp only [List.take_succ_cons, List.take_zero, List.drop_succ_cons, List.drop_zero]
      refine flow_val (v := ?_) rfl ?_ ?_; rotate_left; (intro W hW; go_simp; with_reducible rfl)
      simp only [Act.put, List.setIfInBounds_toArray, List.set_cons_succ, List.set_cons_zero]
      refine flow_val (v := ?_) rfl ?_ ?_; rotate_left; (intro W hW; go_simp; with_reducible rfl)
      simp only [Act.put, List.setIfInBounds_toArray, List.set_cons_succ, List.set_cons_zero]
      refine flow_val (v := ?_) rfl ?_ ?_; rotate_left; (intro W hW; go_simp; with_reducible rfl)
      simp only [Act.put, List.setIfInBounds_toArray, List.set_cons_succ, List.set_cons_zero]
      refine flow_val (v := ?_) rfl ?_ ?_; rotate_left; (intro W hW; go_simp; with_reducible rfl)
      simp only [Act.put, List.setIfInBounds_toArray, List.set_cons_succ, List.set_cons_zero]
      refine flow_val (v := ?_) rfl ?_ ?_; rotate_left; (intro W hW; go_simp; with_reducible rfl)
      simp only [Act.put, List.setIfInBounds_toArray, List.set_cons_succ, List.set_cons_zero]
      refine flow_val (v := ?_) rfl ?_ ?_; rotate_left; (intro W hW; go_simp; with_reducible rfl)
      simp only [Act.put, List.setIfInBounds_toArray, List.set_cons_succ, List.set_cons_zero]
      refine flow_gval (v := ?_) rfl rfl ?_ ?_; rotate_left; (intro hb; intro W hW; go_simp; with_reducible rfl)
      simp only [Act.put, List.setIfInBounds_toArray, List.set_cons_succ, List.set_cons_zero]
      refine flow_gval (v := ?_) rfl rfl ?_ ?_; rotate_left; (intro hb; intro W hW; go_simp; with_reducible rfl)
      simp only [Act.put, List.setIfInBounds_toArray, List.set_cons_succ, List.set_cons_zero]
      refine flow_gval (v := ?_) rfl rfl ?_ ?_; rotate_left; (intro hb; intro W hW; go_simp; with_reducible rfl)
      simp only [Act.put, List.setIfInBounds_toArray, List.set_cons_succ, List.set_cons_zero]
      refine flow_gval (v := ?_) rfl rfl ?_ ?_; rotate_left; (intro hb; intro W hW; go_simp; with_reducible rfl)
      simp only [Act.put, List.setIfInBounds_toArray, List.set_cons_succ, List.set_cons_zero]
      refine flow_gval (v := ?_) rfl rfl ?_ ?_; rotate_left; (intro hb; intro W hW; go_simp; with_reducible rfl)
      simp only [Act.put, List.setIfInBounds_toArray, List.set_cons_succ, List.set_cons_zero]
      refine flow_gval (v := ?_) rfl rfl ?_ ?_; rotate_left; (intro hb; intro W hW; go_simp; with_reducible rfl)
      simp only [Act.put, List.setIfInBounds_toArray, List.set_cons_succ, List.set_cons_zero]
      refine flow_gval (v := ?_) rfl rfl ?_ ?_; rotate_left; (intro hb; intro W hW; go_simp; with_reducible rfl)
      simp only [Act.put, List.setIfInBounds_toArray, List.set_cons_succ, List.set_cons_zero]
      refine flow_gval (v := ?_) rfl rfl ?_ ?_; rotate_left; (intro hb; intro W hW; go_simp; with_reducible rfl)
      simp only [Act.put, List.setIfInBounds_toArray, List.set_cons_succ, List.set_cons_zero]
      refine flow_gval (v := ?_) rfl rfl ?_ ?_; rotate_left; (intro hb; intro W hW; go_simp; with_reducible rfl)
      simp only [Act.put, List.setIfInBounds_toArray, List.set_cons_succ, List.set_cons_zero]
      refine flow_gval (v := ?_) rfl rfl ?_ ?_; rotate_left; (intro hb; intro W hW; go_simp; with_reducible rfl)
      simp only [Act.put, List.setIfInBounds_toArray, List.set_cons_succ, List.set_cons_zero]
      refine flow_gval (v := ?_) rfl rfl ?_ ?_; rotate_left; (intro hb; intro W hW; go_simp; with_reducible rfl)
      simp only [Act.put, List.setIfInBounds_toArray, List.set_cons_succ, List.set_cons_zero]
      first | refine flow_or rfl rfl ?_ | (refine flow_val (v := ?_) rfl ?_ ?_; rotate_left; (intro W hW; go_simp; with_reducible rfl))
      simp only [Act.put, List.setIfInBounds_toArray, List.set_cons_succ, List.set_cons_zero]
      intro W1 hW1
      have HW1 := Lib.hid hW1
      cases hg : (decide (m.degree < (es.length : Int)) || decide ((x0.length : Int) ≤ y))
      · have Hb : Hid (runB m n k = true) := by
          show _ = _
          rw [Hrb.out]
          simp only [Bool.or_eq_false_iff, decide_eq_false_iff_not] at hg
          simp only [Bool.and_eq_true, decide_eq_true_eq]
          omega
        clear hW1
        go_wp2
        go_roundw
        case rel => exact ⟨k + 1, by omega, by go_num, by rw [List.range_succ, List.all_append, Hall.out]; simpa using Hb.out, HW1.out⟩
        case measure => simp [intOf]; omega
      · have hr := Lib.hid (show runsOnB m n = false by
          unfold runsOnB
          rw [List.all_eq_false]
          refine ⟨k, List.mem_range.2 hlt, ?_⟩
          rw [Hrb.out]
          simp only [Bool.or_eq_true, decide_eq_true_eq] at hg
          simp only [Bool.and_eq_true, decide_eq_true_eq]
          omega)
        clear hW1
        go_wp2
        go_ret
        exact ⟨ret_false hr.out, Since.after Hb0.out HW1.out⟩
    · obtain rfl : k = n.ends.length := by omega
      have hr := Lib.hid (show runsOnB m n = true from Hall.out)
      have HS := Lib.hid hsr
      clear hlt hk hsr
      go_wp2
      go_ret
      exact ⟨ret_true hr.out, Since.after Hb0.out HS.out⟩
end Go.Proofs.Ytlfehdikgbgloaa
namespace Go.Proofs.Ytlfehdikgbgloaa
open Go.RowKit
set_option maxRecDepth 100000 in
set_option maxHeartbeats 4000000 in
theorem statesOk_any (ma mb mc md ve vi vn vs : Value) (m : Mac) (n : Net) (xs : List Int) (w : World) (hMa : MacIn w ma mb mc md m) (h : NetIn w ve vi vn n) (hx : IntS w vs xs) (hok : macOk m = true) :
    Calls Try.prog 83 #[.agg #[.int .i64 m.degree, .int .i64 m.states, .int .i64 m.messages, ma, mb, mc, md], .agg #[ve, vi, vn], vs] w fun e w' => e = .returned (.bool (maRowB xs (n.ends.length : Int) m.states)) ∧ Below w.heap.size w w' := by
  obtain ⟨_, _, _, hst, _⟩ := macOk_start hok
  have ms : IntKind.i64.wrap (m.states - 1) = m.states - 1 := wr64 _ (by omega) (by omega)
  have HX0 := Lib.hid hx
  obtain ⟨XA, xc, rfl, _, hxm, _⟩ := hx
  unfold maxLen at hxm
  obtain ⟨w0, hw0⟩ : ∃ w0, w0 = ((w).alloc (.cells #[.int .i64 m.degree, .int .i64 m.states, .int .i64 m.messages, ma, mb, mc, md] 47)).alloc (.cells #[ve, vi, vn] 31) := ⟨_, rfl⟩
  have hb0 : Below w.heap.size w w0 := by rw [hw0]; exact (((Below.refl _ _).alloc (by simp <;> omega) _).alloc (by simp <;> omega) _)
  have H := Lib.hid (h.keep hb0)
  obtain ⟨h1, h2, h3⟩ := h.keep hb0
  obtain ⟨A, c, rfl, hlc, hm, hA⟩ := h1
  obtain ⟨A2, c2, rfl, _, hm2, _⟩ := h2
  obtain ⟨A3, c3, rfl, _, hm3, _⟩ := h3
  unfold maxLen at hm hm2 hm3
  have hkM := hMa.keep hb0
  have HM := Lib.hid hkM
  obtain ⟨M0, mz0, rfl, hlM0, hmM0, hMe0⟩ := id hkM.1
  unfold maxLen at hmM0
  have HMe0 := Lib.hid hMe0
  clear hMe0
  obtain ⟨M1, mz1, rfl, hlM1, hmM1, hMe1⟩ := id hkM.2.1
  unfold maxLen at hmM1
  have HMe1 := Lib.hid hMe1
  clear hMe1
  obtain ⟨M2, mz2, rfl, hlM2, hmM2, hMe2⟩ := id hkM.2.2.1
  unfold maxLen at hmM2
  have HMe2 := Lib.hid hMe2
  clear hMe2
  obtain ⟨M3, mz3, rfl, hlM3, hmM3, hMe3⟩ := id hkM.2.2.2
  unfold maxLen at hmM3
  have HMe3 := Lib.hid hMe3
  clear hMe3
  clear hkM hMa
  have p00 : ∀ W, Since w0 W → W.cell? ⟨w.heap.size, 0, none⟩ = some (.int .i64 m.degree) := have_cell (by rw [hw0]; simp)
  have p01 : ∀ W, Since w0 W → W.cell? ⟨w.heap.size, 1, none⟩ = some (.int .i64 m.states) := have_cell (by rw [hw0]; simp)
  have p02 : ∀ W, Since w0 W → W.cell? ⟨w.heap.size, 2, none⟩ = some (.int .i64 m.messages) := have_cell (by rw [hw0]; simp)
  have p03 : ∀ W, Since w0 W → W.cell? ⟨w.heap.size, 3, none⟩ = some (.slice M0 m.start.length mz0) := have_cell (by rw [hw0]; simp)
  have p04 : ∀ W, Since w0 W → W.cell? ⟨w.heap.size, 4, none⟩ = some (.slice M1 m.send.length mz1) := have_cell (by rw [hw0]; simp)
  have p05 : ∀ W, Since w0 W → W.cell? ⟨w.heap.size, 5, none⟩ = some (.slice M2 m.clauses.length mz2) := have_cell (by rw [hw0]; simp)
  have p06 : ∀ W, Since w0 W → W.cell? ⟨w.heap.size, 6, none⟩ = some (.slice M3 m.output.length mz3) := have_cell (by rw [hw0]; simp)
  have p10 : ∀ W, Since w0 W → W.cell? ⟨w.heap.size + 1, 0, none⟩ = some (.slice A n.ends.length c) := have_cell (by rw [hw0]; simp)
  have p11 : ∀ W, Since w0 W → W.cell? ⟨w.heap.size + 1, 1, none⟩ = some (.slice A2 n.ids.length c2) := have_cell (by rw [hw0]; simp)
  have p12 : ∀ W, Since w0 W → W.cell? ⟨w.heap.size + 1, 2, none⟩ = some (.slice A3 n.inputs.length c3) := have_cell (by rw [hw0]; simp)
  have Hb0 := Lib.hid hb0
  have Hw0 := Lib.hid hw0
  have HA := Lib.hid hA
  clear hA h
  clear hb0 hw0
  have HX := Lib.hid (HX0.out.keep Hb0.out)
  clear hok hst
  go_enter Try.func83, Try.ntmps83
  go_upto_region 1 with (fail)
  rw [← Hw0.out]
  refine wp_region_flow0 14 (Since w0) (since_refl _) ?_
  simp only [List.take_succ_cons, List.take_zero, List.drop_succ_cons, List.drop_zero]
  refine flow_val (v := ?_) rfl ?_ ?_; rotate_left; (intro W hW; go_simp; with_reducible rfl)
  simp only [Act.put, List.setIfInBounds_toArray, List.set_cons_succ, List.set_cons_zero]
  refine flow_val (v := ?_) rfl ?_ ?_; rotate_left; (intro W hW; go_simp; with_reducible rfl)
  simp only [Act.put, List.setIfInBounds_toArray, List.set_cons_succ, List.set_cons_zero]
  refine flow_val (v := ?_) rfl ?_ ?_; rotate_left; (intro W hW; go_simp; with_reducible rfl)
  simp only [Act.put, List.setIfInBounds_toArray, List.set_cons_succ, List.set_cons_zero]
  refine flow_val (v := ?_) rfl ?_ ?_; rotate_left; (intro W hW; go_simp; with_reducible rfl)
  simp only [Act.put, List.setIfInBounds_toArray, List.set_cons_succ, List.set_cons_zero]
  refine flow_val (v := ?_) rfl ?_ ?_; rotate_left; (intro W hW; go_simp; with_reducible rfl)
  simp only [Act.put, List.setIfInBounds_toArray, List.set_cons_succ, List.set_cons_zero]
  refine flow_val (v := ?_) rfl ?_ ?_; rotate_left; (intro W hW; go_simp; with_reducible rfl)
  simp only [Act.put, List.setIfInBounds_toArray, List.set_cons_succ, List.set_cons_zero]
  refine flow_val (v := ?_) rfl ?_ ?_; rotate_left; (intro W hW; go_simp; with_reducible rfl)
  simp only [Act.put, List.setIfInBounds_toArray, List.set_cons_succ, List.set_cons_zero]
  refine flow_gval (v := ?_) rfl rfl ?_ ?_; rotate_left; (intro hb; intro W hW; go_simp; with_reducible rfl)
  simp only [Act.put, List.setIfInBounds_toArray, List.set_cons_succ, List.set_cons_zero]
  refine flow_gval (v := ?_) rfl rfl ?_ ?_; rotate_left; (intro hb; intro W hW; go_simp; with_reducible rfl)
  simp only [Act.put, List.setIfInBounds_toArray, List.set_cons_succ, List.set_cons_zero]
  refine flow_gval (v := ?_) rfl rfl ?_ ?_; rotate_left; (intro hb; intro W hW; go_simp; with_reducible rfl)
  simp only [Act.put, List.setIfInBounds_toArray, List.set_cons_succ, List.set_cons_zero]
  refine flow_gval (v := ?_) rfl rfl ?_ ?_; rotate_left; (intro hb; intro W hW; go_simp; with_reducible rfl)
  simp only [Act.put, List.setIfInBounds_toArray, List.set_cons_succ, List.set_cons_zero]
  refine flow_gop (v := ?_) rfl rfl ?_ ?_; rotate_left; (intro hb; intro W hW; unfold Gives; go_simp; (with_reducible refine (allWithin_b _ xs _ _ W (HX.out.keep hW.below)).mono ?_); rintro e W' ⟨rfl, hb3⟩; first | (refine ⟨?_, Since.trans hW hb3⟩; with_reducible rfl) | (subst hb3; refine ⟨?_, hW⟩; with_reducible rfl))
  simp only [Act.put, List.setIfInBounds_toArray, List.set_cons_succ, List.set_cons_zero]
  first | refine flow_and rfl rfl ?_ | (refine flow_val (v := ?_) rfl ?_ ?_; rotate_left; (intro W hW; go_simp; with_reducible rfl))
  simp only [Act.put, List.setIfInBounds_toArray, List.set_cons_succ, List.set_cons_zero]
  refine flow_val (v := ?_) rfl ?_ ?_; rotate_left; (intro W hW; go_simp; with_reducible rfl)
  simp only [Act.put, List.setIfInBounds_toArray, List.set_cons_succ, List.set_cons_zero]
  intro W hW
  have HW := Lib.hid hW
  clear hW
  go_wp2
  go_ret
  exact ⟨rfl, Since.after Hb0.out HW.out⟩
end Go.Proofs.Ytlfehdikgbgloaa
namespace Go.Proofs.Ytlfehdikgbgloaa
open Go.RowKit
set_option maxRecDepth 100000 in
set_option maxHeartbeats 4000000 in
theorem maAsked_any (ma mb mc md ve vi vn : Value) (m : Mac) (n : Net) (w : World) (hMa : MacIn w ma mb mc md m) (h : NetIn w ve vi vn n) (hil : n.ids.length ≤ 17592186044416) :
    Calls Try.prog 75 #[.agg #[.int .i64 m.degree, .int .i64 m.states, .int .i64 m.messages, ma, mb, mc, md], .agg #[ve, vi, vn]] w fun e w' => e = .returned (.bool (askedB m n)) ∧ Below w.heap.size w w' := by
  have Hil := Lib.hid hil
  clear hil
  obtain ⟨w0, hw0⟩ : ∃ w0, w0 = ((w).alloc (.cells #[.int .i64 m.degree, .int .i64 m.states, .int .i64 m.messages, ma, mb, mc, md] 47)).alloc (.cells #[ve, vi, vn] 31) := ⟨_, rfl⟩
  have hb0 : Below w.heap.size w w0 := by rw [hw0]; exact (((Below.refl _ _).alloc (by simp <;> omega) _).alloc (by simp <;> omega) _)
  have H := Lib.hid (h.keep hb0)
  obtain ⟨h1, h2, h3⟩ := h.keep hb0
  obtain ⟨A, c, rfl, hlc, hm, hA⟩ := h1
  obtain ⟨A2, c2, rfl, _, hm2, _⟩ := h2
  obtain ⟨A3, c3, rfl, _, hm3, _⟩ := h3
  unfold maxLen at hm hm2 hm3
  have hkM := hMa.keep hb0
  have HM := Lib.hid hkM
  obtain ⟨M0, mz0, rfl, hlM0, hmM0, hMe0⟩ := id hkM.1
  unfold maxLen at hmM0
  have HMe0 := Lib.hid hMe0
  clear hMe0
  obtain ⟨M1, mz1, rfl, hlM1, hmM1, hMe1⟩ := id hkM.2.1
  unfold maxLen at hmM1
  have HMe1 := Lib.hid hMe1
  clear hMe1
  obtain ⟨M2, mz2, rfl, hlM2, hmM2, hMe2⟩ := id hkM.2.2.1
  unfold maxLen at hmM2
  have HMe2 := Lib.hid hMe2
  clear hMe2
  obtain ⟨M3, mz3, rfl, hlM3, hmM3, hMe3⟩ := id hkM.2.2.2
  unfold maxLen at hmM3
  have HMe3 := Lib.hid hMe3
  clear hMe3
  clear hkM hMa
  have p00 : ∀ W, Since w0 W → W.cell? ⟨w.heap.size, 0, none⟩ = some (.int .i64 m.degree) := have_cell (by rw [hw0]; simp)
  have p01 : ∀ W, Since w0 W → W.cell? ⟨w.heap.size, 1, none⟩ = some (.int .i64 m.states) := have_cell (by rw [hw0]; simp)
  have p02 : ∀ W, Since w0 W → W.cell? ⟨w.heap.size, 2, none⟩ = some (.int .i64 m.messages) := have_cell (by rw [hw0]; simp)
  have p03 : ∀ W, Since w0 W → W.cell? ⟨w.heap.size, 3, none⟩ = some (.slice M0 m.start.length mz0) := have_cell (by rw [hw0]; simp)
  have p04 : ∀ W, Since w0 W → W.cell? ⟨w.heap.size, 4, none⟩ = some (.slice M1 m.send.length mz1) := have_cell (by rw [hw0]; simp)
  have p05 : ∀ W, Since w0 W → W.cell? ⟨w.heap.size, 5, none⟩ = some (.slice M2 m.clauses.length mz2) := have_cell (by rw [hw0]; simp)
  have p06 : ∀ W, Since w0 W → W.cell? ⟨w.heap.size, 6, none⟩ = some (.slice M3 m.output.length mz3) := have_cell (by rw [hw0]; simp)
  have p10 : ∀ W, Since w0 W → W.cell? ⟨w.heap.size + 1, 0, none⟩ = some (.slice A n.ends.length c) := have_cell (by rw [hw0]; simp)
  have p11 : ∀ W, Since w0 W → W.cell? ⟨w.heap.size + 1, 1, none⟩ = some (.slice A2 n.ids.length c2) := have_cell (by rw [hw0]; simp)
  have p12 : ∀ W, Since w0 W → W.cell? ⟨w.heap.size + 1, 2, none⟩ = some (.slice A3 n.inputs.length c3) := have_cell (by rw [hw0]; simp)
  have Hb0 := Lib.hid hb0
  have Hw0 := Lib.hid hw0
  have HA := Lib.hid hA
  clear hA h
  clear hb0 hw0
  go_enter Try.func75, Try.ntmps75
  go_upto_region 1 with (fail)
  rw [← Hw0.out]
  refine wp_region_flow0 12 (Since w0) (since_refl _) ?_
  simp only [List.take_succ_cons, List.take_zero, List.drop_succ_cons, List.drop_zero]
  refine flow_val (v := ?_) rfl ?_ ?_; rotate_left; (intro W hW; go_simp; with_reducible rfl)
  simp only [Act.put, List.setIfInBounds_toArray, List.set_cons_succ, List.set_cons_zero]
  refine flow_op ?_ rfl ?_ ?_; rotate_left; (intro W hW; unfold Gives; go_simp; (with_reducible refine (maGood_any _ _ _ _ m W (HM.out.keep hW.below)).mono ?_); rintro e W' ⟨rfl, hb3⟩; first | (refine ⟨?_, Since.trans hW hb3⟩; with_reducible rfl) | (subst hb3; refine ⟨?_, hW⟩; with_reducible rfl))
  simp only [Act.put, List.setIfInBounds_toArray, List.set_cons_succ, List.set_cons_zero]
  refine flow_val (v := ?_) rfl ?_ ?_; rotate_left; (intro W hW; go_simp; with_reducible rfl)
  simp only [Act.put, List.setIfInBounds_toArray, List.set_cons_succ, List.set_cons_zero]
  refine flow_gval (v := ?_) rfl rfl ?_ ?_; rotate_left; (intro hb; intro W hW; go_simp; with_reducible rfl)
  simp only [Act.put, List.setIfInBounds_toArray, List.set_cons_succ, List.set_cons_zero]
  refine flow_gop (v := ?_) rfl rfl ?_ ?_; rotate_left; (intro hb; intro W hW; unfold Gives; go_simp; (with_reducible refine (neGood_any _ _ _ n W (H.out.keep hW.below)).mono ?_); rintro e W' ⟨rfl, hb3⟩; first | (refine ⟨?_, Since.trans hW hb3⟩; with_reducible rfl) | (subst hb3; refine ⟨?_, hW⟩; with_reducible rfl))
  simp only [Act.put, List.setIfInBounds_toArray, List.set_cons_succ, List.set_cons_zero]
  first | refine flow_and rfl rfl ?_ | (refine flow_val (v := ?_) rfl ?_ ?_; rotate_left; (intro W hW; go_simp; with_reducible rfl))
  simp only [Act.put, List.setIfInBounds_toArray, List.set_cons_succ, List.set_cons_zero]
  refine flow_val (v := ?_) rfl ?_ ?_; rotate_left; (intro W hW; go_simp; with_reducible rfl)
  simp only [Act.put, List.setIfInBounds_toArray, List.set_cons_succ, List.set_cons_zero]
  refine flow_gval (v := ?_) rfl rfl ?_ ?_; rotate_left; (intro hb; intro W hW; go_simp; with_reducible rfl)
  simp only [Act.put, List.setIfInBounds_toArray, List.set_cons_succ, List.set_cons_zero]
  refine flow_gval (v := ?_) rfl rfl ?_ ?_; rotate_left; (intro hb; intro W hW; go_simp; with_reducible rfl)
  simp only [Act.put, List.setIfInBounds_toArray, List.set_cons_succ, List.set_cons_zero]
  refine flow_gop (v := ?_) rfl rfl ?_ ?_; rotate_left; (intro hb; intro W hW; unfold Gives; go_simp; (with_reducible refine (maOn_any _ _ _ _ _ _ _ m n W (HM.out.keep hW.below) (H.out.keep hW.below) (by simpa using (Bool.and_eq_true_iff.1 (by simpa using hb)).1) (by simpa using (Bool.and_eq_true_iff.1 (by simpa using hb)).2)).mono ?_); rintro e W' ⟨rfl, hb3⟩; first | (refine ⟨?_, Since.trans hW hb3⟩; with_reducible rfl) | (subst hb3; refine ⟨?_, hW⟩; with_reducible rfl))
  simp only [Act.put, List.setIfInBounds_toArray, List.set_cons_succ, List.set_cons_zero]
  first | refine flow_and rfl rfl ?_ | (refine flow_val (v := ?_) rfl ?_ ?_; rotate_left; (intro W hW; go_simp; with_reducible rfl))
  simp only [Act.put, List.setIfInBounds_toArray, List.set_cons_succ, List.set_cons_zero]
  refine flow_val (v := ?_) rfl ?_ ?_; rotate_left; (intro W hW; go_simp; with_reducible rfl)
  simp only [Act.put, List.setIfInBounds_toArray, List.set_cons_succ, List.set_cons_zero]
  intro W hW
  have HW := Lib.hid hW
  clear hW
  go_wp2
  go_ret
  exact ⟨rfl, Since.after Hb0.out HW.out⟩
set_option maxRecDepth 100000 in
set_option maxHeartbeats 4000000 in
theorem fits_any (ma mb mc md ve vi vn : Value) (m : Mac) (n : Net) (w : World) (hMa : MacIn w ma mb mc md m) (h : NetIn w ve vi vn n) (hil : n.ids.length ≤ 17592186044416) :
    Calls Try.prog 44 #[.agg #[.int .i64 m.degree, .int .i64 m.states, .int .i64 m.messages, ma, mb, mc, md], .agg #[ve, vi, vn]] w fun e w' => e = .returned (.bool (askedB m n)) ∧ Below w.heap.size w w' := by
  have Hil := Lib.hid hil
  clear hil
  obtain ⟨w0, hw0⟩ : ∃ w0, w0 = ((w).alloc (.cells #[.int .i64 m.degree, .int .i64 m.states, .int .i64 m.messages, ma, mb, mc, md] 47)).alloc (.cells #[ve, vi, vn] 31) := ⟨_, rfl⟩
  have hb0 : Below w.heap.size w w0 := by rw [hw0]; exact (((Below.refl _ _).alloc (by simp <;> omega) _).alloc (by simp <;> omega) _)
  have H := Lib.hid (h.keep hb0)
  obtain ⟨h1, h2, h3⟩ := h.keep hb0
  obtain ⟨A, c, rfl, hlc, hm, hA⟩ := h1
  obtain ⟨A2, c2, rfl, _, hm2, _⟩ := h2
  obtain ⟨A3, c3, rfl, _, hm3, _⟩ := h3
  unfold maxLen at hm hm2 hm3
  have hkM := hMa.keep hb0
  have HM := Lib.hid hkM
  obtain ⟨M0, mz0, rfl, hlM0, hmM0, hMe0⟩ := id hkM.1
  unfold maxLen at hmM0
  have HMe0 := Lib.hid hMe0
  clear hMe0
  obtain ⟨M1, mz1, rfl, hlM1, hmM1, hMe1⟩ := id hkM.2.1
  unfold maxLen at hmM1
  have HMe1 := Lib.hid hMe1
  clear hMe1
  obtain ⟨M2, mz2, rfl, hlM2, hmM2, hMe2⟩ := id hkM.2.2.1
  unfold maxLen at hmM2
  have HMe2 := Lib.hid hMe2
  clear hMe2
  obtain ⟨M3, mz3, rfl, hlM3, hmM3, hMe3⟩ := id hkM.2.2.2
  unfold maxLen at hmM3
  have HMe3 := Lib.hid hMe3
  clear hMe3
  clear hkM hMa
  have p00 : ∀ W, Since w0 W → W.cell? ⟨w.heap.size, 0, none⟩ = some (.int .i64 m.degree) := have_cell (by rw [hw0]; simp)
  have p01 : ∀ W, Since w0 W → W.cell? ⟨w.heap.size, 1, none⟩ = some (.int .i64 m.states) := have_cell (by rw [hw0]; simp)
  have p02 : ∀ W, Since w0 W → W.cell? ⟨w.heap.size, 2, none⟩ = some (.int .i64 m.messages) := have_cell (by rw [hw0]; simp)
  have p03 : ∀ W, Since w0 W → W.cell? ⟨w.heap.size, 3, none⟩ = some (.slice M0 m.start.length mz0) := have_cell (by rw [hw0]; simp)
  have p04 : ∀ W, Since w0 W → W.cell? ⟨w.heap.size, 4, none⟩ = some (.slice M1 m.send.length mz1) := have_cell (by rw [hw0]; simp)
  have p05 : ∀ W, Since w0 W → W.cell? ⟨w.heap.size, 5, none⟩ = some (.slice M2 m.clauses.length mz2) := have_cell (by rw [hw0]; simp)
  have p06 : ∀ W, Since w0 W → W.cell? ⟨w.heap.size, 6, none⟩ = some (.slice M3 m.output.length mz3) := have_cell (by rw [hw0]; simp)
  have p10 : ∀ W, Since w0 W → W.cell? ⟨w.heap.size + 1, 0, none⟩ = some (.slice A n.ends.length c) := have_cell (by rw [hw0]; simp)
  have p11 : ∀ W, Since w0 W → W.cell? ⟨w.heap.size + 1, 1, none⟩ = some (.slice A2 n.ids.length c2) := have_cell (by rw [hw0]; simp)
  have p12 : ∀ W, Since w0 W → W.cell? ⟨w.heap.size + 1, 2, none⟩ = some (.slice A3 n.inputs.length c3) := have_cell (by rw [hw0]; simp)
  have Hb0 := Lib.hid hb0
  have Hw0 := Lib.hid hw0
  have HA := Lib.hid hA
  clear hA h
  clear hb0 hw0
  go_enter Try.func44, Try.ntmps44
  go_upto_region 1 with (fail)
  rw [← Hw0.out]
  refine wp_region_flow0 12 (Since w0) (since_refl _) ?_
  simp only [List.take_succ_cons, List.take_zero, List.drop_succ_cons, List.drop_zero]
  refine flow_val (v := ?_) rfl ?_ ?_; rotate_left; (intro W hW; go_simp; with_reducible rfl)
  simp only [Act.put, List.setIfInBounds_toArray, List.set_cons_succ, List.set_cons_zero]
  refine flow_op ?_ rfl ?_ ?_; rotate_left; (intro W hW; unfold Gives; go_simp; (with_reducible refine (isMachine_any _ _ _ _ m W (HM.out.keep hW.below)).mono ?_); rintro e W' ⟨rfl, hb3⟩; first | (refine ⟨?_, Since.trans hW hb3⟩; with_reducible rfl) | (subst hb3; refine ⟨?_, hW⟩; with_reducible rfl))
  simp only [Act.put, List.setIfInBounds_toArray, List.set_cons_succ, List.set_cons_zero]
  refine flow_val (v := ?_) rfl ?_ ?_; rotate_left; (intro W hW; go_simp; with_reducible rfl)
  simp only [Act.put, List.setIfInBounds_toArray, List.set_cons_succ, List.set_cons_zero]
  refine flow_gval (v := ?_) rfl rfl ?_ ?_; rotate_left; (intro hb; intro W hW; go_simp; with_reducible rfl)
  simp only [Act.put, List.setIfInBounds_toArray, List.set_cons_succ, List.set_cons_zero]
  refine flow_gop (v := ?_) rfl rfl ?_ ?_; rotate_left; (intro hb; intro W hW; unfold Gives; go_simp; (with_reducible refine (isNetwork_any _ _ _ n W (H.out.keep hW.below) Hil.out).mono ?_); rintro e W' ⟨rfl, hb3⟩; first | (refine ⟨?_, Since.trans hW hb3⟩; with_reducible rfl) | (subst hb3; refine ⟨?_, hW⟩; with_reducible rfl))
  simp only [Act.put, List.setIfInBounds_toArray, List.set_cons_succ, List.set_cons_zero]
  first | refine flow_and rfl rfl ?_ | (refine flow_val (v := ?_) rfl ?_ ?_; rotate_left; (intro W hW; go_simp; with_reducible rfl))
  simp only [Act.put, List.setIfInBounds_toArray, List.set_cons_succ, List.set_cons_zero]
  refine flow_val (v := ?_) rfl ?_ ?_; rotate_left; (intro W hW; go_simp; with_reducible rfl)
  simp only [Act.put, List.setIfInBounds_toArray, List.set_cons_succ, List.set_cons_zero]
  refine flow_gval (v := ?_) rfl rfl ?_ ?_; rotate_left; (intro hb; intro W hW; go_simp; with_reducible rfl)
  simp only [Act.put, List.setIfInBounds_toArray, List.set_cons_succ, List.set_cons_zero]
  refine flow_gval (v := ?_) rfl rfl ?_ ?_; rotate_left; (intro hb; intro W hW; go_simp; with_reducible rfl)
  simp only [Act.put, List.setIfInBounds_toArray, List.set_cons_succ, List.set_cons_zero]
  refine flow_gop (v := ?_) rfl rfl ?_ ?_; rotate_left; (intro hb; intro W hW; unfold Gives; go_simp; (with_reducible refine (runsOn_any _ _ _ _ _ _ _ m n W (HM.out.keep hW.below) (H.out.keep hW.below) (by simpa using (Bool.and_eq_true_iff.1 (by simpa using hb)).1) (by simpa using (Bool.and_eq_true_iff.1 (by simpa using hb)).2)).mono ?_); rintro e W' ⟨rfl, hb3⟩; first | (refine ⟨?_, Since.trans hW hb3⟩; with_reducible rfl) | (subst hb3; refine ⟨?_, hW⟩; with_reducible rfl))
  simp only [Act.put, List.setIfInBounds_toArray, List.set_cons_succ, List.set_cons_zero]
  first | refine flow_and rfl rfl ?_ | (refine flow_val (v := ?_) rfl ?_ ?_; rotate_left; (intro W hW; go_simp; with_reducible rfl))
  simp only [Act.put, List.setIfInBounds_toArray, List.set_cons_succ, List.set_cons_zero]
  refine flow_val (v := ?_) rfl ?_ ?_; rotate_left; (intro W hW; go_simp; with_reducible rfl)
  simp only [Act.put, List.setIfInBounds_toArray, List.set_cons_succ, List.set_cons_zero]
  intro W hW
  have HW := Lib.hid hW
  clear hW
  go_wp2
  go_ret
  exact ⟨rfl, Since.after Hb0.out HW.out⟩
end Go.Proofs.Ytlfehdikgbgloaa
namespace Go.Proofs.Ytlfehdikgbgloaa
open Go.RowKit
/-! the search for labels as a machine: the labels, the place, the steps made -/
def srch (good : List Int → Nat → Bool) (most lim : Int) : Nat → List Int → Nat → Int → List Int × Int × Int
  | 0, _, _, made => ([], 0, made)
  | f + 1, ls, v, made =>
    if v < ls.length then
      if ls.getD v 0 = most then (if v = 0 then ([], 2, made) else srch good most lim f (ls.set v (-1)) (v - 1) made)
      else if made = lim then ([], 3, made)
      else srch good most lim f (ls.set v (ls.getD v 0 + 1)) (if good (ls.set v (ls.getD v 0 + 1)) v then v + 1 else v) (made + 1)
    else (ls, 1, made)
theorem srch_end {good : List Int → Nat → Bool} {most lim made : Int} {f v : Nat} {ls : List Int} (h : ¬ v < ls.length) : srch good most lim (f + 1) ls v made = (ls, 1, made) := by simp only [srch, if_neg h]
theorem srch_none {good : List Int → Nat → Bool} {most lim made : Int} {f : Nat} {ls : List Int} (h : 0 < ls.length) (hm : ls.getD 0 0 = most) : srch good most lim (f + 1) ls 0 made = ([], 2, made) := by simp only [srch, if_pos h, if_pos hm, if_pos]
theorem srch_back {good : List Int → Nat → Bool} {most lim made : Int} {f v : Nat} {ls : List Int} (h : v < ls.length) (hm : ls.getD v 0 = most) (h0 : ¬ v = 0) : srch good most lim (f + 1) ls v made = srch good most lim f (ls.set v (-1)) (v - 1) made := by simp only [srch, if_pos h, if_pos hm, if_neg h0]
theorem srch_stop {good : List Int → Nat → Bool} {most lim : Int} {f v : Nat} {ls : List Int} (h : v < ls.length) (hm : ¬ ls.getD v 0 = most) : srch good most lim (f + 1) ls v lim = ([], 3, lim) := by simp only [srch, if_pos h, if_neg hm, if_pos]
theorem srch_inc {good : List Int → Nat → Bool} {most lim made : Int} {f v : Nat} {ls : List Int} (h : v < ls.length) (hm : ¬ ls.getD v 0 = most) (hl : ¬ made = lim) : srch good most lim (f + 1) ls v made = srch good most lim f (ls.set v (ls.getD v 0 + 1)) (if good (ls.set v (ls.getD v 0 + 1)) v then v + 1 else v) (made + 1) := by simp only [srch, if_pos h, if_neg hm, if_neg hl]
theorem getD_set (ls : List Int) (v j : Nat) (x : Int) (hj : j < ls.length) : (ls.set v x).getD j 0 = if v = j then x else ls.getD j 0 := by
  simp only [List.getD_eq_getElem?_getD, List.getElem?_set]
  split
  · rename_i e; subst e; simp [hj]
  · rfl
/-- what is so ahead of a round -/
structure St (N : Nat) (most : Int) (ls : List Int) (v : Nat) : Prop where
  len : ls.length = N
  lo : ∀ j, j < v → j < N → 0 ≤ ls.getD j 0 ∧ ls.getD j 0 ≤ most
  at_ : v < N → -1 ≤ ls.getD v 0 ∧ ls.getD v 0 ≤ most
  hi : ∀ j, v < j → j < N → ls.getD j 0 = -1
/-- what is so when a label has been raised -/
structure Up (N : Nat) (most : Int) (ls : List Int) (v : Nat) : Prop where
  len : ls.length = N
  lo : ∀ j, j ≤ v → j < N → 0 ≤ ls.getD j 0 ∧ ls.getD j 0 ≤ most
  hi : ∀ j, v < j → j < N → ls.getD j 0 = -1
theorem St.start (N : Nat) (most : Int) (hm : 0 ≤ most) : St N most (List.replicate N (-1)) 0 where
  len := by simp
  lo := fun j hj => by omega
  at_ := fun h => by simp [List.getD_eq_getElem?_getD, List.getElem?_replicate, h]; omega
  hi := fun j _ h => by simp [List.getD_eq_getElem?_getD, List.getElem?_replicate, h]
theorem St.back {N : Nat} {most : Int} {ls : List Int} {v : Nat} (h : St N most ls v) (h0 : ¬ v = 0) : St N most (ls.set v (-1)) (v - 1) where
  len := by simp [h.len]
  lo := fun j hj hn => by rw [getD_set _ _ _ _ (by rw [h.len]; exact hn), if_neg (by omega)]; exact h.lo j (by omega) hn
  at_ := fun hn => by rw [getD_set _ _ _ _ (by rw [h.len]; exact hn), if_neg (by omega)]; have := h.lo (v - 1) (by omega) hn; omega
  hi := fun j hj hn => by
    rw [getD_set _ _ _ _ (by rw [h.len]; exact hn)]
    split
    · rfl
    · exact h.hi j (by omega) hn
theorem St.up {N : Nat} {most : Int} {ls : List Int} {v : Nat} (h : St N most ls v) (hv : v < N) (hm : ¬ ls.getD v 0 = most) : Up N most (ls.set v (ls.getD v 0 + 1)) v where
  len := by simp [h.len]
  lo := fun j hj hn => by
    rw [getD_set _ _ _ _ (by rw [h.len]; exact hn)]
    have := h.at_ hv
    split
    · omega
    · exact h.lo j (by omega) hn
  hi := fun j hj hn => by rw [getD_set _ _ _ _ (by rw [h.len]; exact hn), if_neg (by omega)]; exact h.hi j hj hn
theorem Up.stay {N : Nat} {most : Int} {ls : List Int} {v : Nat} (h : Up N most ls v) : St N most ls v where
  len := h.len
  lo := fun j hj hn => h.lo j (by omega) hn
  at_ := fun hn => by have := h.lo v (Nat.le_refl _) hn; omega
  hi := h.hi
theorem Up.on {N : Nat} {most : Int} {ls : List Int} {v : Nat} (h : Up N most ls v) (hm : 0 ≤ most) : St N most ls (v + 1) where
  len := h.len
  lo := fun j hj hn => h.lo j (by omega) hn
  at_ := fun hn => by have := h.hi (v + 1) (by omega) hn; omega
  hi := fun j hj hn => h.hi j (by omega) hn
/-- how many rounds are left at most -/
def leftM (lim made : Int) (N v : Nat) : Nat := (lim - made).toNat * (N + 2) + v + 1
theorem left_back {lim made : Int} {N v : Nat} (h0 : ¬ v = 0) : leftM lim made N (v - 1) + 1 ≤ leftM lim made N v := by unfold leftM; omega
theorem left_inc {lim made : Int} {N v v' : Nat} (h : made ≤ lim) (hl : ¬ made = lim) (hv : v' ≤ v + 1) : leftM lim (made + 1) N v' + 1 ≤ leftM lim made N v := by
  unfold leftM
  have e : (lim - made).toNat = (lim - (made + 1)).toNat + 1 := by omega
  rw [e, Nat.add_mul, Nat.one_mul]
  omega
/-- node w and all its neighbours are not behind v -/
def knownB (n : Net) (w : Int) (v : Nat) : Bool := decide (w ≤ v) && ((n.ends.getD w.toNat []).map fun e => e.1).all (inB 0 v)
/-- node w and all its neighbours have labels -/
def fullB (n : Net) (ls : List Int) (w : Int) : Bool := decide (0 ≤ ls.getD w.toNat 0) && !(nearB ls (n.ends.getD w.toNat [])).contains (-1)
def viewG (n : Net) (v : Nat) : List Int := ((n.ends.getD v []).map fun e => e.1) ++ [(v : Int)]
def goodG (n : Net) (acc : List Int → Nat → Bool) (ls : List Int) (v : Nat) : Bool := (viewG n v).all fun w => !knownB n w v || acc ls w.toNat
theorem full_known {n : Net} {most : Int} {ls : List Int} {v : Nat} {w : Int} (hn : netOk n = true) (h : Up n.ends.length most ls v) (h0 : 0 ≤ w) (h1 : w < n.ends.length) : fullB n ls w = knownB n w v := by
  obtain ⟨k, rfl⟩ := Int.eq_ofNat_of_zero_le h0
  have hk : k < n.ends.length := by omega
  obtain ⟨es, hes⟩ := getx n.ends k hk
  obtain ⟨-, hin⟩ := netOk_row hn hes
  have own : ∀ j : Nat, j < n.ends.length → (0 ≤ ls.getD j 0 ↔ j ≤ v) := fun j hj => by
    constructor
    · intro hp
      by_cases hjv : j ≤ v
      · exact hjv
      · have := h.hi j (by omega) hj; omega
    · intro hjv; exact (h.lo j hjv hj).1
  have hg : n.ends.getD k [] = es := by simp [List.getD_eq_getElem?_getD, hes]
  unfold fullB knownB
  simp only [Int.toNat_natCast, hg]
  rw [Bool.eq_iff_iff]
  simp only [Bool.and_eq_true, decide_eq_true_eq, Bool.not_eq_true', List.all_eq_true, List.mem_map, forall_exists_index, and_imp, forall_apply_eq_imp_iff₂]
  rw [own k hk]
  constructor
  · rintro ⟨a, b⟩
    refine ⟨by omega, fun e he => inB_iff.2 ?_⟩
    obtain ⟨i1, i2⟩ := hin e he
    refine ⟨i1, ?_⟩
    have hj : e.1.toNat < n.ends.length := by omega
    by_cases hv : e.1.toNat ≤ v
    · omega
    · have hm := h.hi e.1.toNat (by omega) hj
      have : (nearB ls es).contains (-1) = true := by rw [List.contains_iff_mem]; exact List.mem_map.2 ⟨e, he, hm⟩
      rw [this] at b; cases b
  · rintro ⟨a, b⟩
    refine ⟨by omega, ?_⟩
    rw [Bool.eq_false_iff]
    intro hc
    rw [List.contains_iff_mem] at hc
    obtain ⟨e, he, hm⟩ := List.mem_map.1 hc
    obtain ⟨i1, i2⟩ := hin e he
    have := inB_iff.1 (b e he)
    have := (own e.1.toNat (by omega)).2 (by omega)
    omega
theorem known_seen {n : Net} {most : Int} {ls : List Int} {v : Nat} {w : Int} (hn : netOk n = true) (h : Up n.ends.length most ls v) (h0 : 0 ≤ w) (h1 : w < n.ends.length) (hk : knownB n w v = true) : ∀ x ∈ ls.getD w.toNat 0 :: nearB ls (n.ends.getD w.toNat []), 0 ≤ x ∧ x ≤ most := by
  obtain ⟨k, rfl⟩ := Int.eq_ofNat_of_zero_le h0
  have hk' : k < n.ends.length := by omega
  obtain ⟨es, hes⟩ := getx n.ends k hk'
  obtain ⟨-, hin⟩ := netOk_row hn hes
  have hg : n.ends.getD k [] = es := by simp [List.getD_eq_getElem?_getD, hes]
  unfold knownB at hk
  simp only [Int.toNat_natCast, hg] at hk ⊢
  simp only [Bool.and_eq_true, decide_eq_true_eq, List.all_eq_true, List.mem_map, forall_exists_index, and_imp, forall_apply_eq_imp_iff₂] at hk
  intro x hx
  rcases List.mem_cons.1 hx with rfl | hx
  · exact h.lo k (by omega) hk'
  · obtain ⟨e, he, rfl⟩ := List.mem_map.1 hx
    obtain ⟨i1, i2⟩ := hin e he
    have := inB_iff.1 (hk.2 e he)
    exact h.lo e.1.toNat (by omega) (by omega)
theorem view_in {n : Net} {v : Nat} (hn : netOk n = true) (hv : v < n.ends.length) : ∀ w ∈ viewG n v, 0 ≤ w ∧ w < n.ends.length := by
  intro w hw
  obtain ⟨es, hes⟩ := getx n.ends v hv
  obtain ⟨-, hin⟩ := netOk_row hn hes
  have hg : n.ends.getD v [] = es := by simp [List.getD_eq_getElem?_getD, hes]
  unfold viewG at hw
  rw [hg] at hw
  rcases List.mem_append.1 hw with hw | hw
  · obtain ⟨e, he, rfl⟩ := List.mem_map.1 hw; exact hin e he
  · simp at hw; subst hw; omega
end Go.Proofs.Ytlfehdikgbgloaa
namespace Go.Proofs.Ytlfehdikgbgloaa
open Go.RowKit
/-! the reference's search -/
/-- what a node of a good network has -/
theorem node_at {n : Net} (h : netOk n = true) {k : Nat} (hk : k < n.ends.length) :
    n.ends[k]? = some (n.ends.getD k []) ∧ (n.ends.getD k []).length ≤ 6 ∧ (∀ e ∈ n.ends.getD k [], 0 ≤ e.1 ∧ e.1 < n.ends.length) ∧ (n.ids.length ≠ 0 → n.ids[k]? = some (n.ids.getD k 0)) ∧ n.inputs[k]? = some (n.inputs.getD k 0) := by
  obtain ⟨es, hes⟩ := getx n.ends k hk
  have e : n.ends.getD k [] = es := by simp [List.getD_eq_getElem?_getD, hes]
  obtain ⟨r1, r2⟩ := netOk_row h hes
  unfold netOk at h
  simp only [Bool.and_eq_true] at h
  obtain ⟨⟨⟨-, i1⟩, i2⟩, -⟩ := h
  unfold inputsB at i2
  simp only [Bool.and_eq_true, beq_iff_eq] at i2
  obtain ⟨ink, hink⟩ := getx n.inputs k (by omega)
  have hids : n.ids.length ≠ 0 → n.ids[k]? = some (n.ids.getD k 0) := fun h0 => by
    unfold idsB at i1
    simp only [Bool.or_eq_true, Bool.and_eq_true, beq_iff_eq] at i1
    have : n.ids.length = n.ends.length := by
      rcases i1 with e | ⟨e, -⟩
      · exact absurd (by simpa using e) h0
      · omega
    have hk' : k < n.ids.length := by omega
    rw [List.getD_eq_getElem?_getD, List.getElem?_eq_getElem hk']; rfl
  rw [e]
  exact ⟨hes, r1, r2, hids, by rw [hink]; simp [hink]⟩
/-- the kinds of searches -/
def KindOk (s m most : Int) : Prop := (s = 0 ∧ 3 ≤ m ∧ m ≤ 40 ∧ most = m - 1) ∨ (1 ≤ s ∧ s ≤ 5 ∧ 0 ≤ most ∧ most ≤ 999999999999)
theorem KindOk.most {s m most : Int} (h : KindOk s m most) : 0 ≤ most ∧ most ≤ 999999999999 := by unfold KindOk at h; omega
def accG (n : Net) (s m : Int) (ls : List Int) (k : Nat) : Bool := if s = 0 then modS m (ls.getD k 0) (nearB ls (n.ends.getD k [])) else accAt n s ls k
section
variable {W W' : World} {B : Nat} {ve vi vn vl : Value} {s m most lim st : Int}
end
end Go.Proofs.Ytlfehdikgbgloaa
namespace Go.Proofs.Ytlfehdikgbgloaa
open Go.RowKit
theorem all_take_snoc {p : Int → Bool} {xs : List Int} {j : Nat} {x : Int} (hx : xs[j]? = some x) (h : (xs.take j).all p = true) (hp : p x = true) : (xs.take (j + 1)).all p = true := by
  rw [take_snoc hx, List.all_append, h]
  simp [hp]
theorem viewG_len (n : Net) (v : Nat) : (viewG n v).length = ((n.ends.getD v []).map fun e => e.1).length + 1 := by simp [viewG]
end Go.Proofs.Ytlfehdikgbgloaa
namespace Go.Proofs.Ytlfehdikgbgloaa
open Go.RowKit
/-- the search of the reference, as a whole -/
def srchR (n : Net) (s m most lim : Int) : List Int × Int × Int := srch (goodG n (accG n s m)) most lim (leftM lim 0 n.ends.length 0) (List.replicate n.ends.length (-1)) 0 0
theorem own_other {W : World} {base b k : Nat} {u : Value} {xs : List Int} (h : Own W base u xs) (hd : u.ownBlock ≠ some b) (v : Value) : Own (W.setCell ⟨b, k, none⟩ v) base u xs :=
  ownsRow_stable h fun j hj => Below.heap_setCell W _ v j (fun e => hd (by simp at hj; rw [hj, e]))
theorem getD_some {ls : List Int} {v : Nat} (h : v < ls.length) : ls[v]? = some (ls.getD v 0) := by rw [List.getD_eq_getElem?_getD, List.getElem?_eq_getElem h]; rfl
end Go.Proofs.Ytlfehdikgbgloaa
namespace Go.Proofs.Ytlfehdikgbgloaa
open Go.RowKit
-- the least natural number that is not in a list
def leastGo (xs : List Int) : Nat → Nat → Nat
  | 0, c => c
  | f + 1, c => if hasB xs c then leastGo xs f (c + 1) else c
def leastB (xs : List Int) : Int := (leastGo xs (xs.length + 1) 0 : Nat)
theorem pigeon : ∀ (c : Nat) (xs : List Int), (∀ k, k < c → ((k : Nat) : Int) ∈ xs) → c ≤ xs.length
  | 0, _, _ => Nat.zero_le _
  | c + 1, xs, h => by
    have hm := h c (Nat.lt_succ_self c)
    have := pigeon c (xs.erase (c : Int)) (fun k hk => (List.mem_erase_of_ne (by omega)).2 (h k (by omega)))
    rw [List.length_erase_of_mem hm] at this
    have : 0 < xs.length := List.length_pos_of_mem hm
    omega
theorem leastGo_eq {xs : List Int} {c : Nat} (h1 : ∀ k, k < c → hasB xs (k : Nat) = true) (h2 : hasB xs (c : Nat) = false) : ∀ (f j : Nat), j ≤ c → c - j < f → leastGo xs f j = c
  | 0, _, _, h => absurd h (Nat.not_lt_zero _)
  | f + 1, j, hj, hf => by
    unfold leastGo
    by_cases e : j = c
    · subst e; rw [h2]; rfl
    · rw [h1 j (by omega), if_pos rfl]
      exact leastGo_eq h1 h2 f (j + 1) (by omega) (by omega)
theorem pigeonB {xs : List Int} {c : Nat} (h1 : ∀ k, k < c → hasB xs (k : Nat) = true) : c ≤ xs.length :=
  pigeon c xs (fun k hk => by have := h1 k hk; unfold hasB at this; simpa using this)
theorem leastB_eq {xs : List Int} {c : Nat} (h1 : ∀ k, k < c → hasB xs (k : Nat) = true) (h2 : hasB xs (c : Nat) = false) : leastB xs = c := by
  have := pigeonB h1
  unfold leastB
  rw [leastGo_eq h1 h2 _ 0 (Nat.zero_le _) (by omega)]
theorem least_ex {P : Nat → Bool} : ∀ (n : Nat), P n = false → ∃ c, c ≤ n ∧ P c = false ∧ ∀ k, k < c → P k = true
  | 0, h => ⟨0, Nat.le_refl _, h, fun k hk => absurd hk (Nat.not_lt_zero _)⟩
  | n + 1, h => by
    by_cases hx : ∃ k, k ≤ n ∧ P k = false
    · obtain ⟨k, hk, hp⟩ := hx
      obtain ⟨c, hc, h1, h2⟩ := least_ex k hp
      exact ⟨c, by omega, h1, h2⟩
    · refine ⟨n + 1, Nat.le_refl _, h, fun k hk => ?_⟩
      cases hp : P k
      · exact absurd ⟨k, by omega, hp⟩ hx
      · rfl
theorem leastB_bd (xs : List Int) : 0 ≤ leastB xs ∧ leastB xs ≤ xs.length := by
  have hex : ∃ c : Nat, hasB xs (c : Nat) = false := by
    apply Classical.byContradiction
    intro h
    have := pigeonB (xs := xs) (c := xs.length + 1) (fun k _ => by
      cases hp : hasB xs (k : Nat)
      · exact absurd ⟨k, hp⟩ h
      · rfl)
    omega
  obtain ⟨m, hm⟩ := hex
  obtain ⟨c, -, h1, h2⟩ := least_ex (P := fun k => hasB xs (k : Nat)) m hm
  rw [leastB_eq h2 h1]
  have := pigeonB h2
  omega
-- the tree
def least1 (a b : Int) : Int := if a < b then a else b
def minB : List Int → Int
  | [] => 0
  | x :: xs => xs.foldl min x
def treeStep (a x : Int) : Int := least1 a (x + 1)
theorem tree_step : ∀ (xs : List Int) (k a : Int), xs.foldl treeStep (min k (a + 1)) = min k (xs.foldl min a + 1)
  | [], _, _ => rfl
  | y :: ys, k, a => by
    have : treeStep (min k (a + 1)) y = min k (min a y + 1) := by unfold treeStep least1; simp only [Int.min_def]; split <;> split <;> split <;> (try split) <;> omega
    rw [List.foldl_cons, List.foldl_cons, this]
    exact tree_step ys k (min a y)
theorem tree_min {xs : List Int} (h : xs ≠ []) (k : Int) : xs.foldl treeStep k = min k (minB xs + 1) := by
  match xs, h with
  | x :: ys, _ =>
    have : treeStep k x = min k (x + 1) := by unfold treeStep least1; rw [Int.min_def]; split <;> split <;> omega
    rw [List.foldl_cons, this]
    exact tree_step ys k x
theorem treeStep_bd : ∀ (xs : List Int) (k a : Int), 0 ≤ a → a ≤ k → (∀ x ∈ xs, 0 ≤ x) → 0 ≤ xs.foldl treeStep a ∧ xs.foldl treeStep a ≤ k
  | [], _, _, h0, h1, _ => ⟨h0, h1⟩
  | y :: ys, k, a, h0, h1, h => by
    have hy := h y (by simp)
    have : 0 ≤ treeStep a y ∧ treeStep a y ≤ k := by unfold treeStep least1; split <;> omega
    exact treeStep_bd ys k _ this.1 this.2 (fun x hx => h x (List.mem_cons_of_mem _ hx))
def treeB (n : Net) (ls : List Int) (v : Nat) : Int := if n.inputs.getD v 0 = 1 then 0 else (nearB ls (rowOf n v)).foldl treeStep (n.ends.length : Int)
-- the matching
def wantB (ls : List Int) (e : Int × Int) : Bool := ls.getD e.1.toNat 0 == e.2 + 1
def freeB (ls : List Int) (e : Int × Int) : Bool := ls.getD e.1.toNat 0 == 0
def eidx (p : Int × Int → Bool) (es : List (Int × Int)) : Int := match es.findIdx? p with | some i => (i : Int) | none => -1
theorem eidx_bd (p : Int × Int → Bool) (es : List (Int × Int)) : -1 ≤ eidx p es ∧ eidx p es < es.length := by
  unfold eidx
  cases h : es.findIdx? p with
  | none => show -1 ≤ (-1 : Int) ∧ (-1 : Int) < _; omega
  | some i =>
    rw [List.findIdx?_eq_some_iff_getElem] at h
    obtain ⟨hi, -⟩ := h
    show -1 ≤ (i : Int) ∧ (i : Int) < _
    omega
def stayB (ls : List Int) (e : Int × Int) : Bool := freeB ls e || wantB ls e
def matchB (ls : List Int) (es : List (Int × Int)) (s : Int) : Int :=
  if 0 < s then (if stayB ls (es.getD (s - 1).toNat (0, 0)) = true then s else 0)
  else if 0 ≤ eidx (wantB ls) es then eidx (wantB ls) es + 1 else eidx (freeB ls) es + 1
-- the token
def beforeB (n : Net) (ls : List Int) (v : Nat) : Int := ls.getD ((rowOf n v).getD 1 (0, 0)).1.toNat 0
def tokenB (n : Net) (ls : List Int) (v : Nat) : Int :=
  if n.inputs.getD v 0 = 1 then (if ls.getD v 0 = beforeB n ls v then (ls.getD v 0 + 1) % ((n.ends.length : Int) + 1) else ls.getD v 0) else beforeB n ls v
def nextB (n : Net) (r : Int) (ls : List Int) (v : Nat) : Int :=
  if r = 1 then treeB n ls v
  else if r = 2 then (if hasB (nearB ls (rowOf n v)) (ls.getD v 0) = true then leastB (nearB ls (rowOf n v)) else ls.getD v 0)
  else if r = 3 then (if hasB (nearB ls (rowOf n v)) 1 = true then 0 else 1)
  else if r = 4 then matchB ls (rowOf n v) (ls.getD v 0)
  else tokenB n ls v
def stAt (n : Net) (r : Int) (ls : List Int) (v : Nat) : Bool := inB 0 (countB n r v - 1) (ls.getD v 0)
def stAll (n : Net) (r : Int) (ls : List Int) : Bool := (List.range n.ends.length).all (stAt n r ls)
def sitB (n : Net) (r : Int) (ls : List Int) : Bool := ruleOkB n r && ((ls.length : Int) == (n.ends.length : Int)) && stAll n r ls
/-- what the walks need -/
structure SitP (n : Net) (r : Int) (ls : List Int) : Prop where
  net : netOk n = true
  lo : 1 ≤ r
  hi : r ≤ 5
  runs : runsB n r = true
  len : ls.length = n.ends.length
  st : ∀ v, v < n.ends.length → 0 ≤ ls.getD v 0 ∧ ls.getD v 0 < countB n r v
theorem sitP_of {n : Net} {r : Int} {ls : List Int} (h : sitB n r ls = true) : SitP n r ls := by
  unfold sitB ruleOkB inB stAll stAt inB at h
  simp only [Bool.and_eq_true, decide_eq_true_eq, beq_iff_eq, List.all_eq_true, List.mem_range] at h
  obtain ⟨⟨⟨⟨h1, h2, h3⟩, h4⟩, h5⟩, h6⟩ := h
  exact ⟨h1, h2, h3, h4, by omega, fun v hv => by have := h6 v hv; omega⟩
theorem SitP.ring {n : Net} {ls : List Int} (h : SitP n 5 ls) {v : Nat} (hv : v < n.ends.length) : (rowOf n v).length = 2 := by
  have hr := h.runs
  unfold runsB ringB at hr
  simp only [Bool.and_eq_true, Bool.or_eq_true, bne_iff_ne, ne_eq, not_true_eq_false, false_or, Bool.not_eq_true', List.any_eq_false] at hr
  have := hr.2.1.1.1 n.ends[v] (List.getElem_mem hv)
  have e : rowOf n v = n.ends[v] := by unfold rowOf; rw [List.getD_eq_getElem?_getD, List.getElem?_eq_getElem hv]; rfl
  rw [e]
  unfold rowBad at this
  simp only [Bool.or_eq_true, bne_iff_ne, ne_eq, not_or, Decidable.not_not] at this
  omega
theorem countB_le {n : Net} (hn : netOk n = true) {r : Int} {v : Nat} (hv : v < n.ends.length) : countB n r v ≤ 41 := by
  have hm := (most_degs hn).2
  have hl := (netOk_len hn).2
  obtain ⟨es, hes⟩ := getx n.ends v hv
  have h6 := (netOk_row hn hes).1
  have e : n.ends.getD v [] = es := getD_of hes
  unfold countB
  rw [e]
  split
  · omega
  · split
    · omega
    · split <;> omega
theorem near_mem {ls : List Int} {es : List (Int × Int)} {x : Int} (h : x ∈ nearB ls es) : ∃ e ∈ es, ls.getD e.1.toNat 0 = x := by
  unfold nearB at h
  obtain ⟨e, he, rfl⟩ := List.mem_map.1 h
  exact ⟨e, he, rfl⟩
theorem mostB_ge {xs : List Int} {x : Int} (h : x ∈ xs) : x ≤ mostB xs := by
  have key : ∀ (xs : List Int) (a : Int), (∀ x ∈ xs, x ≤ xs.foldl mx a) ∧ a ≤ xs.foldl mx a := by
    intro xs
    induction xs with
    | nil => intro a; exact ⟨by simp, Int.le_refl _⟩
    | cons y ys ih =>
      intro a
      have h1 := ih (mx a y)
      have h2 : a ≤ mx a y ∧ y ≤ mx a y := by unfold mx; split <;> omega
      refine ⟨fun x hx => ?_, by rw [List.foldl_cons]; omega⟩
      rcases List.mem_cons.1 hx with rfl | hx
      · rw [List.foldl_cons]; omega
      · exact h1.1 x hx
  exact (key xs 0).1 x h
theorem row_bd {n : Net} (h : netOk n = true) {k : Nat} {es : List (Int × Int)} (hes : n.ends[k]? = some es) {e : Int × Int} (he : e ∈ es) : (0 ≤ e.1 ∧ e.1 < n.ends.length) ∧ 0 ≤ e.2 ∧ e.2 ≤ 5 := by
  have hk := lt_of_get hes
  have h1 := (netOk_row h hes).2 e he
  refine ⟨h1, ?_⟩
  have h' := h
  unfold netOk at h
  rw [Bool.and_eq_true, List.all_eq_true] at h
  have := h.2 k (List.mem_range.2 hk)
  rw [getD_of hes] at this
  unfold rowOkB at this
  rw [Bool.and_eq_true, List.all_eq_true] at this
  obtain ⟨j, hj⟩ := List.getElem?_of_mem he
  have := this.2 j (List.mem_range.2 (lt_of_get hj))
  rw [getD_of hj] at this
  unfold endOkB at this
  rw [Bool.and_eq_true] at this
  have hp := this.1
  unfold hasPortB inB at hp
  simp only [Bool.and_eq_true, decide_eq_true_eq] at hp
  obtain ⟨-, h6, -⟩ := node_at h' (k := e.1.toNat) (by omega)
  omega
theorem SitP.row {n : Net} {r : Int} {ls : List Int} (h : SitP n r ls) {v : Nat} (hv : v < n.ends.length) : n.ends[v]? = some (rowOf n v) ∧ (rowOf n v).length ≤ 6 ∧ ∀ e ∈ rowOf n v, (0 ≤ e.1 ∧ e.1 < ls.length) ∧ 0 ≤ e.2 ∧ e.2 ≤ 5 := by
  obtain ⟨es, hes⟩ := getx n.ends v hv
  have hr := netOk_row h.net hes
  have e : rowOf n v = es := getD_of hes
  rw [e]
  refine ⟨hes, hr.1, fun x hx => ?_⟩
  have := row_bd h.net hes hx
  rw [h.len]
  omega
theorem SitP.at {n : Net} {r : Int} {ls : List Int} (h : SitP n r ls) {x : Int} (h0 : 0 ≤ x) (h1 : x < ls.length) : 0 ≤ ls.getD x.toNat 0 ∧ ls.getD x.toNat 0 < countB n r x.toNat := h.st _ (by have := h.len; omega)
theorem SitP.near {n : Net} {r : Int} {ls : List Int} (h : SitP n r ls) {v : Nat} (hv : v < n.ends.length) : ∀ x ∈ nearB ls (rowOf n v), 0 ≤ x ∧ x ≤ 40 := by
  intro x hx
  obtain ⟨e, he, rfl⟩ := near_mem hx
  have hb := ((h.row hv).2.2 e he).1
  have h1 := h.at hb.1 hb.2
  have h2 := countB_le h.net (r := r) (v := e.1.toNat) (by have := h.len; omega)
  omega
theorem next_bd {n : Net} {r : Int} {ls : List Int} (h : SitP n r ls) {v : Nat} (hv : v < n.ends.length) : 0 ≤ nextB n r ls v ∧ nextB n r ls v < countB n r v := by
  have hs := h.st v hv
  have hnr := h.near hv
  have hrow := h.row hv
  unfold nextB
  by_cases h1 : r = 1
  · rw [if_pos h1]
    have e : countB n r v = (n.ends.length : Int) + 1 := by subst h1; simp [countB]
    rw [e]
    unfold treeB
    split
    · omega
    · have := treeStep_bd (nearB ls (rowOf n v)) n.ends.length n.ends.length (by omega) (by omega) (fun x hx => (hnr x hx).1)
      omega
  rw [if_neg h1]
  by_cases h2 : r = 2
  · rw [if_pos h2]
    split
    · have hb := leastB_bd (nearB ls (rowOf n v))
      have e : countB n r v = mostB (degsB n) + 1 := by subst h2; simp [countB]
      have hl : ((nearB ls (rowOf n v)).length : Int) ≤ mostB (degsB n) := by
        apply mostB_ge
        rw [show (nearB ls (rowOf n v)).length = (rowOf n v).length by simp [nearB]]
        exact List.mem_map.2 ⟨rowOf n v, List.mem_of_getElem? hrow.1, rfl⟩
      omega
    · exact hs
  rw [if_neg h2]
  by_cases h3 : r = 3
  · rw [if_pos h3]
    have e : countB n r v = 2 := by subst h3; simp [countB]
    split <;> omega
  rw [if_neg h3]
  by_cases h4 : r = 4
  · rw [if_pos h4]
    have e : countB n r v = ((rowOf n v).length : Int) + 1 := by subst h4; simp [countB, rowOf]
    have i1 := eidx_bd (wantB ls) (rowOf n v)
    have i2 := eidx_bd (freeB ls) (rowOf n v)
    unfold matchB
    split
    · split <;> omega
    · split <;> omega
  rw [if_neg h4]
  obtain rfl : r = 5 := by have := h.lo; have := h.hi; omega
  have e : ∀ w, countB n 5 w = (n.ends.length : Int) + 1 := by intro w; simp [countB]
  have h2 := h.ring hv
  obtain ⟨x, hx⟩ := getx (rowOf n v) 1 (by omega)
  have hxb := (hrow.2.2 x (List.mem_of_getElem? hx)).1
  have hb : 0 ≤ beforeB n ls v ∧ beforeB n ls v < (n.ends.length : Int) + 1 := by
    unfold beforeB
    rw [getD_of hx]
    have := h.at hxb.1 hxb.2
    rw [e] at this
    exact this
  rw [e] at hs ⊢
  unfold tokenB
  split
  · split
    · have h1 := Int.emod_nonneg (ls.getD v 0 + 1) (show (n.ends.length : Int) + 1 ≠ 0 by omega)
      have h2 := Int.emod_lt_of_pos (ls.getD v 0 + 1) (show (0 : Int) < (n.ends.length : Int) + 1 by omega)
      omega
    · omega
  · exact hb
-- the enabled nodes and the moves
def restB (n : Net) (r : Int) (ls : List Int) (x : Int) : Bool := nextB n r ls x.toNat == ls.getD x.toNat 0
def enB (n : Net) (r : Int) (ls : List Int) : List Int := keptB (restB n r ls) (upto ls.length)
def putB (n : Net) (r : Int) (ls : List Int) (out : List Int) (v : Int) : List Int := out.set v.toNat (nextB n r ls v.toNat)
def moveB (n : Net) (r : Int) (ls set : List Int) : List Int := set.foldl (putB n r ls) ls
theorem putB_ok {n : Net} {r : Int} {ls out : List Int} (h : SitP n r ls) (ho : SitP n r out) {v : Int} (h0 : 0 ≤ v) (h1 : v < ls.length) : SitP n r (putB n r ls out v) := by
  have hb := next_bd h (v := v.toNat) (by have := h.len; omega)
  unfold putB
  refine { ho with len := by rw [List.length_set]; exact ho.len, st := fun w hw => ?_ }
  rw [List.getD_eq_getElem?_getD, List.getElem?_set]
  split
  · rename_i e
    subst e
    split
    · exact hb
    · rename_i hlt; exact absurd (show v.toNat < out.length by rw [ho.len]; exact hw) hlt
  · rw [← List.getD_eq_getElem?_getD]; exact ho.st w hw
theorem moveB_ok {n : Net} {r : Int} {ls : List Int} (h : SitP n r ls) : ∀ (set out : List Int), SitP n r out → (∀ v ∈ set, 0 ≤ v ∧ v < ls.length) → SitP n r (set.foldl (putB n r ls) out)
  | [], _, ho, _ => ho
  | v :: set, out, ho, hs => moveB_ok h set _ (putB_ok h ho (hs v (by simp)).1 (hs v (by simp)).2) (fun x hx => hs x (List.mem_cons_of_mem _ hx))
theorem enB_mem {n : Net} {r : Int} {ls : List Int} {v : Int} (h : v ∈ enB n r ls) : 0 ≤ v ∧ v < ls.length := by
  unfold enB keptB upto at h
  obtain ⟨h, -⟩ := List.mem_filter.1 h
  obtain ⟨i, hi, rfl⟩ := List.mem_map.1 h
  have := List.mem_range.1 hi
  simp only [Int.ofNat_eq_natCast]
  omega
-- the runs
def togB (n : Net) (r : Int) : Nat → List Int → Int → List Int × Int
  | 0, ls, k => (ls, k)
  | f + 1, ls, k => if (enB n r ls).length = 0 then (ls, k) else togB n r f (moveB n r ls (enB n r ls)) (k + 1)
def pickB (n : Net) (r : Int) (ps ls : List Int) (k : Nat) : Int := (enB n r ls).getD ((ps.getD (k % ps.length) 0) % ((enB n r ls).length : Int)).toNat 0
def cenB (n : Net) (r : Int) (ps : List Int) : Nat → List Int → Nat → List Int × Int
  | 0, ls, k => (ls, k)
  | f + 1, ls, k => if (enB n r ls).length = 0 then (ls, k) else cenB n r ps f (putB n r ls ls (pickB n r ps ls k)) (k + 1)
end Go.Proofs.Ytlfehdikgbgloaa
