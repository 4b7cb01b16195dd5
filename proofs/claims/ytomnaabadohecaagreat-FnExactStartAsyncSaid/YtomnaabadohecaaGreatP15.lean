/- Parts of the proof: walks of functions and plain laws. -/
import Derived.Test.YtomnaabadohecaaGreatP14
import Derived.Test.YtomnaabadohecaaGreatP12
import Derived.Test.YtomnaabadohecaaGreatP4
import Derived.Test.YtomnaabadohecaaGreatP6
namespace Go.Proofs.YtomnaabadohecaaGreat
open Go.RowKit
set_option maxRecDepth 100000 in
set_option maxHeartbeats 4000000 in
theorem runsOn_any (ma mb mc md ve vi vn : Value) (m : Mac) (n : Net) (w : World) (hMa : MacIn w ma mb mc md m) (h : NetIn w ve vi vn n) (hok : macOk m = true) (hn : netOk n = true) :
    Calls Tryz.prog 132 #[.agg #[.int .i64 m.degree, .int .i64 m.states, .int .i64 m.messages, ma, mb, mc, md], .agg #[ve, vi, vn]] w fun e w' => e = .returned (.bool (maOnB m n)) ∧ Below w.heap.size w w' := by
  rw [← runsOn_eq hn]
  have hn40 := (netOk_len hn).2
  have hil := (netOk_inp hn).1
  obtain ⟨w0, hw0⟩ : ∃ w0, w0 = ((w).alloc (.cells #[.int .i64 m.degree, .int .i64 m.states, .int .i64 m.messages, ma, mb, mc, md] 39)).alloc (.cells #[ve, vi, vn] 43) := ⟨_, rfl⟩
  have hb0 : Below w.heap.size w w0 := by rw [hw0]; exact (((Below.refl _ _).alloc (by simp <;> omega) _).alloc (by simp <;> omega) _)
  have H := Lib.hid (h.keep hb0)
  obtain ⟨h1, h2, h3⟩ := h.keep hb0
  obtain ⟨A, c, rfl, hlc, hm, hA⟩ := h1
  obtain ⟨A2, c2, rfl, _, hm2, _⟩ := h2
  obtain ⟨A3, c3, rfl, _, hm3, _⟩ := h3
  unfold maxLen at hm hm2 hm3
  have hkM := hMa.keep hb0
  have HM := Lib.hid hkM
  obtain ⟨M0, mz0, rfl, hlM0, hmM0, hMe0⟩ := id hkM.1
  unfold maxLen at hmM0
  have HMe0 := Lib.hid hMe0
  clear hMe0
  obtain ⟨M1, mz1, rfl, hlM1, hmM1, hMe1⟩ := id hkM.2.1
  unfold maxLen at hmM1
  have HMe1 := Lib.hid hMe1
  clear hMe1
  obtain ⟨M2, mz2, rfl, hlM2, hmM2, hMe2⟩ := id hkM.2.2.1
  unfold maxLen at hmM2
  have HMe2 := Lib.hid hMe2
  clear hMe2
  obtain ⟨M3, mz3, rfl, hlM3, hmM3, hMe3⟩ := id hkM.2.2.2
  unfold maxLen at hmM3
  have HMe3 := Lib.hid hMe3
  clear hMe3
  clear hkM hMa
  have p00 : ∀ W, Since w0 W → W.cell? ⟨w.heap.size, 0, none⟩ = some (.int .i64 m.degree) := have_cell (by rw [hw0]; simp)
  have p01 : ∀ W, Since w0 W → W.cell? ⟨w.heap.size, 1, none⟩ = some (.int .i64 m.states) := have_cell (by rw [hw0]; simp)
  have p02 : ∀ W, Since w0 W → W.cell? ⟨w.heap.size, 2, none⟩ = some (.int .i64 m.messages) := have_cell (by rw [hw0]; simp)
  have p03 : ∀ W, Since w0 W → W.cell? ⟨w.heap.size, 3, none⟩ = some (.slice M0 m.start.length mz0) := have_cell (by rw [hw0]; simp)
  have p04 : ∀ W, Since w0 W → W.cell? ⟨w.heap.size, 4, none⟩ = some (.slice M1 m.send.length mz1) := have_cell (by rw [hw0]; simp)
  have p05 : ∀ W, Since w0 W → W.cell? ⟨w.heap.size, 5, none⟩ = some (.slice M2 m.clauses.length mz2) := have_cell (by rw [hw0]; simp)
  have p06 : ∀ W, Since w0 W → W.cell? ⟨w.heap.size, 6, none⟩ = some (.slice M3 m.output.length mz3) := have_cell (by rw [hw0]; simp)
  have p10 : ∀ W, Since w0 W → W.cell? ⟨w.heap.size + 1, 0, none⟩ = some (.slice A n.ends.length c) := have_cell (by rw [hw0]; simp)
  have p11 : ∀ W, Since w0 W → W.cell? ⟨w.heap.size + 1, 1, none⟩ = some (.slice A2 n.ids.length c2) := have_cell (by rw [hw0]; simp)
  have p12 : ∀ W, Since w0 W → W.cell? ⟨w.heap.size + 1, 2, none⟩ = some (.slice A3 n.inputs.length c3) := have_cell (by rw [hw0]; simp)
  have Hb0 := Lib.hid hb0
  have Hw0 := Lib.hid hw0
  have HA := Lib.hid hA
  clear hA h
  clear hb0 hw0
  obtain ⟨hst, hsl, hd, _⟩ := macOk_start hok
  obtain ⟨x0, hx0⟩ := getx m.start 0 hsl
  obtain ⟨bb, off, u0, rfl, hc0, hu⟩ := HMe0.out 0 x0 hx0
  have r0 : ∀ W, Since w0 W → W.cell? ⟨bb, off, none⟩ = some u0 := fun W hW => bc hW (by simpa using hc0)
  obtain ⟨U0, y0, rfl, _, hy0, _⟩ := hu
  unfold maxLen at hy0
  have Hx0' := Lib.hid (show m.start.getD 0 [] = x0 by simp [List.getD, hx0])
  have Hil := Lib.hid hil
  have HI := Lib.hid H.out.2.2
  have hs0 : Since w0 w0 := since_refl _
  clear hc0 hx0 hn hok hst hd hil
  go_enter Tryz.func132, Tryz.ntmps132
  go_upto_region 1 with (fail)
  rw [← Hw0.out]
  go_wp2
  go_loopw [10] (fun i wr => ∃ k : Nat, k ≤ n.ends.length ∧ i = .int .i64 k ∧ (List.range k).all (runB m n) = true ∧ Since w0 wr) (fun i _ => n.ends.length - (intOf i).toNat)
  case atStart => exact ⟨0, Nat.zero_le _, rfl, rfl, hs0⟩
  case round =>
    obtain ⟨k, hk, rfl, hall, hsr⟩ := hrel
    have Hall := Lib.hid hall
    clear hall hs0
    by_cases hlt : k < n.ends.length
    · obtain ⟨es, hes⟩ := getx n.ends k hlt
      obtain ⟨b, offr, cr, ur, hA1, hkr, hc1, hrow⟩ := row_at H.out.es hes
      cases hA1
      obtain ⟨A1, z1, rfl, hz1, hz2, _⟩ := hrow
      unfold maxLen at hz2
      have q5 := have_cell hc1
      obtain ⟨y, hy⟩ := getx n.inputs k (by have := Hil.out; omega)
      obtain ⟨_, _, hv3, _, _, hA3⟩ := HI.out
      cases hv3
      obtain ⟨bi, offi, rfl, hci⟩ := hA3 k y hy
      have q6 := have_cell hci
      have Hrb : Hid (runB m n k = (decide ((es.length : Int) ≤ m.degree) && decide (y < (x0.length : Int)))) := by
        show _ = _
        unfold runB
        rw [Hx0'.out]
        simp [List.getD, hes, hy]
      have hki : k < n.inputs.length := by have := Hil.out; omega
      clear hes hc1 hy hci hA3
      go_upto_region 4 with (fail)
      refine wp_region_flow 18 (Since w0) (by kernel_rfl) (by kernel_rfl) (by simp) (since_drew hsr) ?_
      simp only [List.take_succ_cons, List.take_zero, List.drop_succ_cons, List.drop_zero]
      refine flow_val (v := ?_) rfl ?_ ?_; rotate_left; (intro W hW; go_simp; with_reducible rfl)
      simp only [Act.put, List.setIfInBounds_toArray, List.set_cons_succ, List.set_cons_zero]
      refine flow_val (v := ?_) rfl ?_ ?_; rotate_left; (intro W hW; go_simp; with_reducible rfl)
      simp only [Act.put, List.setIfInBounds_toArray, List.set_cons_succ, List.set_cons_zero]
      refine flow_val (v := ?_) rfl ?_ ?_; rotate_left; (intro W hW; go_simp; with_reducible rfl)
      simp only [Act.put, List.setIfInBounds_toArray, List.set_cons_succ, List.set_cons_zero]
      refine flow_val (v := ?_) rfl ?_ ?_; rotate_left; (intro W hW; go_simp; with_reducible rfl)
      simp only [Act.put, List.setIfInBounds_toArray, List.set_cons_succ, List.set_cons_zero]
      refine flow_val (v := ?_) rfl ?_ ?_; rotate_left; (intro W hW; go_simp; with_reducible rfl)
      simp only [Act.put, List.setIfInBounds_toArray, List.set_cons_succ, List.set_cons_zero]
      refine flow_val (v := ?_) rfl ?_ ?_; rotate_left; (intro W hW; go_simp; with_reducible rfl)
      simp only [Act.put, List.setIfInBounds_toArray, List.set_cons_succ, List.set_cons_zero]
      refine flow_gval (v := ?_) rfl rfl ?_ ?_; rotate_left; (intro hb; intro W hW; go_simp; with_reducible rfl)
      simp only [Act.put, List.setIfInBounds_toArray, List.set_cons_succ, List.set_cons_zero]
      refine flow_gval (v := ?_) rfl rfl ?_ ?_; rotate_left; (intro hb; intro W hW; go_simp; with_reducible rfl)
      simp only [Act.put, List.setIfInBounds_toArray, List.set_cons_succ, List.set_cons_zero]
      refine flow_gval (v := ?_) rfl rfl ?_ ?_; rotate_left; (intro hb; intro W hW; go_simp; with_reducible rfl)
      simp only [Act.put, List.setIfInBounds_toArray, List.set_cons_succ, List.set_cons_zero]
      refine flow_gval (v := ?_) rfl rfl ?_ ?_; rotate_left; (intro hb; intro W hW; go_simp; with_reducible rfl)
      simp only [Act.put, List.setIfInBounds_toArray, List.set_cons_succ, List.set_cons_zero]
      refine flow_gval (v := ?_) rfl rfl ?_ ?_; rotate_left; (intro hb; intro W hW; go_simp; with_reducible rfl)
      simp only [Act.put, List.setIfInBounds_toArray, List.set_cons_succ, List.set_cons_zero]
      refine flow_gval (v := ?_) rfl rfl ?_ ?_; rotate_left; (intro hb; intro W hW; go_simp; with_reducible rfl)
      simp only [Act.put, List.setIfInBounds_toArray, List.set_cons_succ, List.set_cons_zero]
      refine flow_gval (v := ?_) rfl rfl ?_ ?_; rotate_left; (intro hb; intro W hW; go_simp; with_reducible rfl)
      simp only [Act.put, List.setIfInBounds_toArray, List.set_cons_succ, List.set_cons_zero]
      refine flow_gval (v := ?_) rfl rfl ?_ ?_; rotate_left; (intro hb; intro W hW; go_simp; with_reducible rfl)
      simp only [Act.put, List.setIfInBounds_toArray, List.set_cons_succ, List.set_cons_zero]
      refine flow_gval (v := ?_) rfl rfl ?_ ?_; rotate_left; (intro hb; intro W hW; go_simp; with_reducible rfl)
      simp only [Act.put, List.setIfInBounds_toArray, List.set_cons_succ, List.set_cons_zero]
      refine flow_gval (v := ?_) rfl rfl ?_ ?_; rotate_left; (intro hb; intro W hW; go_simp; with_reducible rfl)
      simp only [Act.put, List.setIfInBounds_toArray, List.set_cons_succ, List.set_cons_zero]
      refine flow_gval (v := ?_) rfl rfl ?_ ?_; rotate_left; (intro hb; intro W hW; go_simp; with_reducible rfl)
      simp only [Act.put, List.setIfInBounds_toArray, List.set_cons_succ, List.set_cons_zero]
      first | refine flow_or rfl rfl ?_ | (refine flow_val (v := ?_) rfl ?_ ?_; rotate_left; (intro W hW; go_simp; with_reducible rfl))
      simp only [Act.put, List.setIfInBounds_toArray, List.set_cons_succ, List.set_cons_zero]
      intro W1 hW1
      have HW1 := Lib.hid hW1
      cases hg : (decide (m.degree < (es.length : Int)) || decide ((x0.length : Int) ≤ y))
      · have Hb : Hid (runB m n k = true) := by
          show _ = _
          rw [Hrb.out]
          simp only [Bool.or_eq_false_iff, decide_eq_false_iff_not] at hg
          simp only [Bool.and_eq_true, decide_eq_true_eq]
          omega
        clear hW1
        go_wp2
        go_roundw
        case rel => exact ⟨k + 1, by omega, by go_num, by rw [List.range_succ, List.all_append, Hall.out]; simpa using Hb.out, HW1.out⟩
        case measure => simp [intOf]; omega
      · have hr := Lib.hid (show runsOnB m n = false by
          unfold runsOnB
          rw [List.all_eq_false]
          refine ⟨k, List.mem_range.2 hlt, ?_⟩
          rw [Hrb.out]
          simp only [Bool.or_eq_true, decide_eq_true_eq] at hg
          simp only [Bool.and_eq_true, decide_eq_true_eq]
          omega)
        clear hW1
        go_wp2
        go_ret
        exact ⟨ret_false hr.out, Since.after Hb0.out HW1.out⟩
    · obtain rfl : k = n.ends.length := by omega
      have hr := Lib.hid (show runsOnB m n = true from Hall.out)
      have HS := Lib.hid hsr
      clear hlt hk hsr
      go_wp2
      go_ret
      exact ⟨ret_true hr.out, Since.after Hb0.out HS.out⟩
end Go.Proofs.YtomnaabadohecaaGreat
namespace Go.Proofs.YtomnaabadohecaaGreat
open Go.RowKit
end Go.Proofs.YtomnaabadohecaaGreat
namespace Go.Proofs.YtomnaabadohecaaGreat
open Go.RowKit
set_option maxRecDepth 100000 in
set_option maxHeartbeats 4000000 in
theorem maAsked_any (ma mb mc md ve vi vn : Value) (m : Mac) (n : Net) (w : World) (hMa : MacIn w ma mb mc md m) (h : NetIn w ve vi vn n) (hil : n.ids.length ≤ 17592186044416) :
    Calls Tryz.prog 64 #[.agg #[.int .i64 m.degree, .int .i64 m.states, .int .i64 m.messages, ma, mb, mc, md], .agg #[ve, vi, vn]] w fun e w' => e = .returned (.bool (askedB m n)) ∧ Below w.heap.size w w' := by
  have Hil := Lib.hid hil
  clear hil
  obtain ⟨w0, hw0⟩ : ∃ w0, w0 = ((w).alloc (.cells #[.int .i64 m.degree, .int .i64 m.states, .int .i64 m.messages, ma, mb, mc, md] 39)).alloc (.cells #[ve, vi, vn] 43) := ⟨_, rfl⟩
  have hb0 : Below w.heap.size w w0 := by rw [hw0]; exact (((Below.refl _ _).alloc (by simp <;> omega) _).alloc (by simp <;> omega) _)
  have H := Lib.hid (h.keep hb0)
  obtain ⟨h1, h2, h3⟩ := h.keep hb0
  obtain ⟨A, c, rfl, hlc, hm, hA⟩ := h1
  obtain ⟨A2, c2, rfl, _, hm2, _⟩ := h2
  obtain ⟨A3, c3, rfl, _, hm3, _⟩ := h3
  unfold maxLen at hm hm2 hm3
  have hkM := hMa.keep hb0
  have HM := Lib.hid hkM
  obtain ⟨M0, mz0, rfl, hlM0, hmM0, hMe0⟩ := id hkM.1
  unfold maxLen at hmM0
  have HMe0 := Lib.hid hMe0
  clear hMe0
  obtain ⟨M1, mz1, rfl, hlM1, hmM1, hMe1⟩ := id hkM.2.1
  unfold maxLen at hmM1
  have HMe1 := Lib.hid hMe1
  clear hMe1
  obtain ⟨M2, mz2, rfl, hlM2, hmM2, hMe2⟩ := id hkM.2.2.1
  unfold maxLen at hmM2
  have HMe2 := Lib.hid hMe2
  clear hMe2
  obtain ⟨M3, mz3, rfl, hlM3, hmM3, hMe3⟩ := id hkM.2.2.2
  unfold maxLen at hmM3
  have HMe3 := Lib.hid hMe3
  clear hMe3
  clear hkM hMa
  have p00 : ∀ W, Since w0 W → W.cell? ⟨w.heap.size, 0, none⟩ = some (.int .i64 m.degree) := have_cell (by rw [hw0]; simp)
  have p01 : ∀ W, Since w0 W → W.cell? ⟨w.heap.size, 1, none⟩ = some (.int .i64 m.states) := have_cell (by rw [hw0]; simp)
  have p02 : ∀ W, Since w0 W → W.cell? ⟨w.heap.size, 2, none⟩ = some (.int .i64 m.messages) := have_cell (by rw [hw0]; simp)
  have p03 : ∀ W, Since w0 W → W.cell? ⟨w.heap.size, 3, none⟩ = some (.slice M0 m.start.length mz0) := have_cell (by rw [hw0]; simp)
  have p04 : ∀ W, Since w0 W → W.cell? ⟨w.heap.size, 4, none⟩ = some (.slice M1 m.send.length mz1) := have_cell (by rw [hw0]; simp)
  have p05 : ∀ W, Since w0 W → W.cell? ⟨w.heap.size, 5, none⟩ = some (.slice M2 m.clauses.length mz2) := have_cell (by rw [hw0]; simp)
  have p06 : ∀ W, Since w0 W → W.cell? ⟨w.heap.size, 6, none⟩ = some (.slice M3 m.output.length mz3) := have_cell (by rw [hw0]; simp)
  have p10 : ∀ W, Since w0 W → W.cell? ⟨w.heap.size + 1, 0, none⟩ = some (.slice A n.ends.length c) := have_cell (by rw [hw0]; simp)
  have p11 : ∀ W, Since w0 W → W.cell? ⟨w.heap.size + 1, 1, none⟩ = some (.slice A2 n.ids.length c2) := have_cell (by rw [hw0]; simp)
  have p12 : ∀ W, Since w0 W → W.cell? ⟨w.heap.size + 1, 2, none⟩ = some (.slice A3 n.inputs.length c3) := have_cell (by rw [hw0]; simp)
  have Hb0 := Lib.hid hb0
  have Hw0 := Lib.hid hw0
  have HA := Lib.hid hA
  clear hA h
  clear hb0 hw0
  go_enter Tryz.func64, Tryz.ntmps64
  go_upto_region 1 with (fail)
  rw [← Hw0.out]
  refine wp_region_flow0 12 (Since w0) (since_refl _) ?_
  simp only [List.take_succ_cons, List.take_zero, List.drop_succ_cons, List.drop_zero]
  refine flow_val (v := ?_) rfl ?_ ?_; rotate_left; (intro W hW; go_simp; with_reducible rfl)
  simp only [Act.put, List.setIfInBounds_toArray, List.set_cons_succ, List.set_cons_zero]
  refine flow_op ?_ rfl ?_ ?_; rotate_left; (intro W hW; unfold Gives; go_simp; (with_reducible refine (maGood_any _ _ _ _ m W (HM.out.keep hW.below)).mono ?_); rintro e W' ⟨rfl, hb3⟩; first | (refine ⟨?_, Since.trans hW hb3⟩; with_reducible rfl) | (subst hb3; refine ⟨?_, hW⟩; with_reducible rfl))
  simp only [Act.put, List.setIfInBounds_toArray, List.set_cons_succ, List.set_cons_zero]
  refine flow_val (v := ?_) rfl ?_ ?_; rotate_left; (intro W hW; go_simp; with_reducible rfl)
  simp only [Act.put, List.setIfInBounds_toArray, List.set_cons_succ, List.set_cons_zero]
  refine flow_gval (v := ?_) rfl rfl ?_ ?_; rotate_left; (intro hb; intro W hW; go_simp; with_reducible rfl)
  simp only [Act.put, List.setIfInBounds_toArray, List.set_cons_succ, List.set_cons_zero]
  refine flow_gop (v := ?_) rfl rfl ?_ ?_; rotate_left; (intro hb; intro W hW; unfold Gives; go_simp; (with_reducible refine (neGood_any _ _ _ n W (H.out.keep hW.below)).mono ?_); rintro e W' ⟨rfl, hb3⟩; first | (refine ⟨?_, Since.trans hW hb3⟩; with_reducible rfl) | (subst hb3; refine ⟨?_, hW⟩; with_reducible rfl))
  simp only [Act.put, List.setIfInBounds_toArray, List.set_cons_succ, List.set_cons_zero]
  first | refine flow_and rfl rfl ?_ | (refine flow_val (v := ?_) rfl ?_ ?_; rotate_left; (intro W hW; go_simp; with_reducible rfl))
  simp only [Act.put, List.setIfInBounds_toArray, List.set_cons_succ, List.set_cons_zero]
  refine flow_val (v := ?_) rfl ?_ ?_; rotate_left; (intro W hW; go_simp; with_reducible rfl)
  simp only [Act.put, List.setIfInBounds_toArray, List.set_cons_succ, List.set_cons_zero]
  refine flow_gval (v := ?_) rfl rfl ?_ ?_; rotate_left; (intro hb; intro W hW; go_simp; with_reducible rfl)
  simp only [Act.put, List.setIfInBounds_toArray, List.set_cons_succ, List.set_cons_zero]
  refine flow_gval (v := ?_) rfl rfl ?_ ?_; rotate_left; (intro hb; intro W hW; go_simp; with_reducible rfl)
  simp only [Act.put, List.setIfInBounds_toArray, List.set_cons_succ, List.set_cons_zero]
  refine flow_gop (v := ?_) rfl rfl ?_ ?_; rotate_left; (intro hb; intro W hW; unfold Gives; go_simp; (with_reducible refine (maOn_any _ _ _ _ _ _ _ m n W (HM.out.keep hW.below) (H.out.keep hW.below) (by simpa using (Bool.and_eq_true_iff.1 (by simpa using hb)).1) (by simpa using (Bool.and_eq_true_iff.1 (by simpa using hb)).2)).mono ?_); rintro e W' ⟨rfl, hb3⟩; first | (refine ⟨?_, Since.trans hW hb3⟩; with_reducible rfl) | (subst hb3; refine ⟨?_, hW⟩; with_reducible rfl))
  simp only [Act.put, List.setIfInBounds_toArray, List.set_cons_succ, List.set_cons_zero]
  first | refine flow_and rfl rfl ?_ | (refine flow_val (v := ?_) rfl ?_ ?_; rotate_left; (intro W hW; go_simp; with_reducible rfl))
  simp only [Act.put, List.setIfInBounds_toArray, List.set_cons_succ, List.set_cons_zero]
  refine flow_val (v := ?_) rfl ?_ ?_; rotate_left; (intro W hW; go_simp; with_reducible rfl)
  simp only [Act.put, List.setIfInBounds_toArray, List.set_cons_succ, List.set_cons_zero]
  intro W hW
  have HW := Lib.hid hW
  clear hW
  go_wp2
  go_ret
  exact ⟨rfl, Since.after Hb0.out HW.out⟩
set_option maxRecDepth 100000 in
set_option maxHeartbeats 4000000 in
theorem fits_any (ma mb mc md ve vi vn : Value) (m : Mac) (n : Net) (w : World) (hMa : MacIn w ma mb mc md m) (h : NetIn w ve vi vn n) (hil : n.ids.length ≤ 17592186044416) :
    Calls Tryz.prog 69 #[.agg #[.int .i64 m.degree, .int .i64 m.states, .int .i64 m.messages, ma, mb, mc, md], .agg #[ve, vi, vn]] w fun e w' => e = .returned (.bool (askedB m n)) ∧ Below w.heap.size w w' := by
  have Hil := Lib.hid hil
  clear hil
  obtain ⟨w0, hw0⟩ : ∃ w0, w0 = ((w).alloc (.cells #[.int .i64 m.degree, .int .i64 m.states, .int .i64 m.messages, ma, mb, mc, md] 39)).alloc (.cells #[ve, vi, vn] 43) := ⟨_, rfl⟩
  have hb0 : Below w.heap.size w w0 := by rw [hw0]; exact (((Below.refl _ _).alloc (by simp <;> omega) _).alloc (by simp <;> omega) _)
  have H := Lib.hid (h.keep hb0)
  obtain ⟨h1, h2, h3⟩ := h.keep hb0
  obtain ⟨A, c, rfl, hlc, hm, hA⟩ := h1
  obtain ⟨A2, c2, rfl, _, hm2, _⟩ := h2
  obtain ⟨A3, c3, rfl, _, hm3, _⟩ := h3
  unfold maxLen at hm hm2 hm3
  have hkM := hMa.keep hb0
  have HM := Lib.hid hkM
  obtain ⟨M0, mz0, rfl, hlM0, hmM0, hMe0⟩ := id hkM.1
  unfold maxLen at hmM0
  have HMe0 := Lib.hid hMe0
  clear hMe0
  obtain ⟨M1, mz1, rfl, hlM1, hmM1, hMe1⟩ := id hkM.2.1
  unfold maxLen at hmM1
  have HMe1 := Lib.hid hMe1
  clear hMe1
  obtain ⟨M2, mz2, rfl, hlM2, hmM2, hMe2⟩ := id hkM.2.2.1
  unfold maxLen at hmM2
  have HMe2 := Lib.hid hMe2
  clear hMe2
  obtain ⟨M3, mz3, rfl, hlM3, hmM3, hMe3⟩ := id hkM.2.2.2
  unfold maxLen at hmM3
  have HMe3 := Lib.hid hMe3
  clear hMe3
  clear hkM hMa
  have p00 : ∀ W, Since w0 W → W.cell? ⟨w.heap.size, 0, none⟩ = some (.int .i64 m.degree) := have_cell (by rw [hw0]; simp)
  have p01 : ∀ W, Since w0 W → W.cell? ⟨w.heap.size, 1, none⟩ = some (.int .i64 m.states) := have_cell (by rw [hw0]; simp)
  have p02 : ∀ W, Since w0 W → W.cell? ⟨w.heap.size, 2, none⟩ = some (.int .i64 m.messages) := have_cell (by rw [hw0]; simp)
  have p03 : ∀ W, Since w0 W → W.cell? ⟨w.heap.size, 3, none⟩ = some (.slice M0 m.start.length mz0) := have_cell (by rw [hw0]; simp)
  have p04 : ∀ W, Since w0 W → W.cell? ⟨w.heap.size, 4, none⟩ = some (.slice M1 m.send.length mz1) := have_cell (by rw [hw0]; simp)
  have p05 : ∀ W, Since w0 W → W.cell? ⟨w.heap.size, 5, none⟩ = some (.slice M2 m.clauses.length mz2) := have_cell (by rw [hw0]; simp)
  have p06 : ∀ W, Since w0 W → W.cell? ⟨w.heap.size, 6, none⟩ = some (.slice M3 m.output.length mz3) := have_cell (by rw [hw0]; simp)
  have p10 : ∀ W, Since w0 W → W.cell? ⟨w.heap.size + 1, 0, none⟩ = some (.slice A n.ends.length c) := have_cell (by rw [hw0]; simp)
  have p11 : ∀ W, Since w0 W → W.cell? ⟨w.heap.size + 1, 1, none⟩ = some (.slice A2 n.ids.length c2) := have_cell (by rw [hw0]; simp)
  have p12 : ∀ W, Since w0 W → W.cell? ⟨w.heap.size + 1, 2, none⟩ = some (.slice A3 n.inputs.length c3) := have_cell (by rw [hw0]; simp)
  have Hb0 := Lib.hid hb0
  have Hw0 := Lib.hid hw0
  have HA := Lib.hid hA
  clear hA h
  clear hb0 hw0
  go_enter Tryz.func69, Tryz.ntmps69
  go_upto_region 1 with (fail)
  rw [← Hw0.out]
  refine wp_region_flow0 12 (Since w0) (since_refl _) ?_
  simp only [List.take_succ_cons, List.take_zero, List.drop_succ_cons, List.drop_zero]
  refine flow_val (v := ?_) rfl ?_ ?_; rotate_left; (intro W hW; go_simp; with_reducible rfl)
  simp only [Act.put, List.setIfInBounds_toArray, List.set_cons_succ, List.set_cons_zero]
  refine flow_op ?_ rfl ?_ ?_; rotate_left; (intro W hW; unfold Gives; go_simp; (with_reducible refine (isMachine_any _ _ _ _ m W (HM.out.keep hW.below)).mono ?_); rintro e W' ⟨rfl, hb3⟩; first | (refine ⟨?_, Since.trans hW hb3⟩; with_reducible rfl) | (subst hb3; refine ⟨?_, hW⟩; with_reducible rfl))
  simp only [Act.put, List.setIfInBounds_toArray, List.set_cons_succ, List.set_cons_zero]
  refine flow_val (v := ?_) rfl ?_ ?_; rotate_left; (intro W hW; go_simp; with_reducible rfl)
  simp only [Act.put, List.setIfInBounds_toArray, List.set_cons_succ, List.set_cons_zero]
  refine flow_gval (v := ?_) rfl rfl ?_ ?_; rotate_left; (intro hb; intro W hW; go_simp; with_reducible rfl)
  simp only [Act.put, List.setIfInBounds_toArray, List.set_cons_succ, List.set_cons_zero]
  refine flow_gop (v := ?_) rfl rfl ?_ ?_; rotate_left; (intro hb; intro W hW; unfold Gives; go_simp; (with_reducible refine (isNetwork_any _ _ _ n W (H.out.keep hW.below) Hil.out).mono ?_); rintro e W' ⟨rfl, hb3⟩; first | (refine ⟨?_, Since.trans hW hb3⟩; with_reducible rfl) | (subst hb3; refine ⟨?_, hW⟩; with_reducible rfl))
  simp only [Act.put, List.setIfInBounds_toArray, List.set_cons_succ, List.set_cons_zero]
  first | refine flow_and rfl rfl ?_ | (refine flow_val (v := ?_) rfl ?_ ?_; rotate_left; (intro W hW; go_simp; with_reducible rfl))
  simp only [Act.put, List.setIfInBounds_toArray, List.set_cons_succ, List.set_cons_zero]
  refine flow_val (v := ?_) rfl ?_ ?_; rotate_left; (intro W hW; go_simp; with_reducible rfl)
  simp only [Act.put, List.setIfInBounds_toArray, List.set_cons_succ, List.set_cons_zero]
  refine flow_gval (v := ?_) rfl rfl ?_ ?_; rotate_left; (intro hb; intro W hW; go_simp; with_reducible rfl)
  simp only [Act.put, List.setIfInBounds_toArray, List.set_cons_succ, List.set_cons_zero]
  refine flow_gval (v := ?_) rfl rfl ?_ ?_; rotate_left; (intro hb; intro W hW; go_simp; with_reducible rfl)
  simp only [Act.put, List.setIfInBounds_toArray, List.set_cons_succ, List.set_cons_zero]
  refine flow_gop (v := ?_) rfl rfl ?_ ?_; rotate_left; (intro hb; intro W hW; unfold Gives; go_simp; (with_reducible refine (runsOn_any _ _ _ _ _ _ _ m n W (HM.out.keep hW.below) (H.out.keep hW.below) (by simpa using (Bool.and_eq_true_iff.1 (by simpa using hb)).1) (by simpa using (Bool.and_eq_true_iff.1 (by simpa using hb)).2)).mono ?_); rintro e W' ⟨rfl, hb3⟩; first | (refine ⟨?_, Since.trans hW hb3⟩; with_reducible rfl) | (subst hb3; refine ⟨?_, hW⟩; with_reducible rfl))
  simp only [Act.put, List.setIfInBounds_toArray, List.set_cons_succ, List.set_cons_zero]
  first | refine flow_and rfl rfl ?_ | (refine flow_val (v := ?_) rfl ?_ ?_; rotate_left; (intro W hW; go_simp; with_reducible rfl))
  simp only [Act.put, List.setIfInBounds_toArray, List.set_cons_succ, List.set_cons_zero]
  refine flow_val (v := ?_) rfl ?_ ?_; rotate_left; (intro W hW; go_simp; with_reducible rfl)
  simp only [Act.put, List.setIfInBounds_toArray, List.set_cons_succ, List.set_cons_zero]
  intro W hW
  have HW := Lib.hid hW
  clear hW
  go_wp2
  go_ret
  exact ⟨rfl, Since.after Hb0.out HW.out⟩
end Go.Proofs.YtomnaabadohecaaGreat
namespace Go.Proofs.YtomnaabadohecaaGreat
open Go.RowKit
/-! the start of an asynchronous run: both sides -/
def asNil : ASt := ⟨[], [], [], [], []⟩
def fnExactStartAsync_r0 (m : Mac) (n : Net) : ASt := if askedB m n then startAs m n else asNil
def fnExactStartAsync_r1 (m : Mac) (n : Net) : Bool := askedB m n
theorem cntT3_rep : ∀ l : List (List (Int × Int)), cntT3 (l.map fun es => List.replicate es.length []) = 0
  | [] => rfl
  | es :: r => by
    have h : ∀ k : Nat, cntEE (List.replicate k []) = 0 := fun k => by
      induction k with
      | zero => rfl
      | succ k ih => simp only [List.replicate_succ, cntEE, List.length_nil]; omega
    simp only [List.map_cons, cntT3, h, cntT3_rep r]
theorem szR_free : ∀ l : List (List (Int × Int)), szR (l.map fun es => List.replicate es.length (-1)) ≤ cntEE l
  | [] => Nat.le_refl _
  | es :: r => by
    have := szR_free r
    unfold szR at this ⊢
    simp only [List.map_cons, List.sum_cons, List.length_replicate, cntEE]
    omega
theorem startAs_cnt (m : Mac) (n : Net) (h : szNet n ≤ 1048576) : cntAs (fnExactStartAsync_r0 m n) ≤ 1000000000 := by
  unfold fnExactStartAsync_r0
  split
  · have h1 := cnt_sz h
    have h2 := szR_free n.ends
    have h3 : n.ends.length ≤ 1048576 := by unfold szNet szEE at h; omega
    unfold cntNet at h1
    show (List.replicate n.ends.length 0).length + (startB m n).length + (startB m n).length + szR (freeL n) + cntT3 (flightL n) ≤ _
    unfold flightL freeL
    rw [cntT3_rep, startB_len, List.length_replicate]
    omega
  · show 0 + 0 + 0 + 0 + 0 ≤ _; omega
theorem ownAs_nil (w : World) (base : Nat) : OwnAs w base (.slice none 0 0) (.slice none 0 0) (.slice none 0 0) (.slice none 0 0) (.slice none 0 0) asNil [] :=
  ⟨[], [], [], [], [], ownI_nil w base, ownI_nil w base, ownI_nil w base, ownII_nil0 w base, ownTTT_nil w base, rfl, List.nodup_nil⟩
set_option maxRecDepth 100000 in
set_option maxHeartbeats 16000000 in
theorem fnExactStartAsync_spec (ma mb mc md ve vi vn : Value) (m : Mac) (n : Net) (w : World) (hMa : MacIn w ma mb mc md m) (h : NetIn w ve vi vn n) (hz1 : szMac m ≤ 1048576) (hz2 : szNet n ≤ 1048576) :
    Calls Tryz.prog 12 #[.agg #[.int .i64 m.degree, .int .i64 m.states, .int .i64 m.messages, ma, mb, mc, md], .agg #[ve, vi, vn]] w fun e w' => ∃ v1 v2 v3 v4 v5 S, e = .returned (.tuple #[.agg #[v1, v2, v3, v4, v5], .bool (fnExactStartAsync_r1 m n)]) ∧ OwnAs w' w.heap.size v1 v2 v3 v4 v5 (fnExactStartAsync_r0 m n) S ∧ cntAs (fnExactStartAsync_r0 m n) ≤ 1000000000 ∧ Below w.heap.size w w' := by
  have Hil : Hid (n.ids.length ≤ 17592186044416) := by show _ ≤ _; unfold szNet at hz2; omega
  have Hz2 := Lib.hid hz2
  clear hz1 hz2
  obtain ⟨w0, hw0⟩ : ∃ w0, w0 = ((w).alloc (.cells #[.int .i64 m.degree, .int .i64 m.states, .int .i64 m.messages, ma, mb, mc, md] 39)).alloc (.cells #[ve, vi, vn] 43) := ⟨_, rfl⟩
  have hb0 : Below w.heap.size w w0 := by rw [hw0]; exact (((Below.refl _ _).alloc (by simp <;> omega) _).alloc (by simp <;> omega) _)
  have H := Lib.hid (h.keep hb0)
  obtain ⟨h1, h2, h3⟩ := h.keep hb0
  obtain ⟨A, c, rfl, hlc, hm, hA⟩ := h1
  obtain ⟨A2, c2, rfl, _, hm2, _⟩ := h2
  obtain ⟨A3, c3, rfl, _, hm3, _⟩ := h3
  unfold maxLen at hm hm2 hm3
  have hkM := hMa.keep hb0
  have HM := Lib.hid hkM
  obtain ⟨M0, mz0, rfl, hlM0, hmM0, hMe0⟩ := id hkM.1
  unfold maxLen at hmM0
  have HMe0 := Lib.hid hMe0
  clear hMe0
  obtain ⟨M1, mz1, rfl, hlM1, hmM1, hMe1⟩ := id hkM.2.1
  unfold maxLen at hmM1
  have HMe1 := Lib.hid hMe1
  clear hMe1
  obtain ⟨M2, mz2, rfl, hlM2, hmM2, hMe2⟩ := id hkM.2.2.1
  unfold maxLen at hmM2
  have HMe2 := Lib.hid hMe2
  clear hMe2
  obtain ⟨M3, mz3, rfl, hlM3, hmM3, hMe3⟩ := id hkM.2.2.2
  unfold maxLen at hmM3
  have HMe3 := Lib.hid hMe3
  clear hMe3
  clear hkM hMa
  have p00 : ∀ W, Since w0 W → W.cell? ⟨w.heap.size, 0, none⟩ = some (.int .i64 m.degree) := have_cell (by rw [hw0]; simp)
  have p01 : ∀ W, Since w0 W → W.cell? ⟨w.heap.size, 1, none⟩ = some (.int .i64 m.states) := have_cell (by rw [hw0]; simp)
  have p02 : ∀ W, Since w0 W → W.cell? ⟨w.heap.size, 2, none⟩ = some (.int .i64 m.messages) := have_cell (by rw [hw0]; simp)
  have p03 : ∀ W, Since w0 W → W.cell? ⟨w.heap.size, 3, none⟩ = some (.slice M0 m.start.length mz0) := have_cell (by rw [hw0]; simp)
  have p04 : ∀ W, Since w0 W → W.cell? ⟨w.heap.size, 4, none⟩ = some (.slice M1 m.send.length mz1) := have_cell (by rw [hw0]; simp)
  have p05 : ∀ W, Since w0 W → W.cell? ⟨w.heap.size, 5, none⟩ = some (.slice M2 m.clauses.length mz2) := have_cell (by rw [hw0]; simp)
  have p06 : ∀ W, Since w0 W → W.cell? ⟨w.heap.size, 6, none⟩ = some (.slice M3 m.output.length mz3) := have_cell (by rw [hw0]; simp)
  have p10 : ∀ W, Since w0 W → W.cell? ⟨w.heap.size + 1, 0, none⟩ = some (.slice A n.ends.length c) := have_cell (by rw [hw0]; simp)
  have p11 : ∀ W, Since w0 W → W.cell? ⟨w.heap.size + 1, 1, none⟩ = some (.slice A2 n.ids.length c2) := have_cell (by rw [hw0]; simp)
  have p12 : ∀ W, Since w0 W → W.cell? ⟨w.heap.size + 1, 2, none⟩ = some (.slice A3 n.inputs.length c3) := have_cell (by rw [hw0]; simp)
  have Hb0 := Lib.hid hb0
  have Hw0 := Lib.hid hw0
  have HA := Lib.hid hA
  clear hA h
  clear hb0 hw0
  obtain ⟨wz, hwz⟩ : ∃ wz, wz = w0.alloc (.cells nil5 34) := ⟨_, rfl⟩
  have hsz : Since w0 wz := by rw [hwz]; exact since_alloc _ (since_refl _)
  have h01 : w0.heap.size = w.heap.size + 1 + 1 := by rw [Hw0.out]; simp
  have HRz : Hid (∀ X, Since wz X → BoxA X (w.heap.size + 1 + 1) nil5) := fun X hX => by
    have h1 : BoxA wz w0.heap.size nil5 := by rw [hwz]; exact BoxA.new _ _ _
    rw [← h01]
    exact h1.below hX h1.lt
  have Hza : Hid (w.heap.size + 1 + 1 < wz.heap.size) := by show _ < _; rw [← h01, hwz]; simp
  have HMz := Lib.hid (show ∀ X, Since wz X → MacIn X _ _ _ _ m from fun X hX => HM.out.keep (hsz.after hX).below)
  have HNz := Lib.hid (show ∀ X, Since wz X → NetIn X (.slice A n.ends.length c) (.slice A2 n.ids.length c2) (.slice A3 n.inputs.length c3) n from fun X hX => H.out.keep (hsz.after hX).below)
  have z00 := lift_cell p00 hsz
  have z01 := lift_cell p01 hsz
  have z02 := lift_cell p02 hsz
  have z03 := lift_cell p03 hsz
  have z04 := lift_cell p04 hsz
  have z05 := lift_cell p05 hsz
  have z06 := lift_cell p06 hsz
  have z10 := lift_cell p10 hsz
  have z11 := lift_cell p11 hsz
  have z12 := lift_cell p12 hsz
  have Hwz := Lib.hid hwz
  have Hsz := Lib.hid hsz
  clear hwz hsz p00 p01 p02 p03 p04 p05 p06 p10 p11 p12 h01
  unfold nil5 at Hwz
  go_enter Tryz.func12, Tryz.ntmps12
  go_upto_region 1 with (fail)
  rw [← Hw0.out, ← Hwz.out]
  have hs : Since wz wz := since_refl _
  go_wp2_with fail
  refine (maAsked_any _ _ _ _ _ _ _ m n _ (HMz.out _ hs) (HNz.out _ hs) Hil.out).mono ?_
  rintro e w1 ⟨rfl, hb1⟩
  have hs1 : Since wz w1 := hs.trans hb1
  clear hb1 hs
  cases hb : askedB m n
  · have HR := HRz.out w1 hs1
    unfold nil5 at HR
    have g0 := (HR.cell 0 _ rfl).1
    have g1 := (HR.cell 1 _ rfl).1
    have g2 := (HR.cell 2 _ rfl).1
    have g3 := (HR.cell 3 _ rfl).1
    have g4 := (HR.cell 4 _ rfl).1
    have f0 := (HR.cell 0 _ rfl).2
    have f1 := (HR.cell 1 _ rfl).2
    have f2 := (HR.cell 2 _ rfl).2
    have f3 := (HR.cell 3 _ rfl).2
    have f4 := (HR.cell 4 _ rfl).2
    have Hs1 := Lib.hid hs1
    have Hb := Lib.hid hb
    clear HR hs1 hb
    go_upto_region 2 with (fail)
    repeat go_step
    refine bodyPost_ret (v := .tuple #[.agg #[.slice none 0 0, .slice none 0 0, .slice none 0 0, .slice none 0 0, .slice none 0 0], .bool false]) (by simp [results, Tryz.results12, go_sem, g0, g1, g2, g3, g4, f0, f1, f2, f3, f4]) rfl ?_
    have e0 : fnExactStartAsync_r0 m n = asNil := by unfold fnExactStartAsync_r0; rw [Hb.out]; rfl
    have e1 : fnExactStartAsync_r1 m n = false := Hb.out
    rw [e1]
    refine ⟨_, _, _, _, _, [], rfl, by rw [e0]; exact ownAs_nil _ _, startAs_cnt m n Hz2.out, ?_⟩
    exact (((((Below.trans Hb0.out ((Hsz.out.after Hs1.out).below.mono Hb0.out.size)).setCell (by simp; omega) _).setCell (by simp; omega) _).setCell (by simp; omega) _).setCell (by simp; omega) _).setCell (by simp; omega) _
  · have HAs := Lib.hid (asked_of hb)
    have Hb := Lib.hid hb
    clear hb
    go_wp2_with fail
    refine (syStart_any _ _ _ _ _ _ _ m n _ (HMz.out _ hs1) (HNz.out _ hs1) HAs.out).mono ?_
    rintro e w2 ⟨v1, v2, v3, v4, v5, S, rfl, ho, hb2⟩
    obtain ⟨A1, z1, rfl, _⟩ := id ho.read.1
    obtain ⟨A2', z2, rfl, _⟩ := id ho.read.2.1
    obtain ⟨A3', z3, rfl, _⟩ := id ho.read.2.2.1
    obtain ⟨A4, z4, rfl, _⟩ := id ho.read.2.2.2.1
    obtain ⟨A5, z5, rfl, _⟩ := id ho.read.2.2.2.2
    have hs2 : Since wz w2 := hs1.trans hb2
    have HO := Lib.hid (ho.mono hs1.below.size)
    have HR := HRz.out w2 hs2
    unfold nil5 at HR
    have g0 := (HR.cell 0 _ rfl).1
    have g1 := (HR.cell 1 _ rfl).1
    have g2 := (HR.cell 2 _ rfl).1
    have g3 := (HR.cell 3 _ rfl).1
    have g4 := (HR.cell 4 _ rfl).1
    have f0 := (HR.cell 0 _ rfl).2
    have f1 := (HR.cell 1 _ rfl).2
    have f2 := (HR.cell 2 _ rfl).2
    have f3 := (HR.cell 3 _ rfl).2
    have f4 := (HR.cell 4 _ rfl).2
    have Hs2 := Lib.hid hs2
    clear HR hs1 hb2 hs2 ho
    go_upto_region 99 with (fail)
    refine bodyPost_ret (v := .tuple #[.agg #[.slice A1 (startAs m n).rounds.length z1, .slice A2' (startAs m n).before.length z2, .slice A3' (startAs m n).now.length z3, .slice A4 (startAs m n).slots.length z4, .slice A5 (startAs m n).flight.length z5], .bool true]) (by simp [results, Tryz.results12, go_sem, g0, g1, g2, g3, g4, f0, f1, f2, f3, f4]) rfl ?_
    have e0 : fnExactStartAsync_r0 m n = startAs m n := by unfold fnExactStartAsync_r0; rw [Hb.out]; rfl
    have e1 : fnExactStartAsync_r1 m n = true := Hb.out
    rw [e1]
    refine ⟨_, _, _, _, _, S, rfl, ?_, startAs_cnt m n Hz2.out, ?_⟩
    · rw [e0]
      refine (HO.out.stable (fun j hj => ?_)).mono (by have := Hza.out; omega)
      have hj1 := (HO.out.range j hj).1
      have hj2 := Hza.out
      rw [Below.heap_setCell _ _ _ j (by simp; omega), Below.heap_setCell _ _ _ j (by simp; omega), Below.heap_setCell _ _ _ j (by simp; omega), Below.heap_setCell _ _ _ j (by simp; omega), Below.heap_setCell _ _ _ j (by simp; omega)]
    · exact (((((Below.trans Hb0.out ((Hsz.out.after Hs2.out).below.mono Hb0.out.size)).setCell (by simp; omega) _).setCell (by simp; omega) _).setCell (by simp; omega) _).setCell (by simp; omega) _).setCell (by simp; omega) _
set_option maxRecDepth 100000 in
set_option maxHeartbeats 16000000 in
theorem fnExactStartAsync_impl (ma mb mc md ve vi vn : Value) (m : Mac) (n : Net) (w : World) (hMa : MacIn w ma mb mc md m) (h : NetIn w ve vi vn n) (hz1 : szMac m ≤ 1048576) (hz2 : szNet n ≤ 1048576) :
    Calls Tryz.prog 15 #[.agg #[.int .i64 m.degree, .int .i64 m.states, .int .i64 m.messages, ma, mb, mc, md], .agg #[ve, vi, vn]] w fun e w' => ∃ v1 v2 v3 v4 v5 S, e = .returned (.tuple #[.agg #[v1, v2, v3, v4, v5], .bool (fnExactStartAsync_r1 m n)]) ∧ OwnAs w' w.heap.size v1 v2 v3 v4 v5 (fnExactStartAsync_r0 m n) S ∧  Below w.heap.size w w' := by
  have Hil : Hid (n.ids.length ≤ 17592186044416) := by show _ ≤ _; unfold szNet at hz2; omega
  have Hz2 := Lib.hid hz2
  clear hz1 hz2
  obtain ⟨w0, hw0⟩ : ∃ w0, w0 = ((w).alloc (.cells #[.int .i64 m.degree, .int .i64 m.states, .int .i64 m.messages, ma, mb, mc, md] 39)).alloc (.cells #[ve, vi, vn] 43) := ⟨_, rfl⟩
  have hb0 : Below w.heap.size w w0 := by rw [hw0]; exact (((Below.refl _ _).alloc (by simp <;> omega) _).alloc (by simp <;> omega) _)
  have H := Lib.hid (h.keep hb0)
  obtain ⟨h1, h2, h3⟩ := h.keep hb0
  obtain ⟨A, c, rfl, hlc, hm, hA⟩ := h1
  obtain ⟨A2, c2, rfl, _, hm2, _⟩ := h2
  obtain ⟨A3, c3, rfl, _, hm3, _⟩ := h3
  unfold maxLen at hm hm2 hm3
  have hkM := hMa.keep hb0
  have HM := Lib.hid hkM
  obtain ⟨M0, mz0, rfl, hlM0, hmM0, hMe0⟩ := id hkM.1
  unfold maxLen at hmM0
  have HMe0 := Lib.hid hMe0
  clear hMe0
  obtain ⟨M1, mz1, rfl, hlM1, hmM1, hMe1⟩ := id hkM.2.1
  unfold maxLen at hmM1
  have HMe1 := Lib.hid hMe1
  clear hMe1
  obtain ⟨M2, mz2, rfl, hlM2, hmM2, hMe2⟩ := id hkM.2.2.1
  unfold maxLen at hmM2
  have HMe2 := Lib.hid hMe2
  clear hMe2
  obtain ⟨M3, mz3, rfl, hlM3, hmM3, hMe3⟩ := id hkM.2.2.2
  unfold maxLen at hmM3
  have HMe3 := Lib.hid hMe3
  clear hMe3
  clear hkM hMa
  have p00 : ∀ W, Since w0 W → W.cell? ⟨w.heap.size, 0, none⟩ = some (.int .i64 m.degree) := have_cell (by rw [hw0]; simp)
  have p01 : ∀ W, Since w0 W → W.cell? ⟨w.heap.size, 1, none⟩ = some (.int .i64 m.states) := have_cell (by rw [hw0]; simp)
  have p02 : ∀ W, Since w0 W → W.cell? ⟨w.heap.size, 2, none⟩ = some (.int .i64 m.messages) := have_cell (by rw [hw0]; simp)
  have p03 : ∀ W, Since w0 W → W.cell? ⟨w.heap.size, 3, none⟩ = some (.slice M0 m.start.length mz0) := have_cell (by rw [hw0]; simp)
  have p04 : ∀ W, Since w0 W → W.cell? ⟨w.heap.size, 4, none⟩ = some (.slice M1 m.send.length mz1) := have_cell (by rw [hw0]; simp)
  have p05 : ∀ W, Since w0 W → W.cell? ⟨w.heap.size, 5, none⟩ = some (.slice M2 m.clauses.length mz2) := have_cell (by rw [hw0]; simp)
  have p06 : ∀ W, Since w0 W → W.cell? ⟨w.heap.size, 6, none⟩ = some (.slice M3 m.output.length mz3) := have_cell (by rw [hw0]; simp)
  have p10 : ∀ W, Since w0 W → W.cell? ⟨w.heap.size + 1, 0, none⟩ = some (.slice A n.ends.length c) := have_cell (by rw [hw0]; simp)
  have p11 : ∀ W, Since w0 W → W.cell? ⟨w.heap.size + 1, 1, none⟩ = some (.slice A2 n.ids.length c2) := have_cell (by rw [hw0]; simp)
  have p12 : ∀ W, Since w0 W → W.cell? ⟨w.heap.size + 1, 2, none⟩ = some (.slice A3 n.inputs.length c3) := have_cell (by rw [hw0]; simp)
  have Hb0 := Lib.hid hb0
  have Hw0 := Lib.hid hw0
  have HA := Lib.hid hA
  clear hA h
  clear hb0 hw0
  obtain ⟨wz, hwz⟩ : ∃ wz, wz = w0.alloc (.cells nil5 34) := ⟨_, rfl⟩
  have hsz : Since w0 wz := by rw [hwz]; exact since_alloc _ (since_refl _)
  have h01 : w0.heap.size = w.heap.size + 1 + 1 := by rw [Hw0.out]; simp
  have HRz : Hid (∀ X, Since wz X → BoxA X (w.heap.size + 1 + 1) nil5) := fun X hX => by
    have h1 : BoxA wz w0.heap.size nil5 := by rw [hwz]; exact BoxA.new _ _ _
    rw [← h01]
    exact h1.below hX h1.lt
  have Hza : Hid (w.heap.size + 1 + 1 < wz.heap.size) := by show _ < _; rw [← h01, hwz]; simp
  have HMz := Lib.hid (show ∀ X, Since wz X → MacIn X _ _ _ _ m from fun X hX => HM.out.keep (hsz.after hX).below)
  have HNz := Lib.hid (show ∀ X, Since wz X → NetIn X (.slice A n.ends.length c) (.slice A2 n.ids.length c2) (.slice A3 n.inputs.length c3) n from fun X hX => H.out.keep (hsz.after hX).below)
  have z00 := lift_cell p00 hsz
  have z01 := lift_cell p01 hsz
  have z02 := lift_cell p02 hsz
  have z03 := lift_cell p03 hsz
  have z04 := lift_cell p04 hsz
  have z05 := lift_cell p05 hsz
  have z06 := lift_cell p06 hsz
  have z10 := lift_cell p10 hsz
  have z11 := lift_cell p11 hsz
  have z12 := lift_cell p12 hsz
  have Hwz := Lib.hid hwz
  have Hsz := Lib.hid hsz
  clear hwz hsz p00 p01 p02 p03 p04 p05 p06 p10 p11 p12 h01
  unfold nil5 at Hwz
  go_enter Tryz.func15, Tryz.ntmps15
  go_upto_region 1 with (fail)
  rw [← Hw0.out, ← Hwz.out]
  have hs : Since wz wz := since_refl _
  go_wp2_with fail
  refine (fits_any _ _ _ _ _ _ _ m n _ (HMz.out _ hs) (HNz.out _ hs) Hil.out).mono ?_
  rintro e w1 ⟨rfl, hb1⟩
  have hs1 : Since wz w1 := hs.trans hb1
  clear hb1 hs
  cases hb : askedB m n
  · have HR := HRz.out w1 hs1
    unfold nil5 at HR
    have g0 := (HR.cell 0 _ rfl).1
    have g1 := (HR.cell 1 _ rfl).1
    have g2 := (HR.cell 2 _ rfl).1
    have g3 := (HR.cell 3 _ rfl).1
    have g4 := (HR.cell 4 _ rfl).1
    have f0 := (HR.cell 0 _ rfl).2
    have f1 := (HR.cell 1 _ rfl).2
    have f2 := (HR.cell 2 _ rfl).2
    have f3 := (HR.cell 3 _ rfl).2
    have f4 := (HR.cell 4 _ rfl).2
    have Hs1 := Lib.hid hs1
    have Hb := Lib.hid hb
    clear HR hs1 hb
    go_upto_region 2 with (fail)
    repeat go_step
    refine bodyPost_ret (v := .tuple #[.agg #[.slice none 0 0, .slice none 0 0, .slice none 0 0, .slice none 0 0, .slice none 0 0], .bool false]) (by simp [results, Tryz.results15, go_sem, g0, g1, g2, g3, g4, f0, f1, f2, f3, f4]) rfl ?_
    have e0 : fnExactStartAsync_r0 m n = asNil := by unfold fnExactStartAsync_r0; rw [Hb.out]; rfl
    have e1 : fnExactStartAsync_r1 m n = false := Hb.out
    rw [e1]
    refine ⟨_, _, _, _, _, [], rfl, by rw [e0]; exact ownAs_nil _ _,  ?_⟩
    exact (((((Below.trans Hb0.out ((Hsz.out.after Hs1.out).below.mono Hb0.out.size)).setCell (by simp; omega) _).setCell (by simp; omega) _).setCell (by simp; omega) _).setCell (by simp; omega) _).setCell (by simp; omega) _
  · have HAs := Lib.hid (asked_of hb)
    have Hb := Lib.hid hb
    clear hb
    go_wp2_with fail
    refine (startAsync_any _ _ _ _ _ _ _ m n _ (HMz.out _ hs1) (HNz.out _ hs1) HAs.out).mono ?_
    rintro e w2 ⟨v1, v2, v3, v4, v5, S, rfl, ho, hb2⟩
    obtain ⟨A1, z1, rfl, _⟩ := id ho.read.1
    obtain ⟨A2', z2, rfl, _⟩ := id ho.read.2.1
    obtain ⟨A3', z3, rfl, _⟩ := id ho.read.2.2.1
    obtain ⟨A4, z4, rfl, _⟩ := id ho.read.2.2.2.1
    obtain ⟨A5, z5, rfl, _⟩ := id ho.read.2.2.2.2
    have hs2 : Since wz w2 := hs1.trans hb2
    have HO := Lib.hid (ho.mono hs1.below.size)
    have HR := HRz.out w2 hs2
    unfold nil5 at HR
    have g0 := (HR.cell 0 _ rfl).1
    have g1 := (HR.cell 1 _ rfl).1
    have g2 := (HR.cell 2 _ rfl).1
    have g3 := (HR.cell 3 _ rfl).1
    have g4 := (HR.cell 4 _ rfl).1
    have f0 := (HR.cell 0 _ rfl).2
    have f1 := (HR.cell 1 _ rfl).2
    have f2 := (HR.cell 2 _ rfl).2
    have f3 := (HR.cell 3 _ rfl).2
    have f4 := (HR.cell 4 _ rfl).2
    have Hs2 := Lib.hid hs2
    clear HR hs1 hb2 hs2 ho
    go_upto_region 99 with (fail)
    refine bodyPost_ret (v := .tuple #[.agg #[.slice A1 (startAs m n).rounds.length z1, .slice A2' (startAs m n).before.length z2, .slice A3' (startAs m n).now.length z3, .slice A4 (startAs m n).slots.length z4, .slice A5 (startAs m n).flight.length z5], .bool true]) (by simp [results, Tryz.results15, go_sem, g0, g1, g2, g3, g4, f0, f1, f2, f3, f4]) rfl ?_
    have e0 : fnExactStartAsync_r0 m n = startAs m n := by unfold fnExactStartAsync_r0; rw [Hb.out]; rfl
    have e1 : fnExactStartAsync_r1 m n = true := Hb.out
    rw [e1]
    refine ⟨_, _, _, _, _, S, rfl, ?_,  ?_⟩
    · rw [e0]
      refine (HO.out.stable (fun j hj => ?_)).mono (by have := Hza.out; omega)
      have hj1 := (HO.out.range j hj).1
      have hj2 := Hza.out
      rw [Below.heap_setCell _ _ _ j (by simp; omega), Below.heap_setCell _ _ _ j (by simp; omega), Below.heap_setCell _ _ _ j (by simp; omega), Below.heap_setCell _ _ _ j (by simp; omega), Below.heap_setCell _ _ _ j (by simp; omega)]
    · exact (((((Below.trans Hb0.out ((Hsz.out.after Hs2.out).below.mono Hb0.out.size)).setCell (by simp; omega) _).setCell (by simp; omega) _).setCell (by simp; omega) _).setCell (by simp; omega) _).setCell (by simp; omega) _
end Go.Proofs.YtomnaabadohecaaGreat
namespace Go.Proofs.YtomnaabadohecaaGreat
open Go.RowKit
/-! clauses in memory of their own, row for row -/
def DistTo (k : Nat) (us : List (Int × Value × Int)) : Prop := ∀ (i j : Nat) (x y : Int × Value × Int) (b : Nat), i < j → j < k → us[i]? = some x → us[j]? = some y → x.2.1.ownBlock = some b → y.2.1.ownBlock = some b → False
def OwnCS (w : World) (base E : Nat) (v : Value) (cs : List Cl) : Prop := ∃ (g : Nat) (us : List (Int × Value × Int)), v = .slice (some ⟨g, 0, none⟩) cs.length cs.length ∧ base ≤ g ∧ g < E ∧ E ≤ w.heap.size ∧ us.length = cs.length ∧ OwnC3 w g v us [g] ∧
  (∀ (j : Nat) (x : Cl), cs[j]? = some x → ∃ u T, us[j]? = some (x.state, u, x.next) ∧ OwnI w (g + 1) u x.inbox T ∧ ∀ t ∈ T, t < E) ∧ ∀ (i j : Nat) (x y : Int × Value × Int) (b : Nat), i < j → us[i]? = some x → us[j]? = some y → x.2.1.ownBlock = some b → y.2.1.ownBlock = some b → False
theorem OwnCS.stable {w w' : World} {base E : Nat} {v : Value} {cs : List Cl} (h : OwnCS w base E v cs) (hs : w.heap.size ≤ w'.heap.size) (hb : ∀ k, base ≤ k → k < E → w'.heap[k]? = w.heap[k]?) : OwnCS w' base E v cs := by
  obtain ⟨g, us, rfl, h1, h2, h3, h4, h5, h6, h7⟩ := h
  refine ⟨g, us, rfl, h1, h2, Nat.le_trans h3 hs, h4, lawC3.stable h5 (fun k hk => ?_), fun j x hx => ?_, h7⟩
  · obtain rfl : k = g := by simpa using hk
    exact hb k h1 h2
  · obtain ⟨u, T, g1, g2, g3⟩ := h6 j x hx
    exact ⟨u, T, g1, lawI.stable g2 (fun k hk => hb k (by have := (lawI.range g2 k hk).1; omega) (g3 k hk)), g3⟩
theorem OwnCS.keep {w w' : World} {base E : Nat} {v : Value} {cs : List Cl} (h : OwnCS w base E v cs) (hb : Below w.heap.size w w') : OwnCS w' base E v cs := h.stable hb.size fun k _ h2 => hb.block k (by obtain ⟨_, _, _, _, _, h3, _⟩ := h; omega)
theorem OwnCS.put {w : World} {base E : Nat} {v : Value} {cs : List Cl} (h : OwnCS w base E v cs) {p : Addr} (hp : p.block < base) (u : Value) : OwnCS (w.setCell p u) base E v cs := h.stable (by simp [World.setCell]) fun k h1 _ => Below.heap_setCell _ _ _ _ (by omega)
theorem OwnCS.read {w : World} {base E : Nat} {v : Value} {cs : List Cl} (h : OwnCS w base E v cs) (hl : cs.length ≤ maxLen) : ClauseS w v cs := by
  obtain ⟨g, us, rfl, h1, h2, h3, h4, h5, h6, h7⟩ := h
  refine ⟨_, cs.length, rfl, Nat.le_refl _, hl, fun j x hx => ?_⟩
  obtain ⟨u, T, g1, g2, g3⟩ := h6 j x hx
  obtain ⟨c1, c2, c3, _⟩ := h5.cells g1
  exact ⟨g, 0, u, rfl, by rw [Nat.zero_add]; exact c1, by rw [Nat.zero_add]; exact c2, by rw [Nat.zero_add]; exact c3, g2.1.ints⟩
set_option maxHeartbeats 8000000 in
theorem toClauseS_own (v : Value) (es : List Cl) (w : World) (h : ClauseS w v es) (hl : szCl es ≤ 1048576) :
    Calls Tryz.prog 66 #[v] w fun e w' => ∃ g, e = .returned (.slice (some ⟨g, 0, none⟩) es.length es.length) ∧ OwnCS w' w.heap.size w'.heap.size (.slice (some ⟨g, 0, none⟩) es.length es.length) es ∧ Below w.heap.size w w' := by
  obtain ⟨A, c, rfl, hlc, hm, hA⟩ := h
  unfold maxLen at hm
  have HA := Lib.hid hA
  clear hA
  have hl1 : es.length ≤ 1048576 := by unfold szCl at hl; omega
  have Hl := Lib.hid hl
  clear hl
  go_enter Tryz.func66, Tryz.ntmps66
  go_wp2_with (at_make; refine mk_clauses _ rfl _ _ rfl _ _ es.length rfl rfl rfl rfl (by omega) ?_; intro w1 ho1 hb1)
  go_loopw [4] (fun i wr => ∃ (k : Nat) (us : List (Int × Value × Int)), k ≤ es.length ∧ i = .int .i64 k ∧ us.length = es.length ∧ OwnC3 wr w.heap.size (.slice (some ⟨w.heap.size, 0, none⟩) es.length es.length) us [w.heap.size] ∧ (∀ j x, j < k → es[j]? = some x → ∃ u T, us[j]? = some (x.state, u, x.next) ∧ OwnI wr (w.heap.size + 1) u x.inbox T) ∧ DistTo k us ∧ Below w.heap.size w wr) (fun i _ => es.length - (intOf i).toNat)
  case atStart => exact ⟨0, _, Nat.zero_le _, rfl, by simp, ho1, fun j x hj => absurd hj (by omega), fun i j x y b h1 h2 => absurd h2 (by omega), hb1⟩
  case round =>
    obtain ⟨k, us, hk, rfl, hul, ho, hold, hdt, hb⟩ := hrel
    have Hdt := Lib.hid hdt
    clear ho1 hb1 hdt
    have Hold := Lib.hid hold
    by_cases hlt : k < es.length
    · obtain ⟨x, hx⟩ := getx es k hlt
      obtain ⟨b, off, u, rfl, hc1, hc2, hc3, hu⟩ := HA.out k x hx
      have k1 := bc hb hc1
      have k2 := bc hb hc2
      have k3 := bc hb hc3
      have Hu := Lib.hid (hu.keep hb)
      obtain ⟨U1, y1, rfl, _⟩ := hu
      have Ho := Lib.hid ho
      have Hb := Lib.hid hb
      have Hx := Lib.hid hx
      have Hul := Lib.hid hul
      have Hxl : Hid (x.inbox.length ≤ 17592186044416) := by
        have h1 := szC_snoc hx
        have h2 := szC_le es (k + 1)
        have h3 := Hl.out
        unfold szCl at h3
        exact show _ ≤ _ by omega
      have hgr : w.heap.size + 1 ≤ wr.heap.size := by have := (lawC3.range ho w.heap.size (by simp)).2; omega
      clear hx hc1 hc2 hc3 ho hb hold hul
      go_wp2_with fail
      refine (toClause_any x.state _ x.next x.inbox _ Hu.out Hxl.out).mono ?_
      rintro e w2 ⟨v2, rfl, hr2, hb2⟩
      obtain ⟨D1, d1, hu1, _⟩ := id hr2.ints
      subst hu1
      have ho2 := lawC3.keep Ho.out hb2
      obtain ⟨y, hy⟩ := getx us k (by have := Hul.out; omega)
      obtain ⟨c1, c2, c3, f1, f2, f3⟩ := ho2.cells hy
      have ho3 := ho2.set (k := k) (by have := Hul.out; omega) (x.state, .slice D1 x.inbox.length d1, x.next)
      have Ho3 := Lib.hid ho3
      have Hb3 := Lib.hid ((((Hb.out.trans (hb2.mono Hb.out.size)).setCell (p := ⟨w.heap.size, k * 3, none⟩) (Nat.le_refl _) (.int .i64 x.state)).setCell (p := ⟨w.heap.size, k * 3 + 1, none⟩) (Nat.le_refl _) (.slice D1 x.inbox.length d1)).setCell (p := ⟨w.heap.size, k * 3 + 2, none⟩) (Nat.le_refl _) (.int .i64 x.next))
      have Hnew : Hid (∀ j z, j < k + 1 → es[j]? = some z → ∃ u T, (us.set k (x.state, .slice D1 x.inbox.length d1, x.next))[j]? = some (z.state, u, z.next) ∧ OwnI (((w2.setCell ⟨w.heap.size, k * 3, none⟩ (.int .i64 x.state)).setCell ⟨w.heap.size, k * 3 + 1, none⟩ (.slice D1 x.inbox.length d1)).setCell ⟨w.heap.size, k * 3 + 2, none⟩ (.int .i64 x.next)) (w.heap.size + 1) u z.inbox T) := fun j z hj hz => by
        by_cases hjk : j = k
        · subst hjk
          have hzx := Hx.out
          rw [hz] at hzx
          cases hzx
          have q0 : OwnI w2 (w.heap.size + 1) (.slice D1 x.inbox.length d1) x.inbox _ := lawI.mono ⟨hr2, rfl⟩ hgr
          have q3 := RowLaw.put lawI (RowLaw.put lawI (RowLaw.put lawI q0 (p := ⟨w.heap.size, j * 3, none⟩) (Nat.lt_succ_self _) (.int .i64 x.state)) (p := ⟨w.heap.size, j * 3 + 1, none⟩) (Nat.lt_succ_self _) (.slice D1 x.inbox.length d1)) (p := ⟨w.heap.size, j * 3 + 2, none⟩) (Nat.lt_succ_self _) (.int .i64 x.next)
          exact ⟨_, _, by rw [List.getElem?_set_self (by have := Hul.out; omega)], q3⟩
        · obtain ⟨u, T, g1, g2⟩ := Hold.out j z (by omega) hz
          have q3 := RowLaw.put lawI (RowLaw.put lawI (RowLaw.put lawI (lawI.keep g2 hb2) (p := ⟨w.heap.size, k * 3, none⟩) (Nat.lt_succ_self _) (.int .i64 x.state)) (p := ⟨w.heap.size, k * 3 + 1, none⟩) (Nat.lt_succ_self _) (.slice D1 x.inbox.length d1)) (p := ⟨w.heap.size, k * 3 + 2, none⟩) (Nat.lt_succ_self _) (.int .i64 x.next)
          exact ⟨u, T, by rw [List.getElem?_set_ne (Ne.symm hjk)]; exact g1, q3⟩
      have Hdn : Hid (DistTo (k + 1) (us.set k (x.state, .slice D1 x.inbox.length d1, x.next))) := fun i j p q b hij hjk hp hq hbp hbq => by
        by_cases hj : j = k
        · subst hj
          rw [List.getElem?_set_self (by have := Hul.out; omega)] at hq
          cases hq
          rw [List.getElem?_set_ne (by omega)] at hp
          obtain ⟨z, hz⟩ := getx es i (by omega)
          obtain ⟨u, T, g1, g2⟩ := Hold.out i z hij hz
          rw [hp] at g1
          cases g1
          have e1 := (lawI.range g2 b (by rw [g2.2, hbp]; simp)).2
          have e2 := (World.ownsRow.lt hr2 b hbq).1
          omega
        · rw [List.getElem?_set_ne (by omega)] at hp hq
          exact Hdt.out i j p q b hij (by omega) hp hq hbp hbq
      clear ho2 hy ho3 hb2 hr2
      go_wp2
      go_roundw
      case rel => exact ⟨k + 1, _, by omega, by simp, by rw [List.length_set]; exact Hul.out, Ho3.out, Hnew.out, Hdn.out, Hb3.out⟩
      case measure => simp [intOf]; omega
    · obtain rfl : k = es.length := by omega
      have hg := lawC3.range ho w.heap.size (by simp)
      have hfin : Hid (OwnCS wr w.heap.size wr.heap.size (.slice (some ⟨w.heap.size, 0, none⟩) es.length es.length) es) := by
        refine ⟨w.heap.size, us, rfl, Nat.le_refl _, hg.2, Nat.le_refl _, hul, ho, fun j x hx => ?_, fun i j x y b h1 h2 h3 => ?_⟩
        · have := lt_of_get hx
          obtain ⟨u, T, g1, g2⟩ := Hold.out j x this hx
          exact ⟨u, T, g1, g2, fun t ht => (lawI.range g2 t ht).2⟩
        · have := lt_of_get h3
          exact Hdt.out i j x y b h1 (by omega) h2 h3
      have Hb := Lib.hid hb
      clear ho hb hold hul hg
      go_wp2
      go_ret
      exact ⟨_, rfl, hfin.out, Hb.out⟩
end Go.Proofs.YtomnaabadohecaaGreat
