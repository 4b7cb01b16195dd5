/- Parts of the proof: walks of functions and plain laws. -/
import Derived.Test.YtlfehdikgbgloaaGreatP15
import Derived.Test.YtlfehdikgbgloaaGreatP16
import Derived.Test.YtlfehdikgbgloaaGreatP12
namespace Go.Proofs.YtlfehdikgbgloaaGreat
open Go.RowKit
/-! the reference's test of a state -/
theorem lets_false {m : Mac} {ls : List (Int × Int)} {l : Int × Int} {k : Nat} (hl : ls[k]? = some l) (h : nletB m l = true) : letsB m ls = false := by
  unfold letsB
  rw [List.any_eq_true.2 ⟨l, List.mem_of_getElem? hl, h⟩]
  simp
set_option maxRecDepth 100000 in
set_option maxHeartbeats 8000000 in
theorem syShape_any (ma mb mc md ve vi vn xa xb xc xd xf : Value) (m : Mac) (n : Net) (x : ASt) (w : World) (hMa : MacIn w ma mb mc md m) (h : NetIn w ve vi vn n) (hx : AsIn w xa xb xc xd xf x) (hok : macOk m = true) :
    Calls Tryz.prog 153 #[.agg #[.int .i64 m.degree, .int .i64 m.states, .int .i64 m.messages, ma, mb, mc, md], .agg #[ve, vi, vn], .agg #[xa, xb, xc, xd, xf]] w fun e w' => e = .returned (.bool (syShapeB m n x)) ∧ Below w.heap.size w w' := by
  obtain ⟨_, _, _, _, hmes⟩ := macOk_start hok
  have mm : IntKind.i64.wrap (m.messages - 1) = m.messages - 1 := wr64 _ (by omega) (by omega)
  clear hok hmes
  obtain ⟨w0, hw0⟩ : ∃ w0, w0 = (((w).alloc (.cells #[.int .i64 m.degree, .int .i64 m.states, .int .i64 m.messages, ma, mb, mc, md] 62)).alloc (.cells #[ve, vi, vn] 31)).alloc (.cells #[xa, xb, xc, xd, xf] 66) := ⟨_, rfl⟩
  have hb0 : Below w.heap.size w w0 := by rw [hw0]; exact ((((Below.refl _ _).alloc (by simp <;> omega) _).alloc (by simp <;> omega) _).alloc (by simp <;> omega) _)
  have H := Lib.hid (h.keep hb0)
  obtain ⟨h1, h2, h3⟩ := h.keep hb0
  obtain ⟨A, c, rfl, hlc, hm, hA⟩ := h1
  obtain ⟨A2, c2, rfl, _, hm2, _⟩ := h2
  obtain ⟨A3, c3, rfl, _, hm3, _⟩ := h3
  unfold maxLen at hm hm2 hm3
  have hkM := hMa.keep hb0
  have HM := Lib.hid hkM
  obtain ⟨M0, mz0, rfl, hlM0, hmM0, hMe0⟩ := id hkM.1
  unfold maxLen at hmM0
  have HMe0 := Lib.hid hMe0
  clear hMe0
  obtain ⟨M1, mz1, rfl, hlM1, hmM1, hMe1⟩ := id hkM.2.1
  unfold maxLen at hmM1
  have HMe1 := Lib.hid hMe1
  clear hMe1
  obtain ⟨M2, mz2, rfl, hlM2, hmM2, hMe2⟩ := id hkM.2.2.1
  unfold maxLen at hmM2
  have HMe2 := Lib.hid hMe2
  clear hMe2
  obtain ⟨M3, mz3, rfl, hlM3, hmM3, hMe3⟩ := id hkM.2.2.2
  unfold maxLen at hmM3
  have HMe3 := Lib.hid hMe3
  clear hMe3
  clear hkM hMa
  have hkX := hx.keep hb0
  have HX := Lib.hid hkX
  obtain ⟨X0, xz0, rfl, hlX0, hmX0, hXe0⟩ := id hkX.1
  unfold maxLen at hmX0
  have HXe0 := Lib.hid hXe0
  clear hXe0
  obtain ⟨X1, xz1, rfl, hlX1, hmX1, hXe1⟩ := id hkX.2.1
  unfold maxLen at hmX1
  have HXe1 := Lib.hid hXe1
  clear hXe1
  obtain ⟨X2, xz2, rfl, hlX2, hmX2, hXe2⟩ := id hkX.2.2.1
  unfold maxLen at hmX2
  have HXe2 := Lib.hid hXe2
  clear hXe2
  obtain ⟨X3, xz3, rfl, hlX3, hmX3, hXe3⟩ := id hkX.2.2.2.1
  unfold maxLen at hmX3
  have HXe3 := Lib.hid hXe3
  clear hXe3
  obtain ⟨X4, xz4, rfl, hlX4, hmX4, hXe4⟩ := id hkX.2.2.2.2
  unfold maxLen at hmX4
  have HXe4 := Lib.hid hXe4
  clear hXe4
  clear hkX hx
  have p00 : ∀ W, Since w0 W → W.cell? ⟨w.heap.size, 0, none⟩ = some (.int .i64 m.degree) := have_cell (by rw [hw0]; simp [go_sem])
  have p01 : ∀ W, Since w0 W → W.cell? ⟨w.heap.size, 1, none⟩ = some (.int .i64 m.states) := have_cell (by rw [hw0]; simp [go_sem])
  have p02 : ∀ W, Since w0 W → W.cell? ⟨w.heap.size, 2, none⟩ = some (.int .i64 m.messages) := have_cell (by rw [hw0]; simp [go_sem])
  have p03 : ∀ W, Since w0 W → W.cell? ⟨w.heap.size, 3, none⟩ = some (.slice M0 m.start.length mz0) := have_cell (by rw [hw0]; simp [go_sem])
  have p04 : ∀ W, Since w0 W → W.cell? ⟨w.heap.size, 4, none⟩ = some (.slice M1 m.send.length mz1) := have_cell (by rw [hw0]; simp [go_sem])
  have p05 : ∀ W, Since w0 W → W.cell? ⟨w.heap.size, 5, none⟩ = some (.slice M2 m.clauses.length mz2) := have_cell (by rw [hw0]; simp [go_sem])
  have p06 : ∀ W, Since w0 W → W.cell? ⟨w.heap.size, 6, none⟩ = some (.slice M3 m.output.length mz3) := have_cell (by rw [hw0]; simp [go_sem])
  have p10 : ∀ W, Since w0 W → W.cell? ⟨w.heap.size + 1, 0, none⟩ = some (.slice A n.ends.length c) := have_cell (by rw [hw0]; simp [go_sem])
  have p11 : ∀ W, Since w0 W → W.cell? ⟨w.heap.size + 1, 1, none⟩ = some (.slice A2 n.ids.length c2) := have_cell (by rw [hw0]; simp [go_sem])
  have p12 : ∀ W, Since w0 W → W.cell? ⟨w.heap.size + 1, 2, none⟩ = some (.slice A3 n.inputs.length c3) := have_cell (by rw [hw0]; simp [go_sem])
  have p20 : ∀ W, Since w0 W → W.cell? ⟨w.heap.size + 1 + 1, 0, none⟩ = some (.slice X0 x.rounds.length xz0) := have_cell (by rw [hw0]; simp [go_sem])
  have p21 : ∀ W, Since w0 W → W.cell? ⟨w.heap.size + 1 + 1, 1, none⟩ = some (.slice X1 x.before.length xz1) := have_cell (by rw [hw0]; simp [go_sem])
  have p22 : ∀ W, Since w0 W → W.cell? ⟨w.heap.size + 1 + 1, 2, none⟩ = some (.slice X2 x.now.length xz2) := have_cell (by rw [hw0]; simp [go_sem])
  have p23 : ∀ W, Since w0 W → W.cell? ⟨w.heap.size + 1 + 1, 3, none⟩ = some (.slice X3 x.slots.length xz3) := have_cell (by rw [hw0]; simp [go_sem])
  have p24 : ∀ W, Since w0 W → W.cell? ⟨w.heap.size + 1 + 1, 4, none⟩ = some (.slice X4 x.flight.length xz4) := have_cell (by rw [hw0]; simp [go_sem])
  have Hb0 := Lib.hid hb0
  have Hw0 := Lib.hid hw0
  have HA := Lib.hid hA
  clear hA h
  clear hb0 hw0
  have HXr := Lib.hid HX.out.1
  have HXb := Lib.hid HX.out.2.1
  have HXn := Lib.hid HX.out.2.2.1
  have hs0 : Since w0 w0 := since_refl _
  go_enter Tryz.func153, Tryz.ntmps153
  go_upto_region 1 with (fail)
  rw [← Hw0.out]
  refine wp_region_flow0 16 (Since w0) (hs0) ?_
  simp only [List.take_succ_cons, List.take_zero, List.drop_succ_cons, List.drop_zero]
  refine flow_val (v := ?_) rfl ?_ ?_; rotate_left; (intro W hW; go_simp; with_reducible rfl)
  simp only [Act.put, List.setIfInBounds_toArray, List.set_cons_succ, List.set_cons_zero]
  refine flow_val (v := ?_) rfl ?_ ?_; rotate_left; (intro W hW; go_simp; with_reducible rfl)
  simp only [Act.put, List.setIfInBounds_toArray, List.set_cons_succ, List.set_cons_zero]
  refine flow_val (v := ?_) rfl ?_ ?_; rotate_left; (intro W hW; go_simp; with_reducible rfl)
  simp only [Act.put, List.setIfInBounds_toArray, List.set_cons_succ, List.set_cons_zero]
  refine flow_val (v := ?_) rfl ?_ ?_; rotate_left; (intro W hW; go_simp; with_reducible rfl)
  simp only [Act.put, List.setIfInBounds_toArray, List.set_cons_succ, List.set_cons_zero]
  refine flow_val (v := ?_) rfl ?_ ?_; rotate_left; (intro W hW; go_simp; with_reducible rfl)
  simp only [Act.put, List.setIfInBounds_toArray, List.set_cons_succ, List.set_cons_zero]
  refine flow_val (v := ?_) rfl ?_ ?_; rotate_left; (intro W hW; go_simp; with_reducible rfl)
  simp only [Act.put, List.setIfInBounds_toArray, List.set_cons_succ, List.set_cons_zero]
  refine flow_val (v := ?_) rfl ?_ ?_; rotate_left; (intro W hW; go_simp; with_reducible rfl)
  simp only [Act.put, List.setIfInBounds_toArray, List.set_cons_succ, List.set_cons_zero]
  refine flow_val (v := ?_) rfl ?_ ?_; rotate_left; (intro W hW; go_simp; with_reducible rfl)
  simp only [Act.put, List.setIfInBounds_toArray, List.set_cons_succ, List.set_cons_zero]
  refine flow_gval (v := ?_) rfl rfl ?_ ?_; rotate_left; (intro hb; intro W hW; go_simp; with_reducible rfl)
  simp only [Act.put, List.setIfInBounds_toArray, List.set_cons_succ, List.set_cons_zero]
  refine flow_gval (v := ?_) rfl rfl ?_ ?_; rotate_left; (intro hb; intro W hW; go_simp; with_reducible rfl)
  simp only [Act.put, List.setIfInBounds_toArray, List.set_cons_succ, List.set_cons_zero]
  refine flow_gval (v := ?_) rfl rfl ?_ ?_; rotate_left; (intro hb; intro W hW; go_simp; with_reducible rfl)
  simp only [Act.put, List.setIfInBounds_toArray, List.set_cons_succ, List.set_cons_zero]
  refine flow_gval (v := ?_) rfl rfl ?_ ?_; rotate_left; (intro hb; intro W hW; go_simp; with_reducible rfl)
  simp only [Act.put, List.setIfInBounds_toArray, List.set_cons_succ, List.set_cons_zero]
  refine flow_gval (v := ?_) rfl rfl ?_ ?_; rotate_left; (intro hb; intro W hW; go_simp; with_reducible rfl)
  simp only [Act.put, List.setIfInBounds_toArray, List.set_cons_succ, List.set_cons_zero]
  refine flow_gval (v := ?_) rfl rfl ?_ ?_; rotate_left; (intro hb; intro W hW; go_simp; with_reducible rfl)
  simp only [Act.put, List.setIfInBounds_toArray, List.set_cons_succ, List.set_cons_zero]
  refine flow_gval (v := ?_) rfl rfl ?_ ?_; rotate_left; (intro hb; intro W hW; go_simp; with_reducible rfl)
  simp only [Act.put, List.setIfInBounds_toArray, List.set_cons_succ, List.set_cons_zero]
  first | refine flow_or rfl rfl ?_ | (refine flow_val (v := ?_) rfl ?_ ?_; rotate_left; (intro W hW; go_simp; with_reducible rfl))
  simp only [Act.put, List.setIfInBounds_toArray, List.set_cons_succ, List.set_cons_zero]
  intro W1 hW1
  clear hs0
  cases hg : (((x.slots.length : Int) != (n.ends.length : Int)) || ((x.flight.length : Int) != (n.ends.length : Int)))
  · obtain ⟨hr, hl1, hl2⟩ := shape_all (m := m) hg
    have Hr := Lib.hid hr
    have Hl := Lib.hid (And.intro hl1 hl2)
    clear hg hr hl1 hl2
    go_wp2
    go_loopw [32] (fun i wr => ∃ k : Nat, k ≤ n.ends.length ∧ i = .int .i64 k ∧ (List.range k).all (slotAt m n x) = true ∧ Since w0 wr) (fun i _ => n.ends.length - (intOf i).toNat)
    case atStart => exact ⟨0, Nat.zero_le _, rfl, rfl, hW1⟩
    case round =>
      obtain ⟨k, hk, rfl, hall, hsr⟩ := hrel
      clear hW1
      have Hall := Lib.hid hall
      clear hall
      by_cases hlt : k < n.ends.length
      · obtain ⟨es, hes⟩ := getx n.ends k hlt
        obtain ⟨b, offr, cr, ur, hA1, hkr, hc1, hrow⟩ := row_at H.out.es hes
        cases hA1
        obtain ⟨A1, z1, rfl, hz1, hz2, _⟩ := hrow
        unfold maxLen at hz2
        have q5 := have_cell hc1
        have hk3 : k < x.slots.length := by have := Hl.out.1; omega
        have hk4 : k < x.flight.length := by have := Hl.out.2; omega
        obtain ⟨sl, hsl⟩ := getx x.slots k hk3
        obtain ⟨fl, hfl⟩ := getx x.flight k hk4
        obtain ⟨b3, o3, u3, rfl, hc3, hsl2⟩ := HXe3.out k sl hsl
        obtain ⟨b4, o4, u4, rfl, hc4, hfl2⟩ := HXe4.out k fl hfl
        have q6 := have_cell hc3
        have q7 := have_cell hc4
        have Hat : Hid (slotAt m n x k = slotB m (es.length : Int) sl fl) := by
          show _ = _
          unfold slotAt
          simp [List.getD, hes, hsl, hfl]
        have Hsl := Lib.hid (fun W (hW : Since w0 W) => hsl2.keep hW.below)
        obtain ⟨A6, z6, rfl, _, hz6, _⟩ := hsl2
        obtain ⟨A7, z7, rfl, _, hz7, hfe⟩ := hfl2
        have Hfe := Lib.hid hfe
        unfold maxLen at hz6 hz7
        clear hes hsl hfl hc1 hc3 hc4 hfe
        go_upto_region 6 with (fail)
        refine wp_region_flow 32 (Since w0) (by kernel_rfl) (by kernel_rfl) (by simp) (since_drew hsr) ?_
        simp only [List.take_succ_cons, List.take_zero, List.drop_succ_cons, List.drop_zero]
        refine flow_val (v := ?_) rfl ?_ ?_; rotate_left; (intro W hW; go_simp; with_reducible rfl)
        simp only [Act.put, List.setIfInBounds_toArray, List.set_cons_succ, List.set_cons_zero]
        refine flow_val (v := ?_) rfl ?_ ?_; rotate_left; (intro W hW; go_simp; with_reducible rfl)
        simp only [Act.put, List.setIfInBounds_toArray, List.set_cons_succ, List.set_cons_zero]
        refine flow_val (v := ?_) rfl ?_ ?_; rotate_left; (intro W hW; go_simp; with_reducible rfl)
        simp only [Act.put, List.setIfInBounds_toArray, List.set_cons_succ, List.set_cons_zero]
        refine flow_val (v := ?_) rfl ?_ ?_; rotate_left; (intro W hW; go_simp; with_reducible rfl)
        simp only [Act.put, List.setIfInBounds_toArray, List.set_cons_succ, List.set_cons_zero]
        refine flow_val (v := ?_) rfl ?_ ?_; rotate_left; (intro W hW; go_simp; with_reducible rfl)
        simp only [Act.put, List.setIfInBounds_toArray, List.set_cons_succ, List.set_cons_zero]
        refine flow_val (v := ?_) rfl ?_ ?_; rotate_left; (intro W hW; go_simp; with_reducible rfl)
        simp only [Act.put, List.setIfInBounds_toArray, List.set_cons_succ, List.set_cons_zero]
        refine flow_val (v := ?_) rfl ?_ ?_; rotate_left; (intro W hW; go_simp; with_reducible rfl)
        simp only [Act.put, List.setIfInBounds_toArray, List.set_cons_succ, List.set_cons_zero]
        refine flow_val (v := ?_) rfl ?_ ?_; rotate_left; (intro W hW; go_simp; with_reducible rfl)
        simp only [Act.put, List.setIfInBounds_toArray, List.set_cons_succ, List.set_cons_zero]
        refine flow_val (v := ?_) rfl ?_ ?_; rotate_left; (intro W hW; go_simp; with_reducible rfl)
        simp only [Act.put, List.setIfInBounds_toArray, List.set_cons_succ, List.set_cons_zero]
        refine flow_val (v := ?_) rfl ?_ ?_; rotate_left; (intro W hW; go_simp; with_reducible rfl)
        simp only [Act.put, List.setIfInBounds_toArray, List.set_cons_succ, List.set_cons_zero]
        refine flow_gval (v := ?_) rfl rfl ?_ ?_; rotate_left; (intro hb; intro W hW; go_simp; with_reducible rfl)
        simp only [Act.put, List.setIfInBounds_toArray, List.set_cons_succ, List.set_cons_zero]
        refine flow_gval (v := ?_) rfl rfl ?_ ?_; rotate_left; (intro hb; intro W hW; go_simp; with_reducible rfl)
        simp only [Act.put, List.setIfInBounds_toArray, List.set_cons_succ, List.set_cons_zero]
        refine flow_gval (v := ?_) rfl rfl ?_ ?_; rotate_left; (intro hb; intro W hW; go_simp; with_reducible rfl)
        simp only [Act.put, List.setIfInBounds_toArray, List.set_cons_succ, List.set_cons_zero]
        refine flow_gval (v := ?_) rfl rfl ?_ ?_; rotate_left; (intro hb; intro W hW; go_simp; with_reducible rfl)
        simp only [Act.put, List.setIfInBounds_toArray, List.set_cons_succ, List.set_cons_zero]
        refine flow_gval (v := ?_) rfl rfl ?_ ?_; rotate_left; (intro hb; intro W hW; go_simp; with_reducible rfl)
        simp only [Act.put, List.setIfInBounds_toArray, List.set_cons_succ, List.set_cons_zero]
        refine flow_gval (v := ?_) rfl rfl ?_ ?_; rotate_left; (intro hb; intro W hW; go_simp; with_reducible rfl)
        simp only [Act.put, List.setIfInBounds_toArray, List.set_cons_succ, List.set_cons_zero]
        refine flow_gval (v := ?_) rfl rfl ?_ ?_; rotate_left; (intro hb; intro W hW; go_simp; with_reducible rfl)
        simp only [Act.put, List.setIfInBounds_toArray, List.set_cons_succ, List.set_cons_zero]
        refine flow_gval (v := ?_) rfl rfl ?_ ?_; rotate_left; (intro hb; intro W hW; go_simp; with_reducible rfl)
        simp only [Act.put, List.setIfInBounds_toArray, List.set_cons_succ, List.set_cons_zero]
        refine flow_gval (v := ?_) rfl rfl ?_ ?_; rotate_left; (intro hb; intro W hW; go_simp; with_reducible rfl)
        simp only [Act.put, List.setIfInBounds_toArray, List.set_cons_succ, List.set_cons_zero]
        first | refine flow_or rfl rfl ?_ | (refine flow_val (v := ?_) rfl ?_ ?_; rotate_left; (intro W hW; go_simp; with_reducible rfl))
        simp only [Act.put, List.setIfInBounds_toArray, List.set_cons_succ, List.set_cons_zero]
        refine flow_val (v := ?_) rfl ?_ ?_; rotate_left; (intro W hW; go_simp; with_reducible rfl)
        simp only [Act.put, List.setIfInBounds_toArray, List.set_cons_succ, List.set_cons_zero]
        refine flow_gval (v := ?_) rfl rfl ?_ ?_; rotate_left; (intro hb; intro W hW; go_simp; with_reducible rfl)
        simp only [Act.put, List.setIfInBounds_toArray, List.set_cons_succ, List.set_cons_zero]
        refine flow_gval (v := ?_) rfl rfl ?_ ?_; rotate_left; (intro hb; intro W hW; go_simp; with_reducible rfl)
        simp only [Act.put, List.setIfInBounds_toArray, List.set_cons_succ, List.set_cons_zero]
        refine flow_gval (v := ?_) rfl rfl ?_ ?_; rotate_left; (intro hb; intro W hW; go_simp; with_reducible rfl)
        simp only [Act.put, List.setIfInBounds_toArray, List.set_cons_succ, List.set_cons_zero]
        refine flow_gval (v := ?_) rfl rfl ?_ ?_; rotate_left; (intro hb; intro W hW; go_simp; with_reducible rfl)
        simp only [Act.put, List.setIfInBounds_toArray, List.set_cons_succ, List.set_cons_zero]
        refine flow_gval (v := ?_) rfl rfl ?_ ?_; rotate_left; (intro hb; intro W hW; go_simp; with_reducible rfl)
        simp only [Act.put, List.setIfInBounds_toArray, List.set_cons_succ, List.set_cons_zero]
        refine flow_gval (v := ?_) rfl rfl ?_ ?_; rotate_left; (intro hb; intro W hW; go_simp; with_reducible rfl)
        simp only [Act.put, List.setIfInBounds_toArray, List.set_cons_succ, List.set_cons_zero]
        refine flow_gval (v := ?_) rfl rfl ?_ ?_; rotate_left; (intro hb; intro W hW; go_simp; with_reducible rfl)
        simp only [Act.put, List.setIfInBounds_toArray, List.set_cons_succ, List.set_cons_zero]
        refine flow_gval (v := ?_) rfl rfl ?_ ?_; rotate_left; (intro hb; intro W hW; go_simp; with_reducible rfl)
        simp only [Act.put, List.setIfInBounds_toArray, List.set_cons_succ, List.set_cons_zero]
        refine flow_gop (v := ?_) rfl rfl ?_ ?_; rotate_left; (intro hb; intro W hW; unfold Gives; go_simp; (with_reducible refine (l1All_b _ sl _ _ W (Hsl.out W hW)).mono ?_); rintro e W' ⟨rfl, hb3⟩; first | (refine ⟨?_, Since.trans hW hb3⟩; with_reducible rfl) | (subst hb3; refine ⟨?_, hW⟩; with_reducible rfl))
        simp only [Act.put, List.setIfInBounds_toArray, List.set_cons_succ, List.set_cons_zero]
        refine flow_gval (v := ?_) rfl rfl ?_ ?_; rotate_left; (intro hb; intro W hW; go_simp; with_reducible rfl)
        simp only [Act.put, List.setIfInBounds_toArray, List.set_cons_succ, List.set_cons_zero]
        first | refine flow_or rfl rfl ?_ | (refine flow_val (v := ?_) rfl ?_ ?_; rotate_left; (intro W hW; go_simp; with_reducible rfl))
        simp only [Act.put, List.setIfInBounds_toArray, List.set_cons_succ, List.set_cons_zero]
        intro W2 hW2
        clear hsr
        cases hg2 : (((sl.length : Int) != (es.length : Int)) || ((fl.length : Int) != (es.length : Int)) || !allB sl (-1) (m.messages - 1))
        · have Hg2 := Lib.hid (slot_lets (flight := fl) hg2)
          clear hg2
          have Hk := Lib.hid (And.intro hk (And.intro hlt (And.intro hk3 hk4)))
          go_wp2
          go_loopw [75] (fun i wr => ∃ j : Nat, j ≤ fl.length ∧ i = .int .i64 j ∧ (fl.take j).all (letsB m) = true ∧ Since w0 wr) (fun i _ => fl.length - (intOf i).toNat)
          case atStart => exact ⟨0, Nat.zero_le _, rfl, by simp, hW2⟩
          case round =>
            obtain ⟨j, hj, rfl, hall2, hsr2⟩ := hrel
            clear hW2
            have Hall2 := Lib.hid hall2
            clear hall2
            by_cases hlt2 : j < fl.length
            · obtain ⟨ls, hls⟩ := getx fl j hlt2
              obtain ⟨b5, o5, u5, rfl, hc5, hrow5⟩ := Hfe.out j ls hls
              have q8 := have_cell hc5
              obtain ⟨A8, z8, rfl, _, hz8, hle⟩ := hrow5
              have Hle := Lib.hid hle
              have Hls := Lib.hid hls
              unfold maxLen at hz8
              clear hls hc5 hle
              by_cases h12 : (12 : Int) < (ls.length : Int)
              · have hr := Lib.hid (show syShapeB m n x = false by
                  rw [Hr.out, List.all_eq_false]
                  refine ⟨k, List.mem_range.2 Hk.out.2.1, ?_⟩
                  rw [Hat.out, Hg2.out]
                  simp only [Bool.not_eq_true]
                  rw [List.all_eq_false]
                  refine ⟨ls, List.mem_of_getElem? Hls.out, ?_⟩
                  unfold letsB
                  rw [decide_eq_false (by omega)]
                  simp)
                have h12' : 12 < ls.length := by omega
                have HS2 := Lib.hid hsr2
                go_wp2
                go_ret
                exact ⟨ret_false hr.out, Since.after Hb0.out HS2.out⟩
              · have h12' : ¬ 12 < ls.length := by omega
                have H12 := Lib.hid h12
                have Hj := Lib.hid (And.intro hj hlt2)
                go_wp2
                go_loopw [84] (fun i wr => ∃ q : Nat, q ≤ ls.length ∧ i = .int .i64 q ∧ (ls.take q).any (nletB m) = false ∧ Since w0 wr) (fun i _ => ls.length - (intOf i).toNat)
                case atStart => exact ⟨0, Nat.zero_le _, rfl, by simp, hsr2⟩
                case round =>
                  obtain ⟨q, hq, rfl, hany, hsr3⟩ := hrel
                  clear hsr2
                  have Hany := Lib.hid hany
                  clear hany
                  by_cases hlt3 : q < ls.length
                  · obtain ⟨l, hl⟩ := getx ls q hlt3
                    obtain ⟨b9, o9, rfl, hd0, hd1⟩ := Hle.out q l hl
                    have r0 := have_cell hd0
                    have r1 := have_cell hd1
                    have Hx := Lib.hid hl
                    obtain ⟨w1, hw1⟩ : ∃ w1, w1 = wr.alloc (.cells #[.int .i64 l.1, .int .i64 l.2] 169) := ⟨_, rfl⟩
                    have hs1 : Since w0 w1 := by rw [hw1]; exact since_alloc _ hsr3
                    have c0 : ∀ W, Since w1 W → W.cell? ⟨wr.heap.size, 0, none⟩ = some (.int .i64 l.1) := fun W hW => bc hW (by rw [hw1]; simp)
                    have c1 : ∀ W, Since w1 W → W.cell? ⟨wr.heap.size, 1, none⟩ = some (.int .i64 l.2) := fun W hW => bc hW (by rw [hw1]; simp)
                    have q2 := lift_cell p02 hs1
                    have Hs1 := Lib.hid hs1
                    have Hw1 := Lib.hid hw1
                    clear hs1 hw1 hl hd0 hd1
                    go_upto_region 16 with (fail)
                    rw [← Hw1.out]
                    clear r0 r1
                    refine wp_region_flow0 13 (Since w1) (since_refl _) ?_
                    simp only [List.take_succ_cons, List.take_zero, List.drop_succ_cons, List.drop_zero]
                    refine flow_val (v := ?_) rfl ?_ ?_; rotate_left; (intro W hW; go_simp; with_reducible rfl)
                    simp only [Act.put, List.setIfInBounds_toArray, List.set_cons_succ, List.set_cons_zero]
                    refine flow_val (v := ?_) rfl ?_ ?_; rotate_left; (intro W hW; go_simp; with_reducible rfl)
                    simp only [Act.put, List.setIfInBounds_toArray, List.set_cons_succ, List.set_cons_zero]
                    refine flow_op ?_ rfl ?_ ?_; rotate_left; (intro W hW; unfold Gives; go_simp; (with_reducible refine (l1In_b _ _ _ W).mono ?_); rintro e W' ⟨rfl, hb3⟩; first | (refine ⟨?_, Since.trans hW hb3⟩; with_reducible rfl) | (subst hb3; refine ⟨?_, hW⟩; with_reducible rfl))
                    simp only [Act.put, List.setIfInBounds_toArray, List.set_cons_succ, List.set_cons_zero]
                    refine flow_val (v := ?_) rfl ?_ ?_; rotate_left; (intro W hW; go_simp; with_reducible rfl)
                    simp only [Act.put, List.setIfInBounds_toArray, List.set_cons_succ, List.set_cons_zero]
                    refine flow_val (v := ?_) rfl ?_ ?_; rotate_left; (intro W hW; go_simp; with_reducible rfl)
                    simp only [Act.put, List.setIfInBounds_toArray, List.set_cons_succ, List.set_cons_zero]
                    refine flow_gval (v := ?_) rfl rfl ?_ ?_; rotate_left; (intro hb; intro W hW; go_simp; with_reducible rfl)
                    simp only [Act.put, List.setIfInBounds_toArray, List.set_cons_succ, List.set_cons_zero]
                    refine flow_gval (v := ?_) rfl rfl ?_ ?_; rotate_left; (intro hb; intro W hW; go_simp; with_reducible rfl)
                    simp only [Act.put, List.setIfInBounds_toArray, List.set_cons_succ, List.set_cons_zero]
                    refine flow_gval (v := ?_) rfl rfl ?_ ?_; rotate_left; (intro hb; intro W hW; go_simp; with_reducible rfl)
                    simp only [Act.put, List.setIfInBounds_toArray, List.set_cons_succ, List.set_cons_zero]
                    refine flow_gval (v := ?_) rfl rfl ?_ ?_; rotate_left; (intro hb; intro W hW; go_simp; with_reducible rfl)
                    simp only [Act.put, List.setIfInBounds_toArray, List.set_cons_succ, List.set_cons_zero]
                    refine flow_gval (v := ?_) rfl rfl ?_ ?_; rotate_left; (intro hb; intro W hW; go_simp; with_reducible rfl)
                    simp only [Act.put, List.setIfInBounds_toArray, List.set_cons_succ, List.set_cons_zero]
                    refine flow_gop (v := ?_) rfl rfl ?_ ?_; rotate_left; (intro hb; intro W hW; unfold Gives; go_simp; (with_reducible refine (l1In_b _ _ _ W).mono ?_); rintro e W' ⟨rfl, hb3⟩; first | (refine ⟨?_, Since.trans hW hb3⟩; with_reducible rfl) | (subst hb3; refine ⟨?_, hW⟩; with_reducible rfl))
                    simp only [Act.put, List.setIfInBounds_toArray, List.set_cons_succ, List.set_cons_zero]
                    refine flow_gval (v := ?_) rfl rfl ?_ ?_; rotate_left; (intro hb; intro W hW; go_simp; with_reducible rfl)
                    simp only [Act.put, List.setIfInBounds_toArray, List.set_cons_succ, List.set_cons_zero]
                    first | refine flow_or rfl rfl ?_ | (refine flow_val (v := ?_) rfl ?_ ?_; rotate_left; (intro W hW; go_simp; with_reducible rfl))
                    simp only [Act.put, List.setIfInBounds_toArray, List.set_cons_succ, List.set_cons_zero]
                    intro W3 hW3
                    have HW3 := Lib.hid (Hs1.out.after hW3)
                    cases hg3 : (!inB 0 40 l.1 || !inB 0 (m.messages - 1) l.2)
                    · have Hg3 : Hid (nletB m l = false) := by show _ = _; unfold nletB; exact hg3
                      go_wp2
                      go_roundw
                      case rel => exact ⟨q + 1, by omega, by go_num, by rw [take_snoc Hx.out, List.any_append, Hany.out]; simpa using Hg3.out, HW3.out⟩
                      case measure => simp [intOf]; omega
                    · have hr := Lib.hid (show syShapeB m n x = false by
                        rw [Hr.out, List.all_eq_false]
                        refine ⟨k, List.mem_range.2 Hk.out.2.1, ?_⟩
                        rw [Hat.out, Hg2.out]
                        simp only [Bool.not_eq_true]
                        rw [List.all_eq_false]
                        refine ⟨ls, List.mem_of_getElem? Hls.out, ?_⟩
                        rw [lets_false Hx.out (by unfold nletB; exact hg3)]
                        simp)
                      clear hW3
                      go_wp2
                      go_ret
                      exact ⟨ret_false hr.out, Since.after Hb0.out HW3.out⟩
                  · obtain rfl : q = ls.length := by omega
                    have Hl2 : Hid (letsB m ls = true) := by
                      show _ = _
                      have h1 := Hany.out
                      rw [List.take_length] at h1
                      unfold letsB
                      rw [h1, decide_eq_true (by have := H12.out; omega)]
                      rfl
                    have HS3 := Lib.hid hsr3
                    clear hlt3 hq
                    go_wp2
                    go_roundw
                    case rel => exact ⟨j + 1, by omega, by go_num, by rw [take_snoc Hls.out, List.all_append, Hall2.out]; simpa using Hl2.out, HS3.out⟩
                    case measure => simp [intOf]; omega
            · obtain rfl : j = fl.length := by omega
              have Hk2 : Hid (slotAt m n x k = true) := by
                show _ = _
                have h1 := Hall2.out
                rw [List.take_length] at h1
                rw [Hat.out, Hg2.out, h1]
              have HS2 := Lib.hid hsr2
              clear hlt2 hj
              go_wp2
              go_roundw
              case rel => exact ⟨k + 1, by omega, by go_num, by rw [List.range_succ, List.all_append, Hall.out]; simpa using Hk2.out, HS2.out⟩
              case measure => simp [intOf]; omega
        · have hr := Lib.hid (show syShapeB m n x = false by
            rw [Hr.out, List.all_eq_false]
            refine ⟨k, List.mem_range.2 hlt, ?_⟩
            rw [Hat.out, slot_false (flight := fl) hg2]
            simp)
          have HW2 := Lib.hid hW2
          clear hW2
          go_wp2
          go_ret
          exact ⟨ret_false hr.out, Since.after Hb0.out HW2.out⟩
      · obtain rfl : k = n.ends.length := by omega
        have hr := Lib.hid (show syShapeB m n x = true by rw [Hr.out, Hall.out])
        have HS2 := Lib.hid hsr
        clear hsr hlt hk
        go_wp2
        go_ret
        exact ⟨ret_true hr.out, Since.after Hb0.out HS2.out⟩
  · have hr := Lib.hid (shape_false (m := m) hg)
    have HW1 := Lib.hid hW1
    clear hW1
    go_wp2
    go_ret
    exact ⟨ret_false hr.out, Since.after Hb0.out HW1.out⟩
theorem syg_false {m : Mac} {n : Net} {x : ASt} (h : (!askedB m n || ((x.rounds.length : Int) != (n.ends.length : Int)) || !allB x.rounds 0 40) = true) : syGoodB m n x = false := by
  unfold syGoodB asyncOkB
  cases h1 : askedB m n
  · simp
  · cases h2 : allB x.rounds 0 40
    · simp
    · simp only [h1, h2, Bool.not_true, Bool.or_false, Bool.false_or, bne_iff_ne] at h
      rw [beq_eq_false_iff_ne.2 h]
      simp
theorem syg_rest {m : Mac} {n : Net} {x : ASt} (h : (!askedB m n || ((x.rounds.length : Int) != (n.ends.length : Int)) || !allB x.rounds 0 40) = false) : syGoodB m n x = (maRowB x.before n.ends.length m.states && maRowB x.now n.ends.length m.states && syShapeB m n x) ∧ askedB m n = true := by
  simp only [Bool.or_eq_false_iff, Bool.not_eq_false', bne_eq_false_iff_eq] at h
  refine ⟨?_, h.1.1⟩
  unfold syGoodB asyncOkB
  rw [h.1.1, h.1.2, h.2]
  simp
set_option maxRecDepth 100000 in
set_option maxHeartbeats 4000000 in
theorem syGood_any (ma mb mc md ve vi vn xa xb xc xd xf : Value) (m : Mac) (n : Net) (x : ASt) (w : World) (hMa : MacIn w ma mb mc md m) (h : NetIn w ve vi vn n) (hx : AsIn w xa xb xc xd xf x) (hil : n.ids.length ≤ 17592186044416) :
    Calls Tryz.prog 85 #[.agg #[.int .i64 m.degree, .int .i64 m.states, .int .i64 m.messages, ma, mb, mc, md], .agg #[ve, vi, vn], .agg #[xa, xb, xc, xd, xf]] w fun e w' => e = .returned (.bool (syGoodB m n x)) ∧ Below w.heap.size w w' := by
  have Hil := Lib.hid hil
  clear hil
  obtain ⟨w0, hw0⟩ : ∃ w0, w0 = (((w).alloc (.cells #[.int .i64 m.degree, .int .i64 m.states, .int .i64 m.messages, ma, mb, mc, md] 62)).alloc (.cells #[ve, vi, vn] 31)).alloc (.cells #[xa, xb, xc, xd, xf] 66) := ⟨_, rfl⟩
  have hb0 : Below w.heap.size w w0 := by rw [hw0]; exact ((((Below.refl _ _).alloc (by simp <;> omega) _).alloc (by simp <;> omega) _).alloc (by simp <;> omega) _)
  have H := Lib.hid (h.keep hb0)
  obtain ⟨h1, h2, h3⟩ := h.keep hb0
  obtain ⟨A, c, rfl, hlc, hm, hA⟩ := h1
  obtain ⟨A2, c2, rfl, _, hm2, _⟩ := h2
  obtain ⟨A3, c3, rfl, _, hm3, _⟩ := h3
  unfold maxLen at hm hm2 hm3
  have hkM := hMa.keep hb0
  have HM := Lib.hid hkM
  obtain ⟨M0, mz0, rfl, hlM0, hmM0, hMe0⟩ := id hkM.1
  unfold maxLen at hmM0
  have HMe0 := Lib.hid hMe0
  clear hMe0
  obtain ⟨M1, mz1, rfl, hlM1, hmM1, hMe1⟩ := id hkM.2.1
  unfold maxLen at hmM1
  have HMe1 := Lib.hid hMe1
  clear hMe1
  obtain ⟨M2, mz2, rfl, hlM2, hmM2, hMe2⟩ := id hkM.2.2.1
  unfold maxLen at hmM2
  have HMe2 := Lib.hid hMe2
  clear hMe2
  obtain ⟨M3, mz3, rfl, hlM3, hmM3, hMe3⟩ := id hkM.2.2.2
  unfold maxLen at hmM3
  have HMe3 := Lib.hid hMe3
  clear hMe3
  clear hkM hMa
  have hkX := hx.keep hb0
  have HX := Lib.hid hkX
  obtain ⟨X0, xz0, rfl, hlX0, hmX0, hXe0⟩ := id hkX.1
  unfold maxLen at hmX0
  have HXe0 := Lib.hid hXe0
  clear hXe0
  obtain ⟨X1, xz1, rfl, hlX1, hmX1, hXe1⟩ := id hkX.2.1
  unfold maxLen at hmX1
  have HXe1 := Lib.hid hXe1
  clear hXe1
  obtain ⟨X2, xz2, rfl, hlX2, hmX2, hXe2⟩ := id hkX.2.2.1
  unfold maxLen at hmX2
  have HXe2 := Lib.hid hXe2
  clear hXe2
  obtain ⟨X3, xz3, rfl, hlX3, hmX3, hXe3⟩ := id hkX.2.2.2.1
  unfold maxLen at hmX3
  have HXe3 := Lib.hid hXe3
  clear hXe3
  obtain ⟨X4, xz4, rfl, hlX4, hmX4, hXe4⟩ := id hkX.2.2.2.2
  unfold maxLen at hmX4
  have HXe4 := Lib.hid hXe4
  clear hXe4
  clear hkX hx
  have p00 : ∀ W, Since w0 W → W.cell? ⟨w.heap.size, 0, none⟩ = some (.int .i64 m.degree) := have_cell (by rw [hw0]; simp [go_sem])
  have p01 : ∀ W, Since w0 W → W.cell? ⟨w.heap.size, 1, none⟩ = some (.int .i64 m.states) := have_cell (by rw [hw0]; simp [go_sem])
  have p02 : ∀ W, Since w0 W → W.cell? ⟨w.heap.size, 2, none⟩ = some (.int .i64 m.messages) := have_cell (by rw [hw0]; simp [go_sem])
  have p03 : ∀ W, Since w0 W → W.cell? ⟨w.heap.size, 3, none⟩ = some (.slice M0 m.start.length mz0) := have_cell (by rw [hw0]; simp [go_sem])
  have p04 : ∀ W, Since w0 W → W.cell? ⟨w.heap.size, 4, none⟩ = some (.slice M1 m.send.length mz1) := have_cell (by rw [hw0]; simp [go_sem])
  have p05 : ∀ W, Since w0 W → W.cell? ⟨w.heap.size, 5, none⟩ = some (.slice M2 m.clauses.length mz2) := have_cell (by rw [hw0]; simp [go_sem])
  have p06 : ∀ W, Since w0 W → W.cell? ⟨w.heap.size, 6, none⟩ = some (.slice M3 m.output.length mz3) := have_cell (by rw [hw0]; simp [go_sem])
  have p10 : ∀ W, Since w0 W → W.cell? ⟨w.heap.size + 1, 0, none⟩ = some (.slice A n.ends.length c) := have_cell (by rw [hw0]; simp [go_sem])
  have p11 : ∀ W, Since w0 W → W.cell? ⟨w.heap.size + 1, 1, none⟩ = some (.slice A2 n.ids.length c2) := have_cell (by rw [hw0]; simp [go_sem])
  have p12 : ∀ W, Since w0 W → W.cell? ⟨w.heap.size + 1, 2, none⟩ = some (.slice A3 n.inputs.length c3) := have_cell (by rw [hw0]; simp [go_sem])
  have p20 : ∀ W, Since w0 W → W.cell? ⟨w.heap.size + 1 + 1, 0, none⟩ = some (.slice X0 x.rounds.length xz0) := have_cell (by rw [hw0]; simp [go_sem])
  have p21 : ∀ W, Since w0 W → W.cell? ⟨w.heap.size + 1 + 1, 1, none⟩ = some (.slice X1 x.before.length xz1) := have_cell (by rw [hw0]; simp [go_sem])
  have p22 : ∀ W, Since w0 W → W.cell? ⟨w.heap.size + 1 + 1, 2, none⟩ = some (.slice X2 x.now.length xz2) := have_cell (by rw [hw0]; simp [go_sem])
  have p23 : ∀ W, Since w0 W → W.cell? ⟨w.heap.size + 1 + 1, 3, none⟩ = some (.slice X3 x.slots.length xz3) := have_cell (by rw [hw0]; simp [go_sem])
  have p24 : ∀ W, Since w0 W → W.cell? ⟨w.heap.size + 1 + 1, 4, none⟩ = some (.slice X4 x.flight.length xz4) := have_cell (by rw [hw0]; simp [go_sem])
  have Hb0 := Lib.hid hb0
  have Hw0 := Lib.hid hw0
  have HA := Lib.hid hA
  clear hA h
  clear hb0 hw0
  have HXr := Lib.hid HX.out.1
  have HXb := Lib.hid HX.out.2.1
  have HXn := Lib.hid HX.out.2.2.1
  go_enter Tryz.func85, Tryz.ntmps85
  go_upto_region 1 with (fail)
  rw [← Hw0.out]
  refine wp_region_flow0 19 (Since w0) (since_refl _) ?_
  simp only [List.take_succ_cons, List.take_zero, List.drop_succ_cons, List.drop_zero]
  refine flow_val (v := ?_) rfl ?_ ?_; rotate_left; (intro W hW; go_simp; with_reducible rfl)
  simp only [Act.put, List.setIfInBounds_toArray, List.set_cons_succ, List.set_cons_zero]
  refine flow_val (v := ?_) rfl ?_ ?_; rotate_left; (intro W hW; go_simp; with_reducible rfl)
  simp only [Act.put, List.setIfInBounds_toArray, List.set_cons_succ, List.set_cons_zero]
  refine flow_op ?_ rfl ?_ ?_; rotate_left; (intro W hW; unfold Gives; go_simp; (with_reducible refine (maAsked_any _ _ _ _ _ _ _ m n W (HM.out.keep hW.below) (H.out.keep hW.below) Hil.out).mono ?_); rintro e W' ⟨rfl, hb3⟩; first | (refine ⟨?_, Since.trans hW hb3⟩; with_reducible rfl) | (subst hb3; refine ⟨?_, hW⟩; with_reducible rfl))
  simp only [Act.put, List.setIfInBounds_toArray, List.set_cons_succ, List.set_cons_zero]
  refine flow_val (v := ?_) rfl ?_ ?_; rotate_left; (intro W hW; go_simp; with_reducible rfl)
  simp only [Act.put, List.setIfInBounds_toArray, List.set_cons_succ, List.set_cons_zero]
  refine flow_val (v := ?_) rfl ?_ ?_; rotate_left; (intro W hW; go_simp; with_reducible rfl)
  simp only [Act.put, List.setIfInBounds_toArray, List.set_cons_succ, List.set_cons_zero]
  refine flow_gval (v := ?_) rfl rfl ?_ ?_; rotate_left; (intro hb; intro W hW; go_simp; with_reducible rfl)
  simp only [Act.put, List.setIfInBounds_toArray, List.set_cons_succ, List.set_cons_zero]
  refine flow_gval (v := ?_) rfl rfl ?_ ?_; rotate_left; (intro hb; intro W hW; go_simp; with_reducible rfl)
  simp only [Act.put, List.setIfInBounds_toArray, List.set_cons_succ, List.set_cons_zero]
  refine flow_gval (v := ?_) rfl rfl ?_ ?_; rotate_left; (intro hb; intro W hW; go_simp; with_reducible rfl)
  simp only [Act.put, List.setIfInBounds_toArray, List.set_cons_succ, List.set_cons_zero]
  refine flow_gval (v := ?_) rfl rfl ?_ ?_; rotate_left; (intro hb; intro W hW; go_simp; with_reducible rfl)
  simp only [Act.put, List.setIfInBounds_toArray, List.set_cons_succ, List.set_cons_zero]
  refine flow_gval (v := ?_) rfl rfl ?_ ?_; rotate_left; (intro hb; intro W hW; go_simp; with_reducible rfl)
  simp only [Act.put, List.setIfInBounds_toArray, List.set_cons_succ, List.set_cons_zero]
  refine flow_gval (v := ?_) rfl rfl ?_ ?_; rotate_left; (intro hb; intro W hW; go_simp; with_reducible rfl)
  simp only [Act.put, List.setIfInBounds_toArray, List.set_cons_succ, List.set_cons_zero]
  refine flow_gval (v := ?_) rfl rfl ?_ ?_; rotate_left; (intro hb; intro W hW; go_simp; with_reducible rfl)
  simp only [Act.put, List.setIfInBounds_toArray, List.set_cons_succ, List.set_cons_zero]
  first | refine flow_or rfl rfl ?_ | (refine flow_val (v := ?_) rfl ?_ ?_; rotate_left; (intro W hW; go_simp; with_reducible rfl))
  simp only [Act.put, List.setIfInBounds_toArray, List.set_cons_succ, List.set_cons_zero]
  refine flow_val (v := ?_) rfl ?_ ?_; rotate_left; (intro W hW; go_simp; with_reducible rfl)
  simp only [Act.put, List.setIfInBounds_toArray, List.set_cons_succ, List.set_cons_zero]
  refine flow_gval (v := ?_) rfl rfl ?_ ?_; rotate_left; (intro hb; intro W hW; go_simp; with_reducible rfl)
  simp only [Act.put, List.setIfInBounds_toArray, List.set_cons_succ, List.set_cons_zero]
  refine flow_gval (v := ?_) rfl rfl ?_ ?_; rotate_left; (intro hb; intro W hW; go_simp; with_reducible rfl)
  simp only [Act.put, List.setIfInBounds_toArray, List.set_cons_succ, List.set_cons_zero]
  refine flow_gop (v := ?_) rfl rfl ?_ ?_; rotate_left; (intro hb; intro W hW; unfold Gives; go_simp; (with_reducible refine (l1All_b _ x.rounds _ _ W (HXr.out.keep hW.below)).mono ?_); rintro e W' ⟨rfl, hb3⟩; first | (refine ⟨?_, Since.trans hW hb3⟩; with_reducible rfl) | (subst hb3; refine ⟨?_, hW⟩; with_reducible rfl))
  simp only [Act.put, List.setIfInBounds_toArray, List.set_cons_succ, List.set_cons_zero]
  refine flow_gval (v := ?_) rfl rfl ?_ ?_; rotate_left; (intro hb; intro W hW; go_simp; with_reducible rfl)
  simp only [Act.put, List.setIfInBounds_toArray, List.set_cons_succ, List.set_cons_zero]
  first | refine flow_or rfl rfl ?_ | (refine flow_val (v := ?_) rfl ?_ ?_; rotate_left; (intro W hW; go_simp; with_reducible rfl))
  simp only [Act.put, List.setIfInBounds_toArray, List.set_cons_succ, List.set_cons_zero]
  intro W1 hW1
  have HW1 := Lib.hid hW1
  cases hg : (!askedB m n || ((x.rounds.length : Int) != (n.ends.length : Int)) || !allB x.rounds 0 40)
  · obtain ⟨hr, hask⟩ := syg_rest hg
    have Hr := Lib.hid hr
    have Hm := Lib.hid (asked_mac hask)
    have Hst : Hid (0 ≤ m.states ∧ m.states ≤ 1000000) := by
      show _ ∧ _
      obtain ⟨_, _, _, h1, _⟩ := macOk_start (asked_mac hask)
      omega
    clear hr hask hg
    go_upto_region 3 with (fail)
    refine wp_region_flow0 25 (Since w0) (hW1) ?_
    simp only [List.take_succ_cons, List.take_zero, List.drop_succ_cons, List.drop_zero]
    refine flow_val (v := ?_) rfl ?_ ?_; rotate_left; (intro W hW; go_simp; with_reducible rfl)
    simp only [Act.put, List.setIfInBounds_toArray, List.set_cons_succ, List.set_cons_zero]
    refine flow_val (v := ?_) rfl ?_ ?_; rotate_left; (intro W hW; go_simp; with_reducible rfl)
    simp only [Act.put, List.setIfInBounds_toArray, List.set_cons_succ, List.set_cons_zero]
    refine flow_val (v := ?_) rfl ?_ ?_; rotate_left; (intro W hW; go_simp; with_reducible rfl)
    simp only [Act.put, List.setIfInBounds_toArray, List.set_cons_succ, List.set_cons_zero]
    refine flow_val (v := ?_) rfl ?_ ?_; rotate_left; (intro W hW; go_simp; with_reducible rfl)
    simp only [Act.put, List.setIfInBounds_toArray, List.set_cons_succ, List.set_cons_zero]
    refine flow_val (v := ?_) rfl ?_ ?_; rotate_left; (intro W hW; go_simp; with_reducible rfl)
    simp only [Act.put, List.setIfInBounds_toArray, List.set_cons_succ, List.set_cons_zero]
    refine flow_val (v := ?_) rfl ?_ ?_; rotate_left; (intro W hW; go_simp; with_reducible rfl)
    simp only [Act.put, List.setIfInBounds_toArray, List.set_cons_succ, List.set_cons_zero]
    refine flow_val (v := ?_) rfl ?_ ?_; rotate_left; (intro W hW; go_simp; with_reducible rfl)
    simp only [Act.put, List.setIfInBounds_toArray, List.set_cons_succ, List.set_cons_zero]
    refine flow_op ?_ rfl ?_ ?_; rotate_left; (intro W hW; unfold Gives; go_simp; (with_reducible refine (maRow_any _ x.before _ _ Hst.out W (HXb.out.keep hW.below)).mono ?_); rintro e W' ⟨rfl, hb3⟩; first | (refine ⟨?_, Since.trans hW hb3⟩; with_reducible rfl) | (subst hb3; refine ⟨?_, hW⟩; with_reducible rfl))
    simp only [Act.put, List.setIfInBounds_toArray, List.set_cons_succ, List.set_cons_zero]
    refine flow_val (v := ?_) rfl ?_ ?_; rotate_left; (intro W hW; go_simp; with_reducible rfl)
    simp only [Act.put, List.setIfInBounds_toArray, List.set_cons_succ, List.set_cons_zero]
    refine flow_gval (v := ?_) rfl rfl ?_ ?_; rotate_left; (intro hb; intro W hW; go_simp; with_reducible rfl)
    simp only [Act.put, List.setIfInBounds_toArray, List.set_cons_succ, List.set_cons_zero]
    refine flow_gval (v := ?_) rfl rfl ?_ ?_; rotate_left; (intro hb; intro W hW; go_simp; with_reducible rfl)
    simp only [Act.put, List.setIfInBounds_toArray, List.set_cons_succ, List.set_cons_zero]
    refine flow_gval (v := ?_) rfl rfl ?_ ?_; rotate_left; (intro hb; intro W hW; go_simp; with_reducible rfl)
    simp only [Act.put, List.setIfInBounds_toArray, List.set_cons_succ, List.set_cons_zero]
    refine flow_gval (v := ?_) rfl rfl ?_ ?_; rotate_left; (intro hb; intro W hW; go_simp; with_reducible rfl)
    simp only [Act.put, List.setIfInBounds_toArray, List.set_cons_succ, List.set_cons_zero]
    refine flow_gval (v := ?_) rfl rfl ?_ ?_; rotate_left; (intro hb; intro W hW; go_simp; with_reducible rfl)
    simp only [Act.put, List.setIfInBounds_toArray, List.set_cons_succ, List.set_cons_zero]
    refine flow_gval (v := ?_) rfl rfl ?_ ?_; rotate_left; (intro hb; intro W hW; go_simp; with_reducible rfl)
    simp only [Act.put, List.setIfInBounds_toArray, List.set_cons_succ, List.set_cons_zero]
    refine flow_gval (v := ?_) rfl rfl ?_ ?_; rotate_left; (intro hb; intro W hW; go_simp; with_reducible rfl)
    simp only [Act.put, List.setIfInBounds_toArray, List.set_cons_succ, List.set_cons_zero]
    refine flow_gop (v := ?_) rfl rfl ?_ ?_; rotate_left; (intro hb; intro W hW; unfold Gives; go_simp; (with_reducible refine (maRow_any _ x.now _ _ Hst.out W (HXn.out.keep hW.below)).mono ?_); rintro e W' ⟨rfl, hb3⟩; first | (refine ⟨?_, Since.trans hW hb3⟩; with_reducible rfl) | (subst hb3; refine ⟨?_, hW⟩; with_reducible rfl))
    simp only [Act.put, List.setIfInBounds_toArray, List.set_cons_succ, List.set_cons_zero]
    first | refine flow_and rfl rfl ?_ | (refine flow_val (v := ?_) rfl ?_ ?_; rotate_left; (intro W hW; go_simp; with_reducible rfl))
    simp only [Act.put, List.setIfInBounds_toArray, List.set_cons_succ, List.set_cons_zero]
    refine flow_val (v := ?_) rfl ?_ ?_; rotate_left; (intro W hW; go_simp; with_reducible rfl)
    simp only [Act.put, List.setIfInBounds_toArray, List.set_cons_succ, List.set_cons_zero]
    refine flow_gval (v := ?_) rfl rfl ?_ ?_; rotate_left; (intro hb; intro W hW; go_simp; with_reducible rfl)
    simp only [Act.put, List.setIfInBounds_toArray, List.set_cons_succ, List.set_cons_zero]
    refine flow_gval (v := ?_) rfl rfl ?_ ?_; rotate_left; (intro hb; intro W hW; go_simp; with_reducible rfl)
    simp only [Act.put, List.setIfInBounds_toArray, List.set_cons_succ, List.set_cons_zero]
    refine flow_gval (v := ?_) rfl rfl ?_ ?_; rotate_left; (intro hb; intro W hW; go_simp; with_reducible rfl)
    simp only [Act.put, List.setIfInBounds_toArray, List.set_cons_succ, List.set_cons_zero]
    refine flow_gop (v := ?_) rfl rfl ?_ ?_; rotate_left; (intro hb; intro W hW; unfold Gives; go_simp; (with_reducible refine (syShape_any _ _ _ _ _ _ _ _ _ _ _ _ m n x W (HM.out.keep hW.below) (H.out.keep hW.below) (HX.out.keep hW.below) Hm.out).mono ?_); rintro e W' ⟨rfl, hb3⟩; first | (refine ⟨?_, Since.trans hW hb3⟩; with_reducible rfl) | (subst hb3; refine ⟨?_, hW⟩; with_reducible rfl))
    simp only [Act.put, List.setIfInBounds_toArray, List.set_cons_succ, List.set_cons_zero]
    first | refine flow_and rfl rfl ?_ | (refine flow_val (v := ?_) rfl ?_ ?_; rotate_left; (intro W hW; go_simp; with_reducible rfl))
    simp only [Act.put, List.setIfInBounds_toArray, List.set_cons_succ, List.set_cons_zero]
    refine flow_val (v := ?_) rfl ?_ ?_; rotate_left; (intro W hW; go_simp; with_reducible rfl)
    simp only [Act.put, List.setIfInBounds_toArray, List.set_cons_succ, List.set_cons_zero]
    intro W2 hW2
    have HW2 := Lib.hid hW2
    clear hW2 hW1
    go_wp2
    go_ret
    exact ⟨ret_bool Hr.out.symm, Since.after Hb0.out HW2.out⟩
  · have hr := Lib.hid (syg_false hg)
    clear hW1
    go_wp2
    go_ret
    exact ⟨ret_false hr.out, Since.after Hb0.out HW1.out⟩
end Go.Proofs.YtlfehdikgbgloaaGreat
namespace Go.Proofs.YtlfehdikgbgloaaGreat
open Go.RowKit
end Go.Proofs.YtlfehdikgbgloaaGreat
namespace Go.Proofs.YtlfehdikgbgloaaGreat
open Go.RowKit
/-! the first node whose state is not that of the run -/
def badA (m : Mac) (n : Net) (x : ASt) (v : Nat) : Bool := x.now.getD v 0 != (runA m n (x.rounds.getD v 0).toNat).getD v 0
def faultB (m : Mac) (n : Net) (x : ASt) : Option Nat := (List.range n.ends.length).find? (badA m n x)
def fnExactFirstAsyncFault_r0 (m : Mac) (n : Net) (x : ASt) : Int := if syGoodB m n x = true then (match faultB m n x with | some v => (v : Int) | none => 0) else 0
def fnExactFirstAsyncFault_r1 (m : Mac) (n : Net) (x : ASt) : Bool := if syGoodB m n x = true then (faultB m n x).isSome else false
theorem ff_false {m : Mac} {n : Net} {x : ASt} (h : syGoodB m n x = false) : (Value.tuple #[.int .i64 0, .bool false]) = .tuple #[.int .i64 (fnExactFirstAsyncFault_r0 m n x), .bool (fnExactFirstAsyncFault_r1 m n x)] := by
  unfold fnExactFirstAsyncFault_r0 fnExactFirstAsyncFault_r1
  rw [if_neg (by rw [h]; simp), if_neg (by rw [h]; simp)]
theorem find_range {N k : Nat} {p : Nat → Bool} (hk : k < N) (hp : p k = true) (hn : (List.range k).any p = false) : (List.range N).find? p = some k := by
  have hn' : ∀ j, j < k → p j = false := fun j hj => by
    rw [List.any_eq_false] at hn
    have := hn j (List.mem_range.2 hj)
    simpa using this
  refine List.find?_range_eq_some.2 ⟨hp, List.mem_range.2 hk, fun j hj => ?_⟩
  simp [hn' j hj]
theorem ff_found {m : Mac} {n : Net} {x : ASt} {k : Nat} (h : syGoodB m n x = true) (hk : k < n.ends.length) (hp : badA m n x k = true) (hn : (List.range k).any (badA m n x) = false) : (Value.tuple #[.int .i64 (k : Int), .bool true]) = .tuple #[.int .i64 (fnExactFirstAsyncFault_r0 m n x), .bool (fnExactFirstAsyncFault_r1 m n x)] := by
  unfold fnExactFirstAsyncFault_r0 fnExactFirstAsyncFault_r1 faultB
  rw [if_pos h, if_pos h, find_range hk hp hn]
  rfl
theorem ff_none {m : Mac} {n : Net} {x : ASt} (h : syGoodB m n x = true) (hn : (List.range n.ends.length).any (badA m n x) = false) : (Value.tuple #[.int .i64 0, .bool false]) = .tuple #[.int .i64 (fnExactFirstAsyncFault_r0 m n x), .bool (fnExactFirstAsyncFault_r1 m n x)] := by
  unfold fnExactFirstAsyncFault_r0 fnExactFirstAsyncFault_r1 faultB
  rw [if_pos h, if_pos h, (List.find?_eq_none).2 (fun x hx => by rw [List.any_eq_false] at hn; exact hn x hx)]
  rfl
theorem any_range_snoc {k : Nat} {p : Nat → Bool} (h : (List.range k).any p = false) (hp : p k = false) : (List.range (k + 1)).any p = false := by
  rw [List.range_succ, List.any_append, h]
  simp [hp]
structure Good3 (m : Mac) (n : Net) (x : ASt) : Prop where
  asked : Asked m n
  rl : x.rounds.length = n.ends.length
  rb : ∀ r ∈ x.rounds, 0 ≤ r ∧ r ≤ 40
  nl : x.now.length = n.ends.length
theorem good3 {m : Mac} {n : Net} {x : ASt} (h : syGoodB m n x = true) : Good3 m n x := by
  unfold syGoodB asyncOkB at h
  simp only [Bool.and_eq_true, beq_iff_eq] at h
  obtain ⟨ha, ⟨⟨⟨h1, h2⟩, _⟩, h4⟩, _⟩ := h
  refine ⟨asked_of ha, by omega, fun r hr => ?_, ?_⟩
  · unfold allB at h2
    rw [List.all_eq_true] at h2
    exact inB_true.1 (h2 r hr)
  · unfold maRowB at h4
    simp only [Bool.and_eq_true, beq_iff_eq] at h4
    omega
end Go.Proofs.YtlfehdikgbgloaaGreat
