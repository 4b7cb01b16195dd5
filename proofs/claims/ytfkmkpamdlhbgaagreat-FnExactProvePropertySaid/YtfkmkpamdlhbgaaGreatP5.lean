/- Parts of the proof: walks of functions and plain laws. -/
import Derived.Test.YtfkmkpamdlhbgaaGreatP4
import Derived.Test.YtfkmkpamdlhbgaaGreatP2
import Derived.Test.YtfkmkpamdlhbgaaGreatP0
namespace Go.Proofs.YtfkmkpamdlhbgaaGreat
open Go.RowKit
set_option maxHeartbeats 2000000 in
theorem neGood_any (ve vi vn : Value) (n : Net) (w : World) (h : NetIn w ve vi vn n) :
    Calls Tryz.prog 30 #[.agg #[ve, vi, vn]] w fun e w' => e = .returned (.bool (netOk n)) ∧ Below w.heap.size w w' := by
  obtain ⟨w0, hw0⟩ : ∃ w0, w0 = w.alloc (.cells #[ve, vi, vn] 27) := ⟨_, rfl⟩
  have hb0 : Below w.heap.size w w0 := by rw [hw0]; exact below_alloc _ _
  have H := Lib.hid (h.keep hb0)
  obtain ⟨h1, h2, h3⟩ := h.keep hb0
  obtain ⟨A, c, rfl, hlc, hm, hA⟩ := h1
  obtain ⟨A2, c2, rfl, _, hm2, _⟩ := h2
  obtain ⟨A3, c3, rfl, _, hm3, _⟩ := h3
  unfold maxLen at hm hm2 hm3
  have p0 : ∀ W, Since w0 W → W.cell? ⟨w.heap.size, 0, none⟩ = some (.slice A n.ends.length c) := fun W hW => bc hW (by rw [hw0]; simp)
  have p1 : ∀ W, Since w0 W → W.cell? ⟨w.heap.size, 1, none⟩ = some (.slice A2 n.ids.length c2) := fun W hW => bc hW (by rw [hw0]; simp)
  have p2 : ∀ W, Since w0 W → W.cell? ⟨w.heap.size, 2, none⟩ = some (.slice A3 n.inputs.length c3) := fun W hW => bc hW (by rw [hw0]; simp)
  have Hb0 := Lib.hid hb0
  have HA := Lib.hid hA
  have Hw0 := Lib.hid hw0
  clear hb0 hA h hw0
  go_enter Tryz.func30, Tryz.ntmps30
  go_upto_region 1 with (fail)
  rw [← Hw0.out]
  refine wp_region_flow0 29 (Since w0) (since_refl _) ?_
  simp only [List.take_succ_cons, List.take_zero, List.drop_succ_cons, List.drop_zero]
  refine flow_val (v := ?_) rfl ?_ ?_; rotate_left; (intro W hW; go_simp; with_reducible rfl)
  simp only [Act.put, List.setIfInBounds_toArray, List.set_cons_succ, List.set_cons_zero]
  refine flow_val (v := ?_) rfl ?_ ?_; rotate_left; (intro W hW; go_simp; with_reducible rfl)
  simp only [Act.put, List.setIfInBounds_toArray, List.set_cons_succ, List.set_cons_zero]
  refine flow_val (v := ?_) rfl ?_ ?_; rotate_left; (intro W hW; go_simp; with_reducible rfl)
  simp only [Act.put, List.setIfInBounds_toArray, List.set_cons_succ, List.set_cons_zero]
  refine flow_op ?_ rfl ?_ ?_; rotate_left; (intro W hW; unfold Gives; go_simp; (with_reducible refine (l1In_b _ _ _ W).mono ?_); rintro e W' ⟨rfl, hb3⟩; first | (refine ⟨?_, Since.trans hW hb3⟩; with_reducible rfl) | (subst hb3; refine ⟨?_, hW⟩; with_reducible rfl))
  simp only [Act.put, List.setIfInBounds_toArray, List.set_cons_succ, List.set_cons_zero]
  refine flow_val (v := ?_) rfl ?_ ?_; rotate_left; (intro W hW; go_simp; with_reducible rfl)
  simp only [Act.put, List.setIfInBounds_toArray, List.set_cons_succ, List.set_cons_zero]
  refine flow_val (v := ?_) rfl ?_ ?_; rotate_left; (intro W hW; go_simp; with_reducible rfl)
  simp only [Act.put, List.setIfInBounds_toArray, List.set_cons_succ, List.set_cons_zero]
  refine flow_gval (v := ?_) rfl rfl ?_ ?_; rotate_left; (intro hb; intro W hW; go_simp; with_reducible rfl)
  simp only [Act.put, List.setIfInBounds_toArray, List.set_cons_succ, List.set_cons_zero]
  refine flow_gval (v := ?_) rfl rfl ?_ ?_; rotate_left; (intro hb; intro W hW; go_simp; with_reducible rfl)
  simp only [Act.put, List.setIfInBounds_toArray, List.set_cons_succ, List.set_cons_zero]
  refine flow_gval (v := ?_) rfl rfl ?_ ?_; rotate_left; (intro hb; intro W hW; go_simp; with_reducible rfl)
  simp only [Act.put, List.setIfInBounds_toArray, List.set_cons_succ, List.set_cons_zero]
  refine flow_gval (v := ?_) rfl rfl ?_ ?_; rotate_left; (intro hb; intro W hW; go_simp; with_reducible rfl)
  simp only [Act.put, List.setIfInBounds_toArray, List.set_cons_succ, List.set_cons_zero]
  refine flow_gval (v := ?_) rfl rfl ?_ ?_; rotate_left; (intro hb; intro W hW; go_simp; with_reducible rfl)
  simp only [Act.put, List.setIfInBounds_toArray, List.set_cons_succ, List.set_cons_zero]
  refine flow_gop (v := ?_) rfl rfl ?_ ?_; rotate_left; (intro hb; intro W hW; unfold Gives; go_simp; (with_reducible refine (neIds_any _ n.ids _ W (H.out.is.keep hW.below)).mono ?_); rintro e W' ⟨rfl, hb3⟩; first | (refine ⟨?_, Since.trans hW hb3⟩; with_reducible rfl) | (subst hb3; refine ⟨?_, hW⟩; with_reducible rfl))
  simp only [Act.put, List.setIfInBounds_toArray, List.set_cons_succ, List.set_cons_zero]
  refine flow_gval (v := ?_) rfl rfl ?_ ?_; rotate_left; (intro hb; intro W hW; go_simp; with_reducible rfl)
  simp only [Act.put, List.setIfInBounds_toArray, List.set_cons_succ, List.set_cons_zero]
  first | refine flow_or rfl rfl ?_ | (refine flow_val (v := ?_) rfl ?_ ?_; rotate_left; (intro W hW; go_simp; with_reducible rfl))
  simp only [Act.put, List.setIfInBounds_toArray, List.set_cons_succ, List.set_cons_zero]
  refine flow_val (v := ?_) rfl ?_ ?_; rotate_left; (intro W hW; go_simp; with_reducible rfl)
  simp only [Act.put, List.setIfInBounds_toArray, List.set_cons_succ, List.set_cons_zero]
  refine flow_gval (v := ?_) rfl rfl ?_ ?_; rotate_left; (intro hb; intro W hW; go_simp; with_reducible rfl)
  simp only [Act.put, List.setIfInBounds_toArray, List.set_cons_succ, List.set_cons_zero]
  refine flow_gval (v := ?_) rfl rfl ?_ ?_; rotate_left; (intro hb; intro W hW; go_simp; with_reducible rfl)
  simp only [Act.put, List.setIfInBounds_toArray, List.set_cons_succ, List.set_cons_zero]
  refine flow_gval (v := ?_) rfl rfl ?_ ?_; rotate_left; (intro hb; intro W hW; go_simp; with_reducible rfl)
  simp only [Act.put, List.setIfInBounds_toArray, List.set_cons_succ, List.set_cons_zero]
  refine flow_gval (v := ?_) rfl rfl ?_ ?_; rotate_left; (intro hb; intro W hW; go_simp; with_reducible rfl)
  simp only [Act.put, List.setIfInBounds_toArray, List.set_cons_succ, List.set_cons_zero]
  refine flow_gval (v := ?_) rfl rfl ?_ ?_; rotate_left; (intro hb; intro W hW; go_simp; with_reducible rfl)
  simp only [Act.put, List.setIfInBounds_toArray, List.set_cons_succ, List.set_cons_zero]
  refine flow_gval (v := ?_) rfl rfl ?_ ?_; rotate_left; (intro hb; intro W hW; go_simp; with_reducible rfl)
  simp only [Act.put, List.setIfInBounds_toArray, List.set_cons_succ, List.set_cons_zero]
  refine flow_gval (v := ?_) rfl rfl ?_ ?_; rotate_left; (intro hb; intro W hW; go_simp; with_reducible rfl)
  simp only [Act.put, List.setIfInBounds_toArray, List.set_cons_succ, List.set_cons_zero]
  first | refine flow_or rfl rfl ?_ | (refine flow_val (v := ?_) rfl ?_ ?_; rotate_left; (intro W hW; go_simp; with_reducible rfl))
  simp only [Act.put, List.setIfInBounds_toArray, List.set_cons_succ, List.set_cons_zero]
  refine flow_val (v := ?_) rfl ?_ ?_; rotate_left; (intro W hW; go_simp; with_reducible rfl)
  simp only [Act.put, List.setIfInBounds_toArray, List.set_cons_succ, List.set_cons_zero]
  refine flow_gval (v := ?_) rfl rfl ?_ ?_; rotate_left; (intro hb; intro W hW; go_simp; with_reducible rfl)
  simp only [Act.put, List.setIfInBounds_toArray, List.set_cons_succ, List.set_cons_zero]
  refine flow_gval (v := ?_) rfl rfl ?_ ?_; rotate_left; (intro hb; intro W hW; go_simp; with_reducible rfl)
  simp only [Act.put, List.setIfInBounds_toArray, List.set_cons_succ, List.set_cons_zero]
  refine flow_gop (v := ?_) rfl rfl ?_ ?_; rotate_left; (intro hb; intro W hW; unfold Gives; go_simp; (with_reducible refine (l1All_any _ n.inputs _ _ W (H.out.ns.keep hW.below)).mono ?_); rintro e W' ⟨rfl, hb3⟩; first | (refine ⟨?_, Since.trans hW hb3⟩; with_reducible rfl) | (subst hb3; refine ⟨?_, hW⟩; with_reducible rfl))
  simp only [Act.put, List.setIfInBounds_toArray, List.set_cons_succ, List.set_cons_zero]
  refine flow_gval (v := ?_) rfl rfl ?_ ?_; rotate_left; (intro hb; intro W hW; go_simp; with_reducible rfl)
  simp only [Act.put, List.setIfInBounds_toArray, List.set_cons_succ, List.set_cons_zero]
  first | refine flow_or rfl rfl ?_ | (refine flow_val (v := ?_) rfl ?_ ?_; rotate_left; (intro W hW; go_simp; with_reducible rfl))
  simp only [Act.put, List.setIfInBounds_toArray, List.set_cons_succ, List.set_cons_zero]
  intro W hW
  cases hg : (!inB 1 40 (n.ends.length : Int) || !sIdsB n.ids n.ends.length || ((n.inputs.length : Int) != n.ends.length) || !n.inputs.all (inB 0 9))
  · have hr := Lib.hid (show netOk n = (List.range n.ends.length).all fun v => rowOkB n.ends v (n.ends.getD v []) by
      simp only [Bool.or_eq_false_iff, Bool.not_eq_false', bne_eq_false_iff_eq] at hg
      simp [netOk, hg, ← sIds_eq, inputsB])
    have Hg := Lib.hid hg
    have HW := Lib.hid hW
    clear hg
    go_wp2
    go_loopw [39] (fun i wr => ∃ k : Nat, k ≤ n.ends.length ∧ i = .int .i64 k ∧ ((List.range k).all fun v => rowOkB n.ends v (n.ends.getD v [])) = true ∧ Since w0 wr) (fun i _ => n.ends.length - (intOf i).toNat)
    case atStart => exact ⟨0, Nat.zero_le _, rfl, rfl, HW.out⟩
    case round =>
      obtain ⟨k, hk, rfl, hall, hbr⟩ := hrel
      have Hall := Lib.hid hall
      clear hall hW
      by_cases hlt : k < n.ends.length
      · obtain ⟨es, hes⟩ := getx n.ends k hlt
        obtain ⟨b, off, u, rfl, hc1, hrow⟩ := HA.out k es hes
        have hc2 := have_cell hc1
        obtain ⟨A1, z1, rfl, hz1, hz2, hA1⟩ := hrow
        have HA1 := Lib.hid hA1
        unfold maxLen at hz2
        have Hes := Lib.hid hes
        clear hes hc1 hA1
        by_cases h6 : es.length ≤ 6
        · go_wp2
          obtain ⟨wo, rfl⟩ : ∃ wo : World, wo = wr := ⟨_, rfl⟩
          go_loopw [49] (fun i wq => ∃ j : Nat, j ≤ es.length ∧ i = .int .i64 j ∧ ((List.range j).all fun i => endOkB n.ends k i (es.getD i (0, 0))) = true ∧ Since w0 wq) (fun i _ => es.length - (intOf i).toNat)
          case atStart => exact ⟨0, Nat.zero_le _, rfl, rfl, hbr⟩
          case round =>
            obtain ⟨j, hj, rfl, hall2, hbq⟩ := hrel
            have Hall2 := Lib.hid hall2
            clear hall2 hbr
            by_cases hlt2 : j < es.length
            · obtain ⟨⟨x1, x2⟩, he⟩ := getx es j hlt2
              obtain ⟨b1, off1, rfl, hd1, hd2⟩ := HA1.out j _ he
              have q1 := have_cell hd1
              have q2 := have_cell hd2
              have He := Lib.hid he
              clear he hd1 hd2
              have hsw : w.heap.size < wr.heap.size := World.block_lt_of_cell? wr _ (p0 wr hbq)
              go_wp2
              obtain ⟨w1, hw1⟩ : ∃ w1, (wr.alloc (Obj.cells #[Value.int IntKind.i64 x1, Value.int IntKind.i64 x2] 62)) = w1 := ⟨_, rfl⟩
              rw [hw1]
              have hs1 : Since w0 w1 := by rw [← hw1]; exact since_alloc _ hbq
              have r0 := lift_cell p0 hs1
              have r3 : ∀ W, Since w1 W → W.cell? ⟨wr.heap.size, 0, none⟩ = some (.int .i64 x1) := have_cell (by rw [← hw1]; simp)
              have r4 : ∀ W, Since w1 W → W.cell? ⟨wr.heap.size, 1, none⟩ = some (.int .i64 x2) := have_cell (by rw [← hw1]; simp)
              have Hs1 := Lib.hid hs1
              have HP := Lib.hid (And.intro p0 (And.intro p1 p2))
              have HQ := Lib.hid (And.intro hc2 (And.intro q1 q2))
              have Hbq := Lib.hid hbq
              clear hw1 hs1 p0 p1 p2 hc2 q1 q2 hbq
              by_cases hx1 : inB 0 ((n.ends.length : Int) - 1) x1 = true
              · obtain ⟨p3, p4⟩ := inB_iff.1 hx1
                obtain ⟨k1, rfl⟩ := Int.eq_ofNat_of_zero_le p3
                have hk1 : k1 < n.ends.length := by omega
                obtain ⟨es1, hes1⟩ := getx n.ends k1 hk1
                obtain ⟨b2, off2, u', hA', hc3, hrow'⟩ := HA.out k1 es1 hes1
                injection hA' with hA'
                injection hA' with q3 q4
                subst q3 q4
                obtain ⟨A1', z1', rfl, hz1', hz2', hA1'⟩ := hrow'
                unfold maxLen at hz2'
                have r5 := lift_cell (have_cell hc3) Hs1.out
                have Hes1 := Lib.hid hes1
                have HA1' := Lib.hid hA1'
                clear hes1 hc3 hA1'
                by_cases hx2 : inB 0 ((es1.length : Int) - 1) x2 = true
                · obtain ⟨p5, p6⟩ := inB_iff.1 hx2
                  obtain ⟨i1, rfl⟩ := Int.eq_ofNat_of_zero_le p5
                  have hi1 : i1 < es1.length := by omega
                  obtain ⟨⟨y1, y2⟩, hy⟩ := getx es1 i1 hi1
                  obtain ⟨b3, off3, rfl, hc5, hc6⟩ := HA1'.out i1 _ hy
                  have r6 := lift_cell (have_cell hc5) Hs1.out
                  have r7 := lift_cell (have_cell hc6) Hs1.out
                  have Hy := Lib.hid hy
                  have Hx := Lib.hid (And.intro hx1 hx2)
                  clear hy hc5 hc6 hx1 hx2
                  have m1 : IntKind.i64.wrap ((n.ends.length : Int) - 1) = n.ends.length - 1 := wr64 _ (by omega) (by omega)
                  have m2 : IntKind.i64.wrap ((es1.length : Int) - 1) = es1.length - 1 := wr64 _ (by omega) (by omega)
                  refine wp_region_flow 38 (Since w1) (by kernel_rfl) (by kernel_rfl) (by simp) (since_drew (since_refl _)) ?_
                  simp only [List.take_succ_cons, List.take_zero, List.drop_succ_cons, List.drop_zero]
                  refine flow_val (v := ?_) rfl ?_ ?_; rotate_left; (intro W hW; go_simp; with_reducible rfl)
                  simp only [Act.put, List.setIfInBounds_toArray, List.set_cons_succ, List.set_cons_zero]
                  refine flow_val (v := ?_) rfl ?_ ?_; rotate_left; (intro W hW; go_simp; with_reducible rfl)
                  simp only [Act.put, List.setIfInBounds_toArray, List.set_cons_succ, List.set_cons_zero]
                  refine flow_val (v := ?_) rfl ?_ ?_; rotate_left; (intro W hW; go_simp; with_reducible rfl)
                  simp only [Act.put, List.setIfInBounds_toArray, List.set_cons_succ, List.set_cons_zero]
                  refine flow_val (v := ?_) rfl ?_ ?_; rotate_left; (intro W hW; go_simp; with_reducible rfl)
                  simp only [Act.put, List.setIfInBounds_toArray, List.set_cons_succ, List.set_cons_zero]
                  refine flow_val (v := ?_) rfl ?_ ?_; rotate_left; (intro W hW; go_simp; with_reducible rfl)
                  simp only [Act.put, List.setIfInBounds_toArray, List.set_cons_succ, List.set_cons_zero]
                  refine flow_val (v := ?_) rfl ?_ ?_; rotate_left; (intro W hW; go_simp; with_reducible rfl)
                  simp only [Act.put, List.setIfInBounds_toArray, List.set_cons_succ, List.set_cons_zero]
                  refine flow_op ?_ rfl ?_ ?_; rotate_left; (intro W hW; unfold Gives; go_simp; (with_reducible refine (l1In_b _ _ _ W).mono ?_); rintro e W' ⟨rfl, hb3⟩; first | (refine ⟨?_, Since.trans hW hb3⟩; with_reducible rfl) | (subst hb3; refine ⟨?_, hW⟩; with_reducible rfl))
                  simp only [Act.put, List.setIfInBounds_toArray, List.set_cons_succ, List.set_cons_zero]
                  refine flow_val (v := ?_) rfl ?_ ?_; rotate_left; (intro W hW; go_simp; with_reducible rfl)
                  simp only [Act.put, List.setIfInBounds_toArray, List.set_cons_succ, List.set_cons_zero]
                  refine flow_val (v := ?_) rfl ?_ ?_; rotate_left; (intro W hW; go_simp; with_reducible rfl)
                  simp only [Act.put, List.setIfInBounds_toArray, List.set_cons_succ, List.set_cons_zero]
                  refine flow_gval (v := ?_) rfl rfl ?_ ?_; rotate_left; (intro hb; intro W hW; go_simp; with_reducible rfl)
                  simp only [Act.put, List.setIfInBounds_toArray, List.set_cons_succ, List.set_cons_zero]
                  refine flow_gval (v := ?_) rfl rfl ?_ ?_; rotate_left; (intro hb; intro W hW; go_simp; with_reducible rfl)
                  simp only [Act.put, List.setIfInBounds_toArray, List.set_cons_succ, List.set_cons_zero]
                  refine flow_gval (v := ?_) rfl rfl ?_ ?_; rotate_left; (intro hb; intro W hW; go_simp; with_reducible rfl)
                  simp only [Act.put, List.setIfInBounds_toArray, List.set_cons_succ, List.set_cons_zero]
                  refine flow_gval (v := ?_) rfl rfl ?_ ?_; rotate_left; (intro hb; intro W hW; go_simp; with_reducible rfl)
                  simp only [Act.put, List.setIfInBounds_toArray, List.set_cons_succ, List.set_cons_zero]
                  refine flow_gval (v := ?_) rfl rfl ?_ ?_; rotate_left; (intro hb; intro W hW; go_simp; with_reducible rfl)
                  simp only [Act.put, List.setIfInBounds_toArray, List.set_cons_succ, List.set_cons_zero]
                  refine flow_gval (v := ?_) rfl rfl ?_ ?_; rotate_left; (intro hb; intro W hW; go_simp; with_reducible rfl)
                  simp only [Act.put, List.setIfInBounds_toArray, List.set_cons_succ, List.set_cons_zero]
                  refine flow_gval (v := ?_) rfl rfl ?_ ?_; rotate_left; (intro hb; intro W hW; go_simp; with_reducible rfl)
                  simp only [Act.put, List.setIfInBounds_toArray, List.set_cons_succ, List.set_cons_zero]
                  refine flow_gval (v := ?_) rfl rfl ?_ ?_; rotate_left; (intro hb; intro W hW; go_simp; with_reducible rfl)
                  simp only [Act.put, List.setIfInBounds_toArray, List.set_cons_succ, List.set_cons_zero]
                  refine flow_gval (v := ?_) rfl rfl ?_ ?_; rotate_left; (intro hb; intro W hW; go_simp; with_reducible rfl)
                  simp only [Act.put, List.setIfInBounds_toArray, List.set_cons_succ, List.set_cons_zero]
                  refine flow_gval (v := ?_) rfl rfl ?_ ?_; rotate_left; (intro hb; intro W hW; go_simp; with_reducible rfl)
                  simp only [Act.put, List.setIfInBounds_toArray, List.set_cons_succ, List.set_cons_zero]
                  refine flow_gop (v := ?_) rfl rfl ?_ ?_; rotate_left; (intro hb; intro W hW; unfold Gives; go_simp; (with_reducible refine (l1In_b _ _ _ W).mono ?_); rintro e W' ⟨rfl, hb3⟩; first | (refine ⟨?_, Since.trans hW hb3⟩; with_reducible rfl) | (subst hb3; refine ⟨?_, hW⟩; with_reducible rfl))
                  simp only [Act.put, List.setIfInBounds_toArray, List.set_cons_succ, List.set_cons_zero]
                  refine flow_gval (v := ?_) rfl rfl ?_ ?_; rotate_left; (intro hb; intro W hW; go_simp; with_reducible rfl)
                  simp only [Act.put, List.setIfInBounds_toArray, List.set_cons_succ, List.set_cons_zero]
                  first | refine flow_or rfl rfl ?_ | (refine flow_val (v := ?_) rfl ?_ ?_; rotate_left; (intro W hW; go_simp; with_reducible rfl))
                  simp only [Act.put, List.setIfInBounds_toArray, List.set_cons_succ, List.set_cons_zero]
                  refine flow_val (v := ?_) rfl ?_ ?_; rotate_left; (intro W hW; go_simp; with_reducible rfl)
                  simp only [Act.put, List.setIfInBounds_toArray, List.set_cons_succ, List.set_cons_zero]
                  refine flow_gval (v := ?_) rfl rfl ?_ ?_; rotate_left; (intro hb; intro W hW; go_simp; with_reducible rfl)
                  simp only [Act.put, List.setIfInBounds_toArray, List.set_cons_succ, List.set_cons_zero]
                  refine flow_gval (v := ?_) rfl rfl ?_ ?_; rotate_left; (intro hb; intro W hW; go_simp; with_reducible rfl)
                  simp only [Act.put, List.setIfInBounds_toArray, List.set_cons_succ, List.set_cons_zero]
                  refine flow_gval (v := ?_) rfl rfl ?_ ?_; rotate_left; (intro hb; intro W hW; go_simp; with_reducible rfl)
                  simp only [Act.put, List.setIfInBounds_toArray, List.set_cons_succ, List.set_cons_zero]
                  refine flow_gval (v := ?_) rfl rfl ?_ ?_; rotate_left; (intro hb; intro W hW; go_simp; with_reducible rfl)
                  simp only [Act.put, List.setIfInBounds_toArray, List.set_cons_succ, List.set_cons_zero]
                  refine flow_gval (v := ?_) rfl rfl ?_ ?_; rotate_left; (intro hb; intro W hW; go_simp; with_reducible rfl)
                  simp only [Act.put, List.setIfInBounds_toArray, List.set_cons_succ, List.set_cons_zero]
                  refine flow_gval (v := ?_) rfl rfl ?_ ?_; rotate_left; (intro hb; intro W hW; go_simp; with_reducible rfl)
                  simp only [Act.put, List.setIfInBounds_toArray, List.set_cons_succ, List.set_cons_zero]
                  refine flow_gval (v := ?_) rfl rfl ?_ ?_; rotate_left; (intro hb; intro W hW; go_simp; with_reducible rfl)
                  simp only [Act.put, List.setIfInBounds_toArray, List.set_cons_succ, List.set_cons_zero]
                  refine flow_gval (v := ?_) rfl rfl ?_ ?_; rotate_left; (intro hb; intro W hW; go_simp; with_reducible rfl)
                  simp only [Act.put, List.setIfInBounds_toArray, List.set_cons_succ, List.set_cons_zero]
                  refine flow_gval (v := ?_) rfl rfl ?_ ?_; rotate_left; (intro hb; intro W hW; go_simp; with_reducible rfl)
                  simp only [Act.put, List.setIfInBounds_toArray, List.set_cons_succ, List.set_cons_zero]
                  refine flow_gval (v := ?_) rfl rfl ?_ ?_; rotate_left; (intro hb; intro W hW; go_simp; with_reducible rfl)
                  simp only [Act.put, List.setIfInBounds_toArray, List.set_cons_succ, List.set_cons_zero]
                  refine flow_gval (v := ?_) rfl rfl ?_ ?_; rotate_left; (intro hb; intro W hW; go_simp; with_reducible rfl)
                  simp only [Act.put, List.setIfInBounds_toArray, List.set_cons_succ, List.set_cons_zero]
                  refine flow_gval (v := ?_) rfl rfl ?_ ?_; rotate_left; (intro hb; intro W hW; go_simp; with_reducible rfl)
                  simp only [Act.put, List.setIfInBounds_toArray, List.set_cons_succ, List.set_cons_zero]
                  refine flow_gval (v := ?_) rfl rfl ?_ ?_; rotate_left; (intro hb; intro W hW; go_simp; with_reducible rfl)
                  simp only [Act.put, List.setIfInBounds_toArray, List.set_cons_succ, List.set_cons_zero]
                  refine flow_gval (v := ?_) rfl rfl ?_ ?_; rotate_left; (intro hb; intro W hW; go_simp; with_reducible rfl)
                  simp only [Act.put, List.setIfInBounds_toArray, List.set_cons_succ, List.set_cons_zero]
                  first | refine flow_or rfl rfl ?_ | (refine flow_val (v := ?_) rfl ?_ ?_; rotate_left; (intro W hW; go_simp; with_reducible rfl))
                  simp only [Act.put, List.setIfInBounds_toArray, List.set_cons_succ, List.set_cons_zero]
                  intro W2 hW2
                  have HW2 := Lib.hid hW2
                  rw [Hx.out.1, Hx.out.2]
                  cases hq : eqE (y1, y2) ((k : Int), (j : Int))
                  all_goals
                    have Hq := Lib.hid hq
                    clear hq hW2 m1 m2
                    go_wp2
                  · go_ret
                    exact ⟨ret_false (by rw [hr.out]; refine range_all_stop hlt ?_; rw [getD_of Hes.out]; simp only [rowOkB]; rw [Bool.and_eq_false_iff]; exact .inr (range_all_stop hlt2 (by rw [getD_of He.out]; simp [endOkB, Hes1.out, Hy.out, Hq.out]))), Since.after Hb0.out (Hs1.out.after HW2.out)⟩
                  · go_roundw
                    case rel => exact ⟨j + 1, by omega, by go_num, by rw [range_all_succ, Hall2.out, getD_of He.out]; simp [endOkB, hasPortB, Hx.out.1, Hx.out.2, Hes1.out, Hy.out, Hq.out], Hs1.out.after HW2.out⟩
                    case measure => simp [intOf]; omega
                · have hx2' : inB 0 ((es1.length : Int) - 1) x2 = false := by simpa using hx2
                  have Hx := Lib.hid (And.intro hx1 hx2')
                  clear hx1 hx2
                  have m1 : IntKind.i64.wrap ((n.ends.length : Int) - 1) = n.ends.length - 1 := wr64 _ (by omega) (by omega)
                  have m2 : IntKind.i64.wrap ((es1.length : Int) - 1) = es1.length - 1 := wr64 _ (by omega) (by omega)
                  refine wp_region_flow 38 (Since w1) (by kernel_rfl) (by kernel_rfl) (by simp) (since_drew (since_refl _)) ?_
                  simp only [List.take_succ_cons, List.take_zero, List.drop_succ_cons, List.drop_zero]
                  refine flow_val (v := ?_) rfl ?_ ?_; rotate_left; (intro W hW; go_simp; with_reducible rfl)
                  simp only [Act.put, List.setIfInBounds_toArray, List.set_cons_succ, List.set_cons_zero]
                  refine flow_val (v := ?_) rfl ?_ ?_; rotate_left; (intro W hW; go_simp; with_reducible rfl)
                  simp only [Act.put, List.setIfInBounds_toArray, List.set_cons_succ, List.set_cons_zero]
                  refine flow_val (v := ?_) rfl ?_ ?_; rotate_left; (intro W hW; go_simp; with_reducible rfl)
                  simp only [Act.put, List.setIfInBounds_toArray, List.set_cons_succ, List.set_cons_zero]
                  refine flow_val (v := ?_) rfl ?_ ?_; rotate_left; (intro W hW; go_simp; with_reducible rfl)
                  simp only [Act.put, List.setIfInBounds_toArray, List.set_cons_succ, List.set_cons_zero]
                  refine flow_val (v := ?_) rfl ?_ ?_; rotate_left; (intro W hW; go_simp; with_reducible rfl)
                  simp only [Act.put, List.setIfInBounds_toArray, List.set_cons_succ, List.set_cons_zero]
                  refine flow_val (v := ?_) rfl ?_ ?_; rotate_left; (intro W hW; go_simp; with_reducible rfl)
                  simp only [Act.put, List.setIfInBounds_toArray, List.set_cons_succ, List.set_cons_zero]
                  refine flow_op ?_ rfl ?_ ?_; rotate_left; (intro W hW; unfold Gives; go_simp; (with_reducible refine (l1In_b _ _ _ W).mono ?_); rintro e W' ⟨rfl, hb3⟩; first | (refine ⟨?_, Since.trans hW hb3⟩; with_reducible rfl) | (subst hb3; refine ⟨?_, hW⟩; with_reducible rfl))
                  simp only [Act.put, List.setIfInBounds_toArray, List.set_cons_succ, List.set_cons_zero]
                  refine flow_val (v := ?_) rfl ?_ ?_; rotate_left; (intro W hW; go_simp; with_reducible rfl)
                  simp only [Act.put, List.setIfInBounds_toArray, List.set_cons_succ, List.set_cons_zero]
                  refine flow_val (v := ?_) rfl ?_ ?_; rotate_left; (intro W hW; go_simp; with_reducible rfl)
                  simp only [Act.put, List.setIfInBounds_toArray, List.set_cons_succ, List.set_cons_zero]
                  refine flow_gval (v := ?_) rfl rfl ?_ ?_; rotate_left; (intro hb; intro W hW; go_simp; with_reducible rfl)
                  simp only [Act.put, List.setIfInBounds_toArray, List.set_cons_succ, List.set_cons_zero]
                  refine flow_gval (v := ?_) rfl rfl ?_ ?_; rotate_left; (intro hb; intro W hW; go_simp; with_reducible rfl)
                  simp only [Act.put, List.setIfInBounds_toArray, List.set_cons_succ, List.set_cons_zero]
                  refine flow_gval (v := ?_) rfl rfl ?_ ?_; rotate_left; (intro hb; intro W hW; go_simp; with_reducible rfl)
                  simp only [Act.put, List.setIfInBounds_toArray, List.set_cons_succ, List.set_cons_zero]
                  refine flow_gval (v := ?_) rfl rfl ?_ ?_; rotate_left; (intro hb; intro W hW; go_simp; with_reducible rfl)
                  simp only [Act.put, List.setIfInBounds_toArray, List.set_cons_succ, List.set_cons_zero]
                  refine flow_gval (v := ?_) rfl rfl ?_ ?_; rotate_left; (intro hb; intro W hW; go_simp; with_reducible rfl)
                  simp only [Act.put, List.setIfInBounds_toArray, List.set_cons_succ, List.set_cons_zero]
                  refine flow_gval (v := ?_) rfl rfl ?_ ?_; rotate_left; (intro hb; intro W hW; go_simp; with_reducible rfl)
                  simp only [Act.put, List.setIfInBounds_toArray, List.set_cons_succ, List.set_cons_zero]
                  refine flow_gval (v := ?_) rfl rfl ?_ ?_; rotate_left; (intro hb; intro W hW; go_simp; with_reducible rfl)
                  simp only [Act.put, List.setIfInBounds_toArray, List.set_cons_succ, List.set_cons_zero]
                  refine flow_gval (v := ?_) rfl rfl ?_ ?_; rotate_left; (intro hb; intro W hW; go_simp; with_reducible rfl)
                  simp only [Act.put, List.setIfInBounds_toArray, List.set_cons_succ, List.set_cons_zero]
                  refine flow_gval (v := ?_) rfl rfl ?_ ?_; rotate_left; (intro hb; intro W hW; go_simp; with_reducible rfl)
                  simp only [Act.put, List.setIfInBounds_toArray, List.set_cons_succ, List.set_cons_zero]
                  refine flow_gval (v := ?_) rfl rfl ?_ ?_; rotate_left; (intro hb; intro W hW; go_simp; with_reducible rfl)
                  simp only [Act.put, List.setIfInBounds_toArray, List.set_cons_succ, List.set_cons_zero]
                  refine flow_gop (v := ?_) rfl rfl ?_ ?_; rotate_left; (intro hb; intro W hW; unfold Gives; go_simp; (with_reducible refine (l1In_b _ _ _ W).mono ?_); rintro e W' ⟨rfl, hb3⟩; first | (refine ⟨?_, Since.trans hW hb3⟩; with_reducible rfl) | (subst hb3; refine ⟨?_, hW⟩; with_reducible rfl))
                  simp only [Act.put, List.setIfInBounds_toArray, List.set_cons_succ, List.set_cons_zero]
                  refine flow_gval (v := ?_) rfl rfl ?_ ?_; rotate_left; (intro hb; intro W hW; go_simp; with_reducible rfl)
                  simp only [Act.put, List.setIfInBounds_toArray, List.set_cons_succ, List.set_cons_zero]
                  first | refine flow_or rfl rfl ?_ | (refine flow_val (v := ?_) rfl ?_ ?_; rotate_left; (intro W hW; go_simp; with_reducible rfl))
                  simp only [Act.put, List.setIfInBounds_toArray, List.set_cons_succ, List.set_cons_zero]
                  refine flow_val (v := ?_) rfl ?_ ?_; rotate_left; (intro W hW; go_simp; with_reducible rfl)
                  simp only [Act.put, List.setIfInBounds_toArray, List.set_cons_succ, List.set_cons_zero]
                  refine flow_dead rfl rfl (by simp [*]) ?_
                  simp only [Act.put, List.setIfInBounds_toArray, List.set_cons_succ, List.set_cons_zero]
                  refine flow_dead rfl rfl (by simp [*]) ?_
                  simp only [Act.put, List.setIfInBounds_toArray, List.set_cons_succ, List.set_cons_zero]
                  refine flow_dead rfl rfl (by simp [*]) ?_
                  simp only [Act.put, List.setIfInBounds_toArray, List.set_cons_succ, List.set_cons_zero]
                  refine flow_dead rfl rfl (by simp [*]) ?_
                  simp only [Act.put, List.setIfInBounds_toArray, List.set_cons_succ, List.set_cons_zero]
                  refine flow_dead rfl rfl (by simp [*]) ?_
                  simp only [Act.put, List.setIfInBounds_toArray, List.set_cons_succ, List.set_cons_zero]
                  refine flow_dead rfl rfl (by simp [*]) ?_
                  simp only [Act.put, List.setIfInBounds_toArray, List.set_cons_succ, List.set_cons_zero]
                  refine flow_dead rfl rfl (by simp [*]) ?_
                  simp only [Act.put, List.setIfInBounds_toArray, List.set_cons_succ, List.set_cons_zero]
                  refine flow_dead rfl rfl (by simp [*]) ?_
                  simp only [Act.put, List.setIfInBounds_toArray, List.set_cons_succ, List.set_cons_zero]
                  refine flow_dead rfl rfl (by simp [*]) ?_
                  simp only [Act.put, List.setIfInBounds_toArray, List.set_cons_succ, List.set_cons_zero]
                  refine flow_dead rfl rfl (by simp [*]) ?_
                  simp only [Act.put, List.setIfInBounds_toArray, List.set_cons_succ, List.set_cons_zero]
                  refine flow_dead rfl rfl (by simp [*]) ?_
                  simp only [Act.put, List.setIfInBounds_toArray, List.set_cons_succ, List.set_cons_zero]
                  refine flow_dead rfl rfl (by simp [*]) ?_
                  simp only [Act.put, List.setIfInBounds_toArray, List.set_cons_succ, List.set_cons_zero]
                  refine flow_dead rfl rfl (by simp [*]) ?_
                  simp only [Act.put, List.setIfInBounds_toArray, List.set_cons_succ, List.set_cons_zero]
                  refine flow_dead rfl rfl (by simp [*]) ?_
                  simp only [Act.put, List.setIfInBounds_toArray, List.set_cons_succ, List.set_cons_zero]
                  first | refine flow_or rfl rfl ?_ | (refine flow_val (v := ?_) rfl ?_ ?_; rotate_left; (intro W hW; go_simp; with_reducible rfl))
                  simp only [Act.put, List.setIfInBounds_toArray, List.set_cons_succ, List.set_cons_zero]
                  intro W2 hW2
                  have HW2 := Lib.hid hW2
                  rw [Hx.out.1, Hx.out.2]
                  clear hx2' hW2 m1 m2
                  go_wp2
                  go_ret
                  exact ⟨ret_false (by rw [hr.out]; refine range_all_stop hlt ?_; rw [getD_of Hes.out]; simp only [rowOkB]; rw [Bool.and_eq_false_iff]; exact .inr (range_all_stop hlt2 (by rw [getD_of He.out]; simp [endOkB, hasPortB, Hes1.out, Hx.out.2]))), Since.after Hb0.out (Hs1.out.after HW2.out)⟩
              · have hx1' : inB 0 ((n.ends.length : Int) - 1) x1 = false := by simpa using hx1
                have Hx := Lib.hid hx1'
                clear hx1
                have m1 : IntKind.i64.wrap ((n.ends.length : Int) - 1) = n.ends.length - 1 := wr64 _ (by omega) (by omega)
                refine wp_region_flow 38 (Since w1) (by kernel_rfl) (by kernel_rfl) (by simp) (since_drew (since_refl _)) ?_
                simp only [List.take_succ_cons, List.take_zero, List.drop_succ_cons, List.drop_zero]
                refine flow_val (v := ?_) rfl ?_ ?_; rotate_left; (intro W hW; go_simp; with_reducible rfl)
                simp only [Act.put, List.setIfInBounds_toArray, List.set_cons_succ, List.set_cons_zero]
                refine flow_val (v := ?_) rfl ?_ ?_; rotate_left; (intro W hW; go_simp; with_reducible rfl)
                simp only [Act.put, List.setIfInBounds_toArray, List.set_cons_succ, List.set_cons_zero]
                refine flow_val (v := ?_) rfl ?_ ?_; rotate_left; (intro W hW; go_simp; with_reducible rfl)
                simp only [Act.put, List.setIfInBounds_toArray, List.set_cons_succ, List.set_cons_zero]
                refine flow_val (v := ?_) rfl ?_ ?_; rotate_left; (intro W hW; go_simp; with_reducible rfl)
                simp only [Act.put, List.setIfInBounds_toArray, List.set_cons_succ, List.set_cons_zero]
                refine flow_val (v := ?_) rfl ?_ ?_; rotate_left; (intro W hW; go_simp; with_reducible rfl)
                simp only [Act.put, List.setIfInBounds_toArray, List.set_cons_succ, List.set_cons_zero]
                refine flow_val (v := ?_) rfl ?_ ?_; rotate_left; (intro W hW; go_simp; with_reducible rfl)
                simp only [Act.put, List.setIfInBounds_toArray, List.set_cons_succ, List.set_cons_zero]
                refine flow_op ?_ rfl ?_ ?_; rotate_left; (intro W hW; unfold Gives; go_simp; (with_reducible refine (l1In_b _ _ _ W).mono ?_); rintro e W' ⟨rfl, hb3⟩; first | (refine ⟨?_, Since.trans hW hb3⟩; with_reducible rfl) | (subst hb3; refine ⟨?_, hW⟩; with_reducible rfl))
                simp only [Act.put, List.setIfInBounds_toArray, List.set_cons_succ, List.set_cons_zero]
                refine flow_val (v := ?_) rfl ?_ ?_; rotate_left; (intro W hW; go_simp; with_reducible rfl)
                simp only [Act.put, List.setIfInBounds_toArray, List.set_cons_succ, List.set_cons_zero]
                refine flow_val (v := ?_) rfl ?_ ?_; rotate_left; (intro W hW; go_simp; with_reducible rfl)
                simp only [Act.put, List.setIfInBounds_toArray, List.set_cons_succ, List.set_cons_zero]
                refine flow_dead rfl rfl (by simp [*]) ?_
                simp only [Act.put, List.setIfInBounds_toArray, List.set_cons_succ, List.set_cons_zero]
                refine flow_dead rfl rfl (by simp [*]) ?_
                simp only [Act.put, List.setIfInBounds_toArray, List.set_cons_succ, List.set_cons_zero]
                refine flow_dead rfl rfl (by simp [*]) ?_
                simp only [Act.put, List.setIfInBounds_toArray, List.set_cons_succ, List.set_cons_zero]
                refine flow_dead rfl rfl (by simp [*]) ?_
                simp only [Act.put, List.setIfInBounds_toArray, List.set_cons_succ, List.set_cons_zero]
                refine flow_dead rfl rfl (by simp [*]) ?_
                simp only [Act.put, List.setIfInBounds_toArray, List.set_cons_succ, List.set_cons_zero]
                refine flow_dead rfl rfl (by simp [*]) ?_
                simp only [Act.put, List.setIfInBounds_toArray, List.set_cons_succ, List.set_cons_zero]
                refine flow_dead rfl rfl (by simp [*]) ?_
                simp only [Act.put, List.setIfInBounds_toArray, List.set_cons_succ, List.set_cons_zero]
                refine flow_dead rfl rfl (by simp [*]) ?_
                simp only [Act.put, List.setIfInBounds_toArray, List.set_cons_succ, List.set_cons_zero]
                refine flow_dead rfl rfl (by simp [*]) ?_
                simp only [Act.put, List.setIfInBounds_toArray, List.set_cons_succ, List.set_cons_zero]
                refine flow_dead rfl rfl (by simp [*]) ?_
                simp only [Act.put, List.setIfInBounds_toArray, List.set_cons_succ, List.set_cons_zero]
                refine flow_dead rfl rfl (by simp [*]) ?_
                simp only [Act.put, List.setIfInBounds_toArray, List.set_cons_succ, List.set_cons_zero]
                refine flow_dead rfl rfl (by simp [*]) ?_
                simp only [Act.put, List.setIfInBounds_toArray, List.set_cons_succ, List.set_cons_zero]
                first | refine flow_or rfl rfl ?_ | (refine flow_val (v := ?_) rfl ?_ ?_; rotate_left; (intro W hW; go_simp; with_reducible rfl))
                simp only [Act.put, List.setIfInBounds_toArray, List.set_cons_succ, List.set_cons_zero]
                refine flow_val (v := ?_) rfl ?_ ?_; rotate_left; (intro W hW; go_simp; with_reducible rfl)
                simp only [Act.put, List.setIfInBounds_toArray, List.set_cons_succ, List.set_cons_zero]
                refine flow_dead rfl rfl (by simp [*]) ?_
                simp only [Act.put, List.setIfInBounds_toArray, List.set_cons_succ, List.set_cons_zero]
                refine flow_dead rfl rfl (by simp [*]) ?_
                simp only [Act.put, List.setIfInBounds_toArray, List.set_cons_succ, List.set_cons_zero]
                refine flow_dead rfl rfl (by simp [*]) ?_
                simp only [Act.put, List.setIfInBounds_toArray, List.set_cons_succ, List.set_cons_zero]
                refine flow_dead rfl rfl (by simp [*]) ?_
                simp only [Act.put, List.setIfInBounds_toArray, List.set_cons_succ, List.set_cons_zero]
                refine flow_dead rfl rfl (by simp [*]) ?_
                simp only [Act.put, List.setIfInBounds_toArray, List.set_cons_succ, List.set_cons_zero]
                refine flow_dead rfl rfl (by simp [*]) ?_
                simp only [Act.put, List.setIfInBounds_toArray, List.set_cons_succ, List.set_cons_zero]
                refine flow_dead rfl rfl (by simp [*]) ?_
                simp only [Act.put, List.setIfInBounds_toArray, List.set_cons_succ, List.set_cons_zero]
                refine flow_dead rfl rfl (by simp [*]) ?_
                simp only [Act.put, List.setIfInBounds_toArray, List.set_cons_succ, List.set_cons_zero]
                refine flow_dead rfl rfl (by simp [*]) ?_
                simp only [Act.put, List.setIfInBounds_toArray, List.set_cons_succ, List.set_cons_zero]
                refine flow_dead rfl rfl (by simp [*]) ?_
                simp only [Act.put, List.setIfInBounds_toArray, List.set_cons_succ, List.set_cons_zero]
                refine flow_dead rfl rfl (by simp [*]) ?_
                simp only [Act.put, List.setIfInBounds_toArray, List.set_cons_succ, List.set_cons_zero]
                refine flow_dead rfl rfl (by simp [*]) ?_
                simp only [Act.put, List.setIfInBounds_toArray, List.set_cons_succ, List.set_cons_zero]
                refine flow_dead rfl rfl (by simp [*]) ?_
                simp only [Act.put, List.setIfInBounds_toArray, List.set_cons_succ, List.set_cons_zero]
                refine flow_dead rfl rfl (by simp [*]) ?_
                simp only [Act.put, List.setIfInBounds_toArray, List.set_cons_succ, List.set_cons_zero]
                first | refine flow_or rfl rfl ?_ | (refine flow_val (v := ?_) rfl ?_ ?_; rotate_left; (intro W hW; go_simp; with_reducible rfl))
                simp only [Act.put, List.setIfInBounds_toArray, List.set_cons_succ, List.set_cons_zero]
                intro W2 hW2
                have HW2 := Lib.hid hW2
                rw [Hx.out]
                clear hx1' hW2 m1
                go_wp2
                go_ret
                exact ⟨ret_false (by rw [hr.out]; refine range_all_stop hlt ?_; rw [getD_of Hes.out]; simp only [rowOkB]; rw [Bool.and_eq_false_iff]; exact .inr (range_all_stop hlt2 (by rw [getD_of He.out]; simp [endOkB, hasPortB, Hx.out]))), Since.after Hb0.out (Hs1.out.after HW2.out)⟩
            · obtain rfl : j = es.length := by omega
              go_wp2
              go_roundw
              case rel => exact ⟨k + 1, by omega, by go_num, by rw [range_all_succ, Hall.out, getD_of Hes.out, Bool.true_and]; unfold rowOkB; rw [Hall2.out]; simp [h6], hbq⟩
              case measure => simp [intOf]; omega
        · go_wp2
          go_ret
          exact ⟨ret_false (by rw [hr.out]; exact range_all_stop hlt (by rw [getD_of Hes.out]; simp [rowOkB, h6])), Since.after Hb0.out hbr⟩
      · obtain rfl : k = n.ends.length := by omega
        go_wp2
        go_ret
        exact ⟨ret_true (by rw [hr.out]; exact Hall.out), Since.after Hb0.out hbr⟩
  · have hr := Lib.hid (show netOk n = false by
      simp only [Bool.or_eq_true, Bool.not_eq_true', bne_iff_ne, ne_eq] at hg
      rcases hg with ((hg | hg) | hg) | hg <;> simp [netOk, hg, ← sIds_eq, inputsB])
    have Hg := Lib.hid hg
    have HW := Lib.hid hW
    clear hg
    go_wp2
    go_ret
    exact ⟨ret_false hr.out, Since.after Hb0.out HW.out⟩
end Go.Proofs.YtfkmkpamdlhbgaaGreat
namespace Go.Proofs.YtfkmkpamdlhbgaaGreat
open Go.RowKit
/-- the end at a port -/
def endAt (ess : List (List (Int × Int))) (v i : Int) : Int × Int := (ess.getD v.toNat []).getD i.toNat (0, 0)
theorem lab_at {w : World} {v : Value} {ls : List Int} (h : IntS w v ls) {x : Int} (h0 : 0 ≤ x) (h1 : x < ls.length) :
    ∃ (k b off c : Nat) (y : Int), x = (k : Int) ∧ v = .slice (some ⟨b, off, none⟩) ls.length c ∧ k < ls.length ∧ ls[k]? = some y ∧ ls.getD x.toNat 0 = y ∧ w.cell? ⟨b, off + k, none⟩ = some (.int .i64 y) := by
  obtain ⟨k, rfl⟩ := Int.eq_ofNat_of_zero_le h0
  have hk : k < ls.length := by omega
  obtain ⟨y, hy⟩ := getx ls k hk
  obtain ⟨A, c, rfl, _, _, hA⟩ := h
  obtain ⟨b, off, rfl, hc⟩ := hA k y hy
  exact ⟨k, b, off, c, y, rfl, rfl, hk, hy, by simp [hy], hc⟩
/-- in a network the end at a port is a port, and leads back -/
theorem netOk_end {n : Net} (h : netOk n = true) {v i : Int} (hp : hasPortB n.ends v i = true) :
    hasPortB n.ends (endAt n.ends v i).1 (endAt n.ends v i).2 = true ∧ endAt n.ends (endAt n.ends v i).1 (endAt n.ends v i).2 = (v, i) := by
  unfold hasPortB at hp
  rw [Bool.and_eq_true] at hp
  obtain ⟨p1, p2⟩ := hp
  obtain ⟨p3, p4⟩ := inB_iff.1 p1
  obtain ⟨k, rfl⟩ := Int.eq_ofNat_of_zero_le p3
  have hk : k < n.ends.length := by omega
  obtain ⟨es, hes⟩ := getx n.ends k hk
  rw [Int.toNat_natCast, getD_of hes] at p2
  obtain ⟨p5, p6⟩ := inB_iff.1 p2
  obtain ⟨j, rfl⟩ := Int.eq_ofNat_of_zero_le p5
  have hj : j < es.length := by omega
  obtain ⟨⟨y1, y2⟩, hy⟩ := getx es j hj
  have e : endAt n.ends (k : Int) (j : Int) = (y1, y2) := by simp [endAt, hes, hy]
  rw [e]
  unfold netOk at h
  rw [Bool.and_eq_true, List.all_eq_true] at h
  have := h.2 k (List.mem_range.2 hk)
  rw [getD_of hes] at this
  unfold rowOkB at this
  rw [Bool.and_eq_true, List.all_eq_true] at this
  have := this.2 j (List.mem_range.2 hj)
  rw [getD_of hy] at this
  unfold endOkB at this
  rw [Bool.and_eq_true] at this
  exact ⟨this.1, by simpa [eqE, endAt] using this.2⟩
theorem netOk_len {n : Net} (h : netOk n = true) : 1 ≤ n.ends.length ∧ n.ends.length ≤ 40 := by
  unfold netOk at h
  simp only [Bool.and_eq_true] at h
  have := inB_iff.1 h.1.1.1
  omega
theorem hasPort_lt {ess : List (List (Int × Int))} {v i : Int} (hp : hasPortB ess v i = true) : 0 ≤ v ∧ v < ess.length := by
  unfold hasPortB at hp
  rw [Bool.and_eq_true] at hp
  have := inB_iff.1 hp.1
  omega
end Go.Proofs.YtfkmkpamdlhbgaaGreat
namespace Go.Proofs.YtfkmkpamdlhbgaaGreat
open Go.RowKit
end Go.Proofs.YtfkmkpamdlhbgaaGreat
namespace Go.Proofs.YtfkmkpamdlhbgaaGreat
open Go.RowKit
theorem Own.since {w w' : World} {base : Nat} {v : Value} {xs : List Int} (h : Own w base v xs) (hs : Since w w') : Own w' base v xs := h.keep hs
/-- append of one integer to a row of its own, behind w0 -/
theorem app_int_s {w w0 : World} {ops : Array Oper} {rest : List Oper} {o : Oper} {a : Act} {Q : Exit → Act → World → Prop} (hgd : o.guard = none) (s x : Operand)
    (ho : o.op = .call { callee := .builtin .append, args := #[s, x], argTypes := #[25, 25] }) {v : Value} {xs : List Int} (hs : a.eval s = v) (h : Own w w0.heap.size v xs) (b : Nat) (y : Int)
    (hx : a.eval x = .slice (some ⟨b, 0, none⟩) 1 1) (hc : w.cell? ⟨b, 0, none⟩ = some (.int .i64 y)) (hl : xs.length + 1 ≤ 17592186044416) (hsn : Since w0 w)
    (k : ∀ g cap w', Own w' w0.heap.size (.slice (some ⟨g, 0, none⟩) (xs.length + 1) cap) (xs ++ [y]) → Since w0 w' → wpList Tryz.prog ops Q rest (a.put o.dst (.slice (some ⟨g, 0, none⟩) (xs.length + 1) cap)) w') : wpList Tryz.prog ops Q (o :: rest) a w := by
  refine app_int hgd s x ho hs h b y hx hc hl hsn.size ?_
  intro g cap w' h1 h2 h3 h4
  exact k g cap w' h1 (Below.grown hsn h2 hsn.size (fun j hj => (World.ownsRow.lt h j hj).1))
theorem row_at {w : World} {v : Value} {ess : List (List (Int × Int))} {k : Nat} {es : List (Int × Int)} (h : EndSS w v ess) (hes : ess[k]? = some es) :
    ∃ (b off c : Nat) (u : Value), v = .slice (some ⟨b, off, none⟩) ess.length c ∧ k < ess.length ∧ w.cell? ⟨b, off + k, none⟩ = some u ∧ EndS w u es := by
  obtain ⟨A, c, rfl, hlc, hm, hA⟩ := h
  obtain ⟨b, off, u, rfl, hc, hrow⟩ := hA k es hes
  exact ⟨b, off, c, u, rfl, lt_of_get hes, hc, hrow⟩
set_option maxHeartbeats 4000000 in
theorem neNear_any (ve vi vn : Value) (n : Net) (k : Nat) (es : List (Int × Int)) (w : World) (h : NetIn w ve vi vn n) (hes : n.ends[k]? = some es) (hle : es.length ≤ 1000000) :
    Calls Tryz.prog 134 #[.agg #[ve, vi, vn], .int .i64 k] w fun e w' => ∃ u, e = .returned u ∧ Own w' w.heap.size u (es.map (·.1)) ∧ Below w.heap.size w w' := by
  obtain ⟨w0, hw0⟩ : ∃ w0, w0 = (w).alloc (.cells #[ve, vi, vn] 27) := ⟨_, rfl⟩
  have hb0 : Below w.heap.size w w0 := by rw [hw0]; exact ((Below.refl _ _).alloc (by simp) _)
  have H := Lib.hid (h.keep hb0)
  obtain ⟨h1, h2, h3⟩ := h.keep hb0
  obtain ⟨A, c, rfl, hlc, hm, hA⟩ := h1
  obtain ⟨A2, c2, rfl, _, hm2, _⟩ := h2
  obtain ⟨A3, c3, rfl, _, hm3, _⟩ := h3
  unfold maxLen at hm hm2 hm3
  have p00 : ∀ W, Since w0 W → W.cell? ⟨w.heap.size, 0, none⟩ = some (.slice A n.ends.length c) := have_cell (by rw [hw0]; simp)
  have p01 : ∀ W, Since w0 W → W.cell? ⟨w.heap.size, 1, none⟩ = some (.slice A2 n.ids.length c2) := have_cell (by rw [hw0]; simp)
  have p02 : ∀ W, Since w0 W → W.cell? ⟨w.heap.size, 2, none⟩ = some (.slice A3 n.inputs.length c3) := have_cell (by rw [hw0]; simp)
  have Hb0 := Lib.hid hb0
  have Hw0 := Lib.hid hw0
  have HA := Lib.hid hA
  clear hA h
  clear hb0 hw0
  obtain ⟨b, off, c', u, hA, hk, hc1, hrow⟩ := row_at H.out.es hes
  cases hA
  obtain ⟨A1, z1, rfl, hz1, hz2, hA1⟩ := hrow
  unfold maxLen at hz2
  have r1 := have_cell hc1
  have HA1 := Lib.hid hA1
  clear hc1 hA1 hes
  go_enter Tryz.func134, Tryz.ntmps134
  go_upto_region 1 with (fail)
  rw [← Hw0.out]
  have hs0 : Since w0 w0 := since_refl _
  go_wp2
  go_loopw [5, 14] (fun u i wr => ∃ j : Nat, j ≤ es.length ∧ i = .int .i64 j ∧ Own wr w0.heap.size u ((es.take j).map (·.1)) ∧ Since w0 wr) (fun _ i _ => es.length - (intOf i).toNat)
  case atStart => exact ⟨0, Nat.zero_le _, rfl, by simpa using own_nil w0 w0.heap.size, hs0⟩
  case round =>
    obtain ⟨j, hj, rfl, ho, hs⟩ := hrel
    have Ho := Lib.hid ho
    clear hs0 ho
    by_cases hlt : j < es.length
    · obtain ⟨⟨x1, x2⟩, hx⟩ := getx es j hlt
      obtain ⟨b1, off1, rfl, hd1, hd2⟩ := HA1.out j _ hx
      have t1 := have_cell hd1
      have t2 := have_cell hd2
      have Hx := Lib.hid hx
      clear hx hd1 hd2
      have hlen : ((es.take j).map (·.1)).length + 1 ≤ 17592186044416 := by simp; omega
      have Hlen := Lib.hid hlen
      clear hlen
      go_wp2_with (at_builtin; refine app_int_s rfl _ _ rfl rfl (Ho.out.since (since_alloc _ (since_alloc _ (since_refl _)))) (wr.heap.size + 1) x1 rfl (by simp [go_sem]) Hlen.out (since_alloc _ (since_alloc _ hs)) ?_; intro g cc w2 ho2 hs2)
      have E2 : Hid (((es.take j).map (·.1)).length = j) := by show _ = _; simp; omega
      have e1 : (es.take j).map (·.1) ++ [x1] = (es.take (j + 1)).map (·.1) := by rw [take_snoc Hx.out]; simp
      rw [e1] at ho2
      have Ho2 := Lib.hid ho2
      have Hs2 := Lib.hid hs2
      clear ho2 hs2 hs e1
      go_wp2
      go_roundw
      case rel => exact ⟨j + 1, by omega, by go_num, by first | exact Ho2.out | (have := Ho2.out; rw [E2.out] at this; exact this), Hs2.out⟩
      case measure => simp [intOf]; omega
    · obtain rfl : j = es.length := by omega
      go_wp2
      go_ret
      exact ⟨_, rfl, by have := Ho.out; rw [List.take_length] at this; exact this.mono Hb0.out.size, Since.after Hb0.out hs⟩
/-- the numbers of the neighbours -/
def nearB (ls : List Int) (es : List (Int × Int)) : List Int := es.map fun e => ls.getD e.1.toNat 0
set_option maxHeartbeats 4000000 in
theorem near_any (ve vi vn vl : Value) (n : Net) (ls : List Int) (k : Nat) (es : List (Int × Int)) (w : World) (h : NetIn w ve vi vn n) (hl : IntS w vl ls) (hes : n.ends[k]? = some es) (hle : es.length ≤ 1000000) (hin : ∀ e ∈ es, 0 ≤ e.1 ∧ e.1 < ls.length) :
    Calls Tryz.prog 100 #[.agg #[ve, vi, vn], .int .i64 k, vl] w fun e w' => ∃ u, e = .returned u ∧ Own w' w.heap.size u (nearB ls es) ∧ Below w.heap.size w w' := by
  obtain ⟨w0, hw0⟩ : ∃ w0, w0 = (w).alloc (.cells #[ve, vi, vn] 27) := ⟨_, rfl⟩
  have hb0 : Below w.heap.size w w0 := by rw [hw0]; exact ((Below.refl _ _).alloc (by simp) _)
  have H := Lib.hid (h.keep hb0)
  obtain ⟨h1, h2, h3⟩ := h.keep hb0
  obtain ⟨A, c, rfl, hlc, hm, hA⟩ := h1
  obtain ⟨A2, c2, rfl, _, hm2, _⟩ := h2
  obtain ⟨A3, c3, rfl, _, hm3, _⟩ := h3
  unfold maxLen at hm hm2 hm3
  have p00 : ∀ W, Since w0 W → W.cell? ⟨w.heap.size, 0, none⟩ = some (.slice A n.ends.length c) := have_cell (by rw [hw0]; simp)
  have p01 : ∀ W, Since w0 W → W.cell? ⟨w.heap.size, 1, none⟩ = some (.slice A2 n.ids.length c2) := have_cell (by rw [hw0]; simp)
  have p02 : ∀ W, Since w0 W → W.cell? ⟨w.heap.size, 2, none⟩ = some (.slice A3 n.inputs.length c3) := have_cell (by rw [hw0]; simp)
  have Hb0 := Lib.hid hb0
  have Hw0 := Lib.hid hw0
  have HA := Lib.hid hA
  clear hA h
  clear hb0 hw0
  obtain ⟨b, off, c', u, hA, hk, hc1, hrow⟩ := row_at H.out.es hes
  cases hA
  obtain ⟨A1, z1, rfl, hz1, hz2, hA1⟩ := hrow
  unfold maxLen at hz2
  have r1 := have_cell hc1
  have HA1 := Lib.hid hA1
  have HL := Lib.hid (hl.keep Hb0.out)
  have Hin := Lib.hid hin
  obtain ⟨AL, cL, rfl, hlL, hmL, _⟩ := hl
  unfold maxLen at hmL
  clear hc1 hA1 hes hin
  go_enter Tryz.func100, Tryz.ntmps100
  go_upto_region 1 with (fail)
  rw [← Hw0.out]
  have hs0 : Since w0 w0 := since_refl _
  go_wp2
  go_loopw [7, 16] (fun u i wr => ∃ j : Nat, j ≤ es.length ∧ i = .int .i64 j ∧ Own wr w0.heap.size u (nearB ls (es.take j)) ∧ Since w0 wr) (fun _ i _ => es.length - (intOf i).toNat)
  case atStart => exact ⟨0, Nat.zero_le _, rfl, by simpa [nearB] using own_nil w0 w0.heap.size, hs0⟩
  case round =>
    obtain ⟨j, hj, rfl, ho, hs⟩ := hrel
    have Ho := Lib.hid ho
    clear hs0 ho
    by_cases hlt : j < es.length
    · obtain ⟨⟨x1, x2⟩, hx⟩ := getx es j hlt
      obtain ⟨b1, off1, rfl, hd1, hd2⟩ := HA1.out j _ hx
      obtain ⟨i1, i2⟩ := Hin.out _ (List.mem_of_getElem? hx)
      simp only at i1 i2
      obtain ⟨m1, bl, ol, cl, y, rfl, hv, hm1, hg0, hg1, hd3⟩ := lab_at HL.out i1 i2
      cases hv
      have t1 := have_cell hd1
      have t2 := have_cell hd2
      have t3 := have_cell hd3
      have Hx := Lib.hid hx
      have Hg := Lib.hid hg1
      clear hx hd1 hd2 hd3 hg0 hg1
      have hlen : (nearB ls (es.take j)).length + 1 ≤ 17592186044416 := by simp [nearB]; omega
      have Hlen := Lib.hid hlen
      have hsz := (Since.below hs).size
      clear hlen
      go_wp2_with (at_builtin; refine app_int_s rfl _ _ rfl rfl (Ho.out.since (since_alloc _ (since_alloc _ (since_refl _)))) (wr.heap.size + 1) y rfl (by simp [go_sem]) Hlen.out (since_alloc _ (since_alloc _ hs)) ?_; intro g cc w2 ho2 hs2)
      have E2 : Hid ((nearB ls (es.take j)).length = j) := by show _ = _; simp [nearB]; omega
      have e1 : nearB ls (es.take j) ++ [y] = nearB ls (es.take (j + 1)) := by rw [take_snoc Hx.out]; simp only [nearB, List.map_append, List.map_cons, List.map_nil, Hg.out]
      rw [e1] at ho2
      have Ho2 := Lib.hid ho2
      have Hs2 := Lib.hid hs2
      clear ho2 hs2 hs e1
      go_wp2
      go_roundw
      case rel => exact ⟨j + 1, by omega, by go_num, by first | exact Ho2.out | (have := Ho2.out; rw [E2.out] at this; exact this), Hs2.out⟩
      case measure => simp [intOf]; omega
    · obtain rfl : j = es.length := by omega
      go_wp2
      go_ret
      exact ⟨_, rfl, by have := Ho.out; rw [List.take_length] at this; exact this.mono Hb0.out.size, Since.after Hb0.out hs⟩
end Go.Proofs.YtfkmkpamdlhbgaaGreat
namespace Go.Proofs.YtfkmkpamdlhbgaaGreat
end Go.Proofs.YtfkmkpamdlhbgaaGreat
namespace Go.Proofs.YtfkmkpamdlhbgaaGreat
open Go.RowKit
theorem netOk_row {n : Net} (h : netOk n = true) {k : Nat} {es : List (Int × Int)} (hes : n.ends[k]? = some es) : es.length ≤ 6 ∧ ∀ e ∈ es, 0 ≤ e.1 ∧ e.1 < n.ends.length := by
  have hk := lt_of_get hes
  have h' := h
  unfold netOk at h
  rw [Bool.and_eq_true, List.all_eq_true] at h
  have := h.2 k (List.mem_range.2 hk)
  rw [getD_of hes] at this
  unfold rowOkB at this
  rw [Bool.and_eq_true, List.all_eq_true] at this
  refine ⟨by simpa using this.1, fun e he => ?_⟩
  obtain ⟨j, hj⟩ := List.getElem?_of_mem he
  have := this.2 j (List.mem_range.2 (lt_of_get hj))
  rw [getD_of hj] at this
  unfold endOkB at this
  rw [Bool.and_eq_true] at this
  exact hasPort_lt this.1
end Go.Proofs.YtfkmkpamdlhbgaaGreat
