import Derived.Test.YtbfoefkfcnaimaaGreatVer4
namespace Go.Proofs.YtbfoefkfcnaimaaGreat
open Go.RowKit
set_option maxRecDepth 100000 in
set_option maxHeartbeats 8000000 in
theorem plRooted5_any (ve vi vn vl : Value) (n : Net) (ls : List Int) (k : Nat) (es : List (Int × Int)) (l idk ink : Int) (w : World) (h : NetIn w ve vi vn n) (hl : IntS w vl ls) (hes : n.ends[k]? = some es) (hle : es.length ≤ 6) (hin : ∀ e ∈ es, 0 ≤ e.1 ∧ e.1 < ls.length)
    (hlb : ∀ x ∈ l :: nearB ls es, 0 ≤ x ∧ x ≤ 999999999999) (hk : ls[k]? = some l) (hid : n.ids[k]? = some idk) (hinp : n.inputs[k]? = some ink) :
    Calls Tryz.prog 81 #[.agg #[ve, vi, vn], .int .i64 5, vl, .int .i64 k] w fun e w' => e = .returned (.bool (evenB idk ls l es)) ∧ Below w.heap.size w w' := by
  obtain ⟨w0, hw0⟩ : ∃ w0, w0 = (w).alloc (.cells #[ve, vi, vn] 31) := ⟨_, rfl⟩
  have hb0 : Below w.heap.size w w0 := by rw [hw0]; exact ((Below.refl _ _).alloc (by simp) _)
  have H := Lib.hid (h.keep hb0)
  obtain ⟨h1, h2, h3⟩ := h.keep hb0
  obtain ⟨A, c, rfl, hlc, hm, hA⟩ := h1
  obtain ⟨A2, c2, rfl, _, hm2, _⟩ := h2
  obtain ⟨A3, c3, rfl, _, hm3, _⟩ := h3
  unfold maxLen at hm hm2 hm3
  have p00 : ∀ W, Since w0 W → W.cell? ⟨w.heap.size, 0, none⟩ = some (.slice A n.ends.length c) := have_cell (by rw [hw0]; simp)
  have p01 : ∀ W, Since w0 W → W.cell? ⟨w.heap.size, 1, none⟩ = some (.slice A2 n.ids.length c2) := have_cell (by rw [hw0]; simp)
  have p02 : ∀ W, Since w0 W → W.cell? ⟨w.heap.size, 2, none⟩ = some (.slice A3 n.inputs.length c3) := have_cell (by rw [hw0]; simp)
  have Hb0 := Lib.hid hb0
  have Hw0 := Lib.hid hw0
  have HA := Lib.hid hA
  clear hA h
  clear hb0 hw0
  have HL := Lib.hid (hl.keep Hb0.out)
  obtain ⟨_, bl, ol, cl, l', e0, rfl, hkl, hk', -, hd⟩ := lab_at HL.out (x := (k : Int)) (by omega) (by have := lt_of_get hk; omega)
  obtain rfl : k = _ := by exact Int.ofNat.inj e0
  obtain rfl : l = l' := Option.some.inj (hk.symm.trans hk')
  obtain ⟨_, bi, oi, ci, i', e1, hv, hki, hi', -, hdi⟩ := lab_at H.out.ns (x := (k : Int)) (by omega) (by have := lt_of_get hinp; omega)
  cases hv
  obtain rfl : k = _ := by exact Int.ofNat.inj e1
  obtain rfl : ink = i' := Option.some.inj (hinp.symm.trans hi')
  obtain ⟨_, bd, od, cd, d', e2, hv, hkd, hd', -, hdd⟩ := lab_at H.out.is (x := (k : Int)) (by omega) (by have := lt_of_get hid; omega)
  cases hv
  obtain rfl : k = _ := by exact Int.ofNat.inj e2
  obtain rfl : idk = d' := Option.some.inj (hid.symm.trans hd')
  obtain ⟨b0, off0, c0, u0, hA, hk0, hc1, hrow⟩ := row_at H.out.es hes
  cases hA
  obtain ⟨A1, z1, rfl, hz1, hz2, hA1⟩ := hrow
  unfold maxLen at hz2
  obtain ⟨_, _, hv, hlL, hmL, _⟩ := id hl
  cases hv
  unfold maxLen at hmL
  have lb := hlb l (by simp)
  obtain ⟨lb0, lb1⟩ := lb
  have t0 := have_cell hd
  have t1 := have_cell hdi
  have t2 := have_cell hdd
  have t3 := have_cell hc1
  have HA1 := Lib.hid hA1
  have Hin := Lib.hid hin
  have Hlb := Lib.hid hlb
  have hs0 : Since w0 w0 := since_refl _
  have hm0 := ev1_bd l
  have hm3 := ev3_bd l
  obtain ⟨hm0, hm1⟩ := hm0
  obtain ⟨hm3, hm4⟩ := hm3
  clear hd hdi hdd hc1 hA1 hk hk' e0 e1 e2 hinp hi' hid hd' hl hes hin hlb t1
  go_enter Tryz.func81, Tryz.ntmps81
  go_upto_region 1 with (fail)
  rw [← Hw0.out]
  go_wp2_with fail
  refine (plParts_any 5 l lb0 lb1 _).mono ?_
  rw [partsE]
  rintro e W2 ⟨u1, rfl, ho1, hb1⟩
  obtain ⟨g1, o1, c1, rfl, q0, q1, q2, q3⟩ := ints4 ho1.ints
  have hs2 : Since w0 W2 := hb1
  have t0 := lift_cell t0 hs2
  have t2 := lift_cell t2 hs2
  have t3 := lift_cell t3 hs2
  have p00 := lift_cell p00 hs2
  have p01 := lift_cell p01 hs2
  have p02 := lift_cell p02 hs2
  have Hs2 := Lib.hid hs2
  have hsW : Since W2 W2 := since_refl _
  clear hb1 ho1 hs0 hs2
  go_wp2
  go_loopw [10, 11, 28] (fun nr sm i wr => ∃ j : Nat, j ≤ es.length ∧ i = .int .i64 j ∧ sm = .int .i64 (evSum ls l es j) ∧ nr = .bool (evAny ls l es j) ∧ evAll ls l es j = true ∧ Since W2 wr) (fun _ _ i _ => es.length - (intOf i).toNat)
  case atStart => exact ⟨0, Nat.zero_le _, rfl, rfl, rfl, rfl, hsW⟩
  case round =>
    obtain ⟨j, hj, rfl, rfl, rfl, hall, hsr⟩ := hrel
    have Hall := Lib.hid hall
    have hsb := evSum_bd ls l es j
    clear hall hsW
    generalize hnr : evAny ls l es j = nr
    generalize hsm : evSum ls l es j = sm at hsb ⊢
    obtain ⟨hsb1, hsb2⟩ := hsb
    have Hnr := Lib.hid hnr
    have Hsm := Lib.hid hsm
    clear hnr hsm
    by_cases hlt : j < es.length
    · obtain ⟨⟨x1, x2⟩, hx⟩ := getx es j hlt
      obtain ⟨b1, off1, rfl, hd1, hd2⟩ := HA1.out j _ hx
      obtain ⟨i1, i2⟩ := Hin.out _ (List.mem_of_getElem? hx)
      simp only at i1 i2
      obtain ⟨m1', bl', ol', cl', y, rfl, hv, hm1', hg0, hg1, hd3⟩ := lab_at HL.out i1 i2
      cases hv
      have hyx := labEnd hx hg1
      have yb := Hlb.out y (seen_mem hx hg1)
      obtain ⟨y0, y1⟩ := yb
      have d1 := lift_cell (have_cell hd1) (Hs2.out.after hsr)
      have d2 := lift_cell (have_cell hd2) (Hs2.out.after hsr)
      have d3 := lift_cell (have_cell hd3) (Hs2.out.after hsr)
      have Hyx := Lib.hid hyx
      have hsX : Since wr wr := since_refl _
      have hbl := World.block_lt_of_cell? wr _ (d3 wr hsX)
      have y3b := ev3_bd y
      obtain ⟨y3b0, y3b1⟩ := y3b
      clear hx hd1 hd2 hd3 hyx hg0 hg1
      go_wp2_with fail
      refine (plParts_any 5 y y0 y1 _).mono ?_
      rw [partsE]
      rintro e W3 ⟨u3, rfl, ho3, hb3⟩
      obtain ⟨g3, o3, c3', rfl, r0, r1, r2, r3⟩ := ints4 ho3.ints
      have hbx : Since (wr.alloc (Obj.cells #[Value.int IntKind.i64 (m1' : Int), Value.int IntKind.i64 x2] 65)) W3 := hb3
      have h23 : Since W2 W3 := hsr.after (Since.after (since_alloc _ (since_refl _)) hbx)
      have bx0 : ∀ X, Since W3 X → X.cell? ⟨wr.heap.size, 0, none⟩ = some (.int .i64 (m1' : Int)) := lift_cell (have_cell (by simp)) hbx
      have bx1 : ∀ X, Since W3 X → X.cell? ⟨wr.heap.size, 1, none⟩ = some (.int .i64 x2) := lift_cell (have_cell (by simp)) hbx
      have z0 := lift_cell q0 h23
      have z1 := lift_cell q1 h23
      have z2 := lift_cell q2 h23
      have z3 := lift_cell q3 h23
      have H23 := Lib.hid h23
      clear hb3 ho3 h23 hsr q0 q1 q2 q3 d1 d2 d3 hsX hbl hbx
      go_upto_region 7 with (fail)
      refine wp_region_flow 7 (Since W3) (by kernel_rfl) (by kernel_rfl) (by simp) (since_drew (since_refl _)) ?_
      simp only [List.take_succ_cons, List.take_zero, List.drop_succ_cons, List.drop_zero]
      refine flow_val (v := ?_) rfl ?_ ?_; rotate_left; (intro W hW; go_simp; with_reducible rfl)
      simp only [Act.put, List.setIfInBounds_toArray, List.set_cons_succ, List.set_cons_zero]
      refine flow_val (v := ?_) rfl ?_ ?_; rotate_left; (intro W hW; go_simp; with_reducible rfl)
      simp only [Act.put, List.setIfInBounds_toArray, List.set_cons_succ, List.set_cons_zero]
      refine flow_val (v := ?_) rfl ?_ ?_; rotate_left; (intro W hW; go_simp; with_reducible rfl)
      simp only [Act.put, List.setIfInBounds_toArray, List.set_cons_succ, List.set_cons_zero]
      refine flow_val (v := ?_) rfl ?_ ?_; rotate_left; (intro W hW; go_simp; with_reducible rfl)
      simp only [Act.put, List.setIfInBounds_toArray, List.set_cons_succ, List.set_cons_zero]
      refine flow_val (v := ?_) rfl ?_ ?_; rotate_left; (intro W hW; go_simp; with_reducible rfl)
      simp only [Act.put, List.setIfInBounds_toArray, List.set_cons_succ, List.set_cons_zero]
      refine flow_val (v := ?_) rfl ?_ ?_; rotate_left; (intro W hW; go_simp; with_reducible rfl)
      simp only [Act.put, List.setIfInBounds_toArray, List.set_cons_succ, List.set_cons_zero]
      refine flow_val (v := ?_) rfl ?_ ?_; rotate_left; (intro W hW; go_simp; with_reducible rfl)
      simp only [Act.put, List.setIfInBounds_toArray, List.set_cons_succ, List.set_cons_zero]
      intro W4 hW4
      cases f1 : (ev0 y == ev0 l)
      · have F1 := Lib.hid f1
        have f1' : (ev0 y != ev0 l) = true := by simp [bne, f1]
        have HW4 := Lib.hid hW4
        clear f1 hW4 r0 r1 r2 r3 z0 z1 z2 z3
        go_wp2
        go_ret
        refine ⟨ret_false ?_, Since.after Hb0.out (Hs2.out.after (H23.out.after HW4.out))⟩
        unfold evenB
        rw [show evAll ls l es es.length = false from range_all_stop hlt (by rw [Hyx.out.1]; exact F1.out)]
        rfl
      · have F1 := Lib.hid f1
        have f1' : (ev0 y != ev0 l) = false := by simp [bne, f1]
        have r1 := lift_cell r1 hW4
        have r2 := lift_cell r2 hW4
        have r3 := lift_cell r3 hW4
        have z1 := lift_cell z1 hW4
        have z2 := lift_cell z2 hW4
        have bx1 := lift_cell bx1 hW4
        have HW4 := Lib.hid (H23.out.after hW4)
        clear f1 hW4 r0 z0 z3 bx0
        have m1 : IntKind.i64.wrap (ev1 l - 1) = ev1 l - 1 := wr64 _ (by omega) (by omega)
        have m2 : IntKind.i64.wrap (ev1 l + 1) = ev1 l + 1 := wr64 _ (by omega) (by omega)
        go_upto_region 9 with (fail)
        refine wp_region_flow 9 (Since W4) (by kernel_rfl) (by kernel_rfl) (by simp) (since_drew (since_refl _)) ?_
        simp only [List.take_succ_cons, List.take_zero, List.drop_succ_cons, List.drop_zero]
        refine flow_val (v := ?_) rfl ?_ ?_; rotate_left; (intro W hW; go_simp; with_reducible rfl)
        simp only [Act.put, List.setIfInBounds_toArray, List.set_cons_succ, List.set_cons_zero]
        refine flow_val (v := ?_) rfl ?_ ?_; rotate_left; (intro W hW; go_simp; with_reducible rfl)
        simp only [Act.put, List.setIfInBounds_toArray, List.set_cons_succ, List.set_cons_zero]
        refine flow_val (v := ?_) rfl ?_ ?_; rotate_left; (intro W hW; go_simp; with_reducible rfl)
        simp only [Act.put, List.setIfInBounds_toArray, List.set_cons_succ, List.set_cons_zero]
        refine flow_val (v := ?_) rfl ?_ ?_; rotate_left; (intro W hW; go_simp; with_reducible rfl)
        simp only [Act.put, List.setIfInBounds_toArray, List.set_cons_succ, List.set_cons_zero]
        refine flow_val (v := ?_) rfl ?_ ?_; rotate_left; (intro W hW; go_simp; with_reducible rfl)
        simp only [Act.put, List.setIfInBounds_toArray, List.set_cons_succ, List.set_cons_zero]
        refine flow_val (v := ?_) rfl ?_ ?_; rotate_left; (intro W hW; go_simp; with_reducible rfl)
        simp only [Act.put, List.setIfInBounds_toArray, List.set_cons_succ, List.set_cons_zero]
        refine flow_val (v := ?_) rfl ?_ ?_; rotate_left; (intro W hW; go_simp; with_reducible rfl)
        simp only [Act.put, List.setIfInBounds_toArray, List.set_cons_succ, List.set_cons_zero]
        refine flow_val (v := ?_) rfl ?_ ?_; rotate_left; (intro W hW; go_simp; with_reducible rfl)
        simp only [Act.put, List.setIfInBounds_toArray, List.set_cons_succ, List.set_cons_zero]
        refine flow_val (v := ?_) rfl ?_ ?_; rotate_left; (intro W hW; go_simp; with_reducible rfl)
        simp only [Act.put, List.setIfInBounds_toArray, List.set_cons_succ, List.set_cons_zero]
        intro W5 hW5
        have r1 := lift_cell r1 hW5
        have r2 := lift_cell r2 hW5
        have r3 := lift_cell r3 hW5
        have z1 := lift_cell z1 hW5
        have z2 := lift_cell z2 hW5
        have bx1 := lift_cell bx1 hW5
        have HW5 := Lib.hid (HW4.out.after hW5)
        clear hW5
        go_upto_region 12 with (fail)
        refine wp_region_flow0 11 (Since W5) (since_refl _) ?_
        simp only [List.take_succ_cons, List.take_zero, List.drop_succ_cons, List.drop_zero]
        refine flow_val (v := ?_) rfl ?_ ?_; rotate_left; (intro W hW; go_simp; with_reducible rfl)
        simp only [Act.put, List.setIfInBounds_toArray, List.set_cons_succ, List.set_cons_zero]
        refine flow_val (v := ?_) rfl ?_ ?_; rotate_left; (intro W hW; go_simp; with_reducible rfl)
        simp only [Act.put, List.setIfInBounds_toArray, List.set_cons_succ, List.set_cons_zero]
        refine flow_gval (v := ?_) rfl rfl ?_ ?_; rotate_left; (intro hb W hW; go_simp; with_reducible rfl)
        simp only [Act.put, List.setIfInBounds_toArray, List.set_cons_succ, List.set_cons_zero]
        refine flow_gval (v := ?_) rfl rfl ?_ ?_; rotate_left; (intro hb W hW; go_simp; with_reducible rfl)
        simp only [Act.put, List.setIfInBounds_toArray, List.set_cons_succ, List.set_cons_zero]
        refine flow_gval2 (v := ?_) rfl rfl ?_ ?_; rotate_left; (intro hb hb2 W hW; go_simp; with_reducible rfl)
        simp only [Act.put, List.setIfInBounds_toArray, List.set_cons_succ, List.set_cons_zero]
        refine flow_gval2 (v := ?_) rfl rfl ?_ ?_; rotate_left; (intro hb hb2 W hW; go_simp; with_reducible rfl)
        simp only [Act.put, List.setIfInBounds_toArray, List.set_cons_succ, List.set_cons_zero]
        refine flow_gval2 (v := ?_) rfl rfl ?_ ?_; rotate_left; (intro hb hb2 W hW; go_simp; with_reducible rfl)
        simp only [Act.put, List.setIfInBounds_toArray, List.set_cons_succ, List.set_cons_zero]
        refine flow_gval2 (v := ?_) rfl rfl ?_ ?_; rotate_left; (intro hb hb2 W hW; go_simp; with_reducible rfl)
        simp only [Act.put, List.setIfInBounds_toArray, List.set_cons_succ, List.set_cons_zero]
        refine flow_gval2 (v := ?_) rfl rfl ?_ ?_; rotate_left; (intro hb hb2 W hW; go_simp; with_reducible rfl)
        simp only [Act.put, List.setIfInBounds_toArray, List.set_cons_succ, List.set_cons_zero]
        refine flow_gand rfl rfl rfl ?_
        simp only [Act.put, List.setIfInBounds_toArray, List.set_cons_succ, List.set_cons_zero]
        first | refine flow_or rfl rfl ?_ | (refine flow_val (v := ?_) rfl ?_ ?_; rotate_left; (intro W hW; go_simp; with_reducible rfl))
        simp only [Act.put, List.setIfInBounds_toArray, List.set_cons_succ, List.set_cons_zero]
        intro W6 hW6
        have r1 := lift_cell r1 hW6
        have r2 := lift_cell r2 hW6
        have r3 := lift_cell r3 hW6
        have z1 := lift_cell z1 hW6
        have bx1 := lift_cell bx1 hW6
        have HW6 := Lib.hid (HW5.out.after hW6)
        clear hW6 z2
        go_upto_region 13 with (fail)
        refine wp_region_flow 16 (Since W6) (by kernel_rfl) (by kernel_rfl) (by simp) (since_drew (since_refl _)) ?_
        simp only [List.take_succ_cons, List.take_zero, List.drop_succ_cons, List.drop_zero]
        refine flow_val (v := ?_) rfl ?_ ?_; rotate_left; (intro W hW; go_simp; with_reducible rfl)
        simp only [Act.put, List.setIfInBounds_toArray, List.set_cons_succ, List.set_cons_zero]
        refine flow_val (v := ?_) rfl ?_ ?_; rotate_left; (intro W hW; go_simp; with_reducible rfl)
        simp only [Act.put, List.setIfInBounds_toArray, List.set_cons_succ, List.set_cons_zero]
        refine flow_val (v := ?_) rfl ?_ ?_; rotate_left; (intro W hW; go_simp; with_reducible rfl)
        simp only [Act.put, List.setIfInBounds_toArray, List.set_cons_succ, List.set_cons_zero]
        refine flow_val (v := ?_) rfl ?_ ?_; rotate_left; (intro W hW; go_simp; with_reducible rfl)
        simp only [Act.put, List.setIfInBounds_toArray, List.set_cons_succ, List.set_cons_zero]
        refine flow_val (v := ?_) rfl ?_ ?_; rotate_left; (intro W hW; go_simp; with_reducible rfl)
        simp only [Act.put, List.setIfInBounds_toArray, List.set_cons_succ, List.set_cons_zero]
        refine flow_val (v := ?_) rfl ?_ ?_; rotate_left; (intro W hW; go_simp; with_reducible rfl)
        simp only [Act.put, List.setIfInBounds_toArray, List.set_cons_succ, List.set_cons_zero]
        refine flow_val (v := ?_) rfl ?_ ?_; rotate_left; (intro W hW; go_simp; with_reducible rfl)
        simp only [Act.put, List.setIfInBounds_toArray, List.set_cons_succ, List.set_cons_zero]
        refine flow_val (v := ?_) rfl ?_ ?_; rotate_left; (intro W hW; go_simp; with_reducible rfl)
        simp only [Act.put, List.setIfInBounds_toArray, List.set_cons_succ, List.set_cons_zero]
        refine flow_val (v := ?_) rfl ?_ ?_; rotate_left; (intro W hW; go_simp; with_reducible rfl)
        simp only [Act.put, List.setIfInBounds_toArray, List.set_cons_succ, List.set_cons_zero]
        refine flow_gval (v := ?_) rfl rfl ?_ ?_; rotate_left; (intro hb W hW; go_simp; with_reducible rfl)
        simp only [Act.put, List.setIfInBounds_toArray, List.set_cons_succ, List.set_cons_zero]
        refine flow_gval (v := ?_) rfl rfl ?_ ?_; rotate_left; (intro hb W hW; go_simp; with_reducible rfl)
        simp only [Act.put, List.setIfInBounds_toArray, List.set_cons_succ, List.set_cons_zero]
        refine flow_gval (v := ?_) rfl rfl ?_ ?_; rotate_left; (intro hb W hW; go_simp; with_reducible rfl)
        simp only [Act.put, List.setIfInBounds_toArray, List.set_cons_succ, List.set_cons_zero]
        refine flow_gval (v := ?_) rfl rfl ?_ ?_; rotate_left; (intro hb W hW; go_simp; with_reducible rfl)
        simp only [Act.put, List.setIfInBounds_toArray, List.set_cons_succ, List.set_cons_zero]
        refine flow_gval (v := ?_) rfl rfl ?_ ?_; rotate_left; (intro hb W hW; go_simp; with_reducible rfl)
        simp only [Act.put, List.setIfInBounds_toArray, List.set_cons_succ, List.set_cons_zero]
        refine flow_gval (v := ?_) rfl rfl ?_ ?_; rotate_left; (intro hb W hW; go_simp; with_reducible rfl)
        simp only [Act.put, List.setIfInBounds_toArray, List.set_cons_succ, List.set_cons_zero]
        first | refine flow_and rfl rfl ?_ | (refine flow_val (v := ?_) rfl ?_ ?_; rotate_left; (intro W hW; go_simp; with_reducible rfl))
        simp only [Act.put, List.setIfInBounds_toArray, List.set_cons_succ, List.set_cons_zero]
        intro W7 hW7
        have r3 := lift_cell r3 hW7
        have HW7 := Lib.hid (HW6.out.after hW7)
        have hsY : Since W7 W7 := since_refl _
        clear hW7 m1 m2 r1 r2 z1 bx1 f1'
        cases f3 : (ev1 y == ev1 l + 1 && ev2 y == x2)
        · have F3 : Hid (evHit l (es.getD j (0, 0)) (lab ls (es.getD j (0, 0))) = false) := by
            show _ = _
            unfold evHit
            rw [Hyx.out.1, Hyx.out.2, Bool.and_comm, show (x2 == ev2 y) = (ev2 y == x2) from Bool.beq_comm, f3]
          clear f3
          go_wp2
          go_roundw
          case rel => exact ⟨j + 1, by omega, by go_num, by rw [evSum, F3.out, Hsm.out]; simp, by unfold evAny; rw [range_any_succ]; rw [show ((List.range j).any _) = nr from Hnr.out, Hyx.out.1, Bool.and_comm, show ((j : Int) == ev2 l) = (ev2 l == (j : Int)) from Bool.beq_comm], by unfold evAll; rw [range_all_succ, show ((List.range j).all _) = true from Hall.out, Hyx.out.1, F1.out]; rfl, HW7.out⟩
          case measure => simp [intOf]; omega
        · have F3 : Hid (evHit l (es.getD j (0, 0)) (lab ls (es.getD j (0, 0))) = true) := by
            show _ = _
            unfold evHit
            rw [Hyx.out.1, Hyx.out.2, Bool.and_comm, show (x2 == ev2 y) = (ev2 y == x2) from Bool.beq_comm, f3]
          clear f3
          go_wp2
          go_roundw
          case rel => exact ⟨j + 1, by omega, by go_num, by rw [evSum, F3.out, Hsm.out, Hyx.out.1]; simp, by unfold evAny; rw [range_any_succ]; rw [show ((List.range j).any _) = nr from Hnr.out, Hyx.out.1, Bool.and_comm, show ((j : Int) == ev2 l) = (ev2 l == (j : Int)) from Bool.beq_comm], by unfold evAll; rw [range_all_succ, show ((List.range j).all _) = true from Hall.out, Hyx.out.1, F1.out]; rfl, HW7.out⟩
          case measure => simp [intOf]; omega
    · obtain rfl : j = es.length := by omega
      have hr2 : Hid (evenB idk ls l es = ((ev3 l == sm % 2) && ((ev1 l == 0 && ev2 l == 9 && idk == ev0 l && ev3 l == 0) || (decide (0 < ev1 l) && nr)))) := by
        show _ = _
        unfold evenB
        rw [Hall.out, Hnr.out, Hsm.out, Bool.true_and]
      have z0 := lift_cell q0 hsr
      have z1 := lift_cell q1 hsr
      have z2 := lift_cell q2 hsr
      have z3 := lift_cell q3 hsr
      have t2 := lift_cell t2 hsr
      have p00 := lift_cell p00 hsr
      have p01 := lift_cell p01 hsr
      have p02 := lift_cell p02 hsr
      have Hsr := Lib.hid hsr
      have hsX : Since wr wr := since_refl _
      clear hsr q0 q1 q2 q3
      cases f2 : (ev3 l == sm % 2)
      · have F2 := Lib.hid f2
        have f2' : (ev3 l != sm % 2) = true := by simp [bne, f2]
        clear f2
        go_wp2
        go_ret
        exact ⟨ret_false (by rw [hr2.out, F2.out]; rfl), Since.after Hb0.out (Hs2.out.after Hsr.out)⟩
      · have F2 := Lib.hid f2
        have f2' : (ev3 l != sm % 2) = false := by simp [bne, f2]
        clear f2
        clear hsX
        go_upto_region 20 with (fail)
        refine wp_region_flow 37 (Since wr) (by kernel_rfl) (by kernel_rfl) (by simp) (since_drew (since_refl _)) ?_
        simp only [List.take_succ_cons, List.take_zero, List.drop_succ_cons, List.drop_zero]
        refine flow_val (v := ?_) rfl ?_ ?_; rotate_left; (intro W hW; go_simp; with_reducible rfl)
        simp only [Act.put, List.setIfInBounds_toArray, List.set_cons_succ, List.set_cons_zero]
        refine flow_val (v := ?_) rfl ?_ ?_; rotate_left; (intro W hW; go_simp; with_reducible rfl)
        simp only [Act.put, List.setIfInBounds_toArray, List.set_cons_succ, List.set_cons_zero]
        refine flow_val (v := ?_) rfl ?_ ?_; rotate_left; (intro W hW; go_simp; with_reducible rfl)
        simp only [Act.put, List.setIfInBounds_toArray, List.set_cons_succ, List.set_cons_zero]
        refine flow_val (v := ?_) rfl ?_ ?_; rotate_left; (intro W hW; go_simp; with_reducible rfl)
        simp only [Act.put, List.setIfInBounds_toArray, List.set_cons_succ, List.set_cons_zero]
        refine flow_val (v := ?_) rfl ?_ ?_; rotate_left; (intro W hW; go_simp; with_reducible rfl)
        simp only [Act.put, List.setIfInBounds_toArray, List.set_cons_succ, List.set_cons_zero]
        refine flow_gval (v := ?_) rfl rfl ?_ ?_; rotate_left; (intro hb W hW; go_simp; with_reducible rfl)
        simp only [Act.put, List.setIfInBounds_toArray, List.set_cons_succ, List.set_cons_zero]
        refine flow_gval (v := ?_) rfl rfl ?_ ?_; rotate_left; (intro hb W hW; go_simp; with_reducible rfl)
        simp only [Act.put, List.setIfInBounds_toArray, List.set_cons_succ, List.set_cons_zero]
        refine flow_gval (v := ?_) rfl rfl ?_ ?_; rotate_left; (intro hb W hW; go_simp; with_reducible rfl)
        simp only [Act.put, List.setIfInBounds_toArray, List.set_cons_succ, List.set_cons_zero]
        refine flow_gval (v := ?_) rfl rfl ?_ ?_; rotate_left; (intro hb W hW; go_simp; with_reducible rfl)
        simp only [Act.put, List.setIfInBounds_toArray, List.set_cons_succ, List.set_cons_zero]
        first | refine flow_and rfl rfl ?_ | (refine flow_val (v := ?_) rfl ?_ ?_; rotate_left; (intro W hW; go_simp; with_reducible rfl))
        simp only [Act.put, List.setIfInBounds_toArray, List.set_cons_succ, List.set_cons_zero]
        refine flow_val (v := ?_) rfl ?_ ?_; rotate_left; (intro W hW; go_simp; with_reducible rfl)
        simp only [Act.put, List.setIfInBounds_toArray, List.set_cons_succ, List.set_cons_zero]
        refine flow_gval (v := ?_) rfl rfl ?_ ?_; rotate_left; (intro hb W hW; go_simp; with_reducible rfl)
        simp only [Act.put, List.setIfInBounds_toArray, List.set_cons_succ, List.set_cons_zero]
        refine flow_gval (v := ?_) rfl rfl ?_ ?_; rotate_left; (intro hb W hW; go_simp; with_reducible rfl)
        simp only [Act.put, List.setIfInBounds_toArray, List.set_cons_succ, List.set_cons_zero]
        refine flow_gval (v := ?_) rfl rfl ?_ ?_; rotate_left; (intro hb W hW; go_simp; with_reducible rfl)
        simp only [Act.put, List.setIfInBounds_toArray, List.set_cons_succ, List.set_cons_zero]
        refine flow_gval (v := ?_) rfl rfl ?_ ?_; rotate_left; (intro hb W hW; go_simp; with_reducible rfl)
        simp only [Act.put, List.setIfInBounds_toArray, List.set_cons_succ, List.set_cons_zero]
        refine flow_gval (v := ?_) rfl rfl ?_ ?_; rotate_left; (intro hb W hW; go_simp; with_reducible rfl)
        simp only [Act.put, List.setIfInBounds_toArray, List.set_cons_succ, List.set_cons_zero]
        refine flow_gval (v := ?_) rfl rfl ?_ ?_; rotate_left; (intro hb W hW; go_simp; with_reducible rfl)
        simp only [Act.put, List.setIfInBounds_toArray, List.set_cons_succ, List.set_cons_zero]
        refine flow_gval (v := ?_) rfl rfl ?_ ?_; rotate_left; (intro hb W hW; go_simp; with_reducible rfl)
        simp only [Act.put, List.setIfInBounds_toArray, List.set_cons_succ, List.set_cons_zero]
        refine flow_gval (v := ?_) rfl rfl ?_ ?_; rotate_left; (intro hb W hW; go_simp; with_reducible rfl)
        simp only [Act.put, List.setIfInBounds_toArray, List.set_cons_succ, List.set_cons_zero]
        refine flow_gval (v := ?_) rfl rfl ?_ ?_; rotate_left; (intro hb W hW; go_simp; with_reducible rfl)
        simp only [Act.put, List.setIfInBounds_toArray, List.set_cons_succ, List.set_cons_zero]
        first | refine flow_and rfl rfl ?_ | (refine flow_val (v := ?_) rfl ?_ ?_; rotate_left; (intro W hW; go_simp; with_reducible rfl))
        simp only [Act.put, List.setIfInBounds_toArray, List.set_cons_succ, List.set_cons_zero]
        refine flow_val (v := ?_) rfl ?_ ?_; rotate_left; (intro W hW; go_simp; with_reducible rfl)
        simp only [Act.put, List.setIfInBounds_toArray, List.set_cons_succ, List.set_cons_zero]
        refine flow_gval (v := ?_) rfl rfl ?_ ?_; rotate_left; (intro hb W hW; go_simp; with_reducible rfl)
        simp only [Act.put, List.setIfInBounds_toArray, List.set_cons_succ, List.set_cons_zero]
        refine flow_gval (v := ?_) rfl rfl ?_ ?_; rotate_left; (intro hb W hW; go_simp; with_reducible rfl)
        simp only [Act.put, List.setIfInBounds_toArray, List.set_cons_succ, List.set_cons_zero]
        refine flow_gval (v := ?_) rfl rfl ?_ ?_; rotate_left; (intro hb W hW; go_simp; with_reducible rfl)
        simp only [Act.put, List.setIfInBounds_toArray, List.set_cons_succ, List.set_cons_zero]
        refine flow_gval (v := ?_) rfl rfl ?_ ?_; rotate_left; (intro hb W hW; go_simp; with_reducible rfl)
        simp only [Act.put, List.setIfInBounds_toArray, List.set_cons_succ, List.set_cons_zero]
        first | refine flow_and rfl rfl ?_ | (refine flow_val (v := ?_) rfl ?_ ?_; rotate_left; (intro W hW; go_simp; with_reducible rfl))
        simp only [Act.put, List.setIfInBounds_toArray, List.set_cons_succ, List.set_cons_zero]
        refine flow_val (v := ?_) rfl ?_ ?_; rotate_left; (intro W hW; go_simp; with_reducible rfl)
        simp only [Act.put, List.setIfInBounds_toArray, List.set_cons_succ, List.set_cons_zero]
        refine flow_gval (v := ?_) rfl rfl ?_ ?_; rotate_left; (intro hb W hW; go_simp; with_reducible rfl)
        simp only [Act.put, List.setIfInBounds_toArray, List.set_cons_succ, List.set_cons_zero]
        refine flow_gval (v := ?_) rfl rfl ?_ ?_; rotate_left; (intro hb W hW; go_simp; with_reducible rfl)
        simp only [Act.put, List.setIfInBounds_toArray, List.set_cons_succ, List.set_cons_zero]
        refine flow_gval (v := ?_) rfl rfl ?_ ?_; rotate_left; (intro hb W hW; go_simp; with_reducible rfl)
        simp only [Act.put, List.setIfInBounds_toArray, List.set_cons_succ, List.set_cons_zero]
        refine flow_gval (v := ?_) rfl rfl ?_ ?_; rotate_left; (intro hb W hW; go_simp; with_reducible rfl)
        simp only [Act.put, List.setIfInBounds_toArray, List.set_cons_succ, List.set_cons_zero]
        refine flow_gval (v := ?_) rfl rfl ?_ ?_; rotate_left; (intro hb W hW; go_simp; with_reducible rfl)
        simp only [Act.put, List.setIfInBounds_toArray, List.set_cons_succ, List.set_cons_zero]
        refine flow_gval2 (v := ?_) rfl rfl ?_ ?_; rotate_left; (intro hb hb2 W hW; go_simp; with_reducible rfl)
        simp only [Act.put, List.setIfInBounds_toArray, List.set_cons_succ, List.set_cons_zero]
        refine flow_gand rfl rfl rfl ?_
        simp only [Act.put, List.setIfInBounds_toArray, List.set_cons_succ, List.set_cons_zero]
        first | refine flow_or rfl rfl ?_ | (refine flow_val (v := ?_) rfl ?_ ?_; rotate_left; (intro W hW; go_simp; with_reducible rfl))
        simp only [Act.put, List.setIfInBounds_toArray, List.set_cons_succ, List.set_cons_zero]
        refine flow_val (v := ?_) rfl ?_ ?_; rotate_left; (intro W hW; go_simp; with_reducible rfl)
        simp only [Act.put, List.setIfInBounds_toArray, List.set_cons_succ, List.set_cons_zero]
        intro W5 hW5
        have HW5 := Lib.hid hW5
        clear hW5
        go_wp2
        go_ret
        exact ⟨ret_bool (by rw [hr2.out, F2.out, Bool.true_and]), Since.after Hb0.out (Hs2.out.after (Hsr.out.after HW5.out))⟩
end Go.Proofs.YtbfoefkfcnaimaaGreat
