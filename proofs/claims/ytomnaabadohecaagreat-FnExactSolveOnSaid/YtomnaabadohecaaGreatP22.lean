/- Parts of the proof: walks of functions and plain laws. -/
import Derived.Test.YtomnaabadohecaaGreatP18
import Derived.Test.YtomnaabadohecaaGreatP10
namespace Go.Proofs.YtomnaabadohecaaGreat
open Go.RowKit
/-! partial labelings -/
def portsU (n : Net) (l : List (List Int)) (k : Nat) : Bool := (List.range k).all fun v => decide ((l.getD v []).length = (n.ends.getD v []).length)
theorem portsU_succ (n : Net) (l : List (List Int)) (k : Nat) : portsU n l (k + 1) = (portsU n l k && decide ((l.getD k []).length = (n.ends.getD k []).length)) := by
  unfold portsU
  rw [List.range_succ, List.all_append]
  simp
theorem portsU_false {n : Net} {l : List (List Int)} {k m : Nat} (hk : k < m) (h : (l.getD k []).length ≠ (n.ends.getD k []).length) : portsU n l m = false := by
  unfold portsU
  rw [List.all_eq_false]
  exact ⟨k, List.mem_range.2 hk, by simpa using h⟩
def portsB (n : Net) (l : List (List Int)) : Bool := decide (l.length = n.ends.length) && portsU n l l.length
def rowsB (p : Prob) (l : List (List Int)) : Bool := !(l.any fun c => !allB c (-1) (p.labels - 1))
def shapeOk (p : Prob) (n : Net) (l : List (List Int)) : Bool := portsB n l && rowsB p l
def rowsU (p : Prob) (l : List (List Int)) (k : Nat) : Bool := (List.range k).all fun v => allB (l.getD v []) (-1) (p.labels - 1)
theorem rowsU_succ (p : Prob) (l : List (List Int)) (k : Nat) : rowsU p l (k + 1) = (rowsU p l k && allB (l.getD k []) (-1) (p.labels - 1)) := by
  unfold rowsU
  rw [List.range_succ, List.all_append]
  simp
theorem rowsU_false {p : Prob} {l : List (List Int)} {k m : Nat} (hk : k < m) (h : allB (l.getD k []) (-1) (p.labels - 1) = false) : rowsU p l m = false := by
  unfold rowsU
  rw [List.all_eq_false]
  exact ⟨k, List.mem_range.2 hk, by simpa using h⟩
theorem rowsB_u (p : Prob) (l : List (List Int)) : rowsB p l = rowsU p l l.length := by
  unfold rowsB rowsU
  rw [List.not_any_eq_all_not, Bool.eq_iff_iff]
  simp only [List.all_eq_true, List.mem_range, Bool.not_not]
  constructor
  · intro h v hv
    obtain ⟨x, hx⟩ := getx l v hv
    rw [getD_of hx]
    exact h x (List.mem_of_getElem? hx)
  · intro h x hx
    obtain ⟨k, hk⟩ := List.getElem?_of_mem hx
    have := h k (lt_of_get hk)
    rwa [getD_of hk] at this
theorem shape_u (p : Prob) (n : Net) (l : List (List Int)) : shapeOk p n l = (decide (l.length = n.ends.length) && (portsU n l l.length && rowsU p l l.length)) := by
  unfold shapeOk portsB
  rw [rowsB_u, Bool.and_assoc]
theorem prOk_lab {p : Prob} (h : prOk p = true) : (1 ≤ p.labels ∧ p.labels ≤ 8) ∧ True := by
  unfold prOk at h
  simp only [Bool.and_eq_true, inB_iff] at h
  exact ⟨h.1, trivial⟩
theorem l1All_p (v : Value) (xs : List Int) (lo hi : Int) (w : World) (h : IntS w v xs) :
    Calls Tryz.prog 147 #[v, .int .i64 lo, .int .i64 hi] w fun e w' => e = .returned (.bool (allB xs lo hi)) ∧ Below w.heap.size w w' := (l1All_b v xs lo hi w h).mono fun _ _ ⟨h1, h2⟩ => ⟨h1, h2 ▸ Below.refl _ _⟩
set_option maxHeartbeats 4000000 in
theorem portsOk_any (ve vi vn vl : Value) (n : Net) (l : List (List Int)) (w : World) (h : NetIn w ve vi vn n) (hl : IntSS w vl l) :
    Calls Tryz.prog 168 #[.agg #[ve, vi, vn], vl] w fun e w' => e = .returned (.bool (portsB n l)) ∧ Below w.heap.size w w' := by
  obtain ⟨w0, hw0⟩ : ∃ w0, w0 = (w).alloc (.cells #[ve, vi, vn] 43) := ⟨_, rfl⟩
  have hb0 : Below w.heap.size w w0 := by rw [hw0]; exact ((Below.refl _ _).alloc (by simp) _)
  have H := Lib.hid (h.keep hb0)
  obtain ⟨h1, h2, h3⟩ := h.keep hb0
  obtain ⟨A, c, rfl, hlc, hm, hA⟩ := h1
  obtain ⟨A2, c2, rfl, _, hm2, _⟩ := h2
  obtain ⟨A3, c3, rfl, _, hm3, _⟩ := h3
  unfold maxLen at hm hm2 hm3
  have p00 : ∀ W, Since w0 W → W.cell? ⟨w.heap.size, 0, none⟩ = some (.slice A n.ends.length c) := have_cell (by rw [hw0]; simp)
  have p01 : ∀ W, Since w0 W → W.cell? ⟨w.heap.size, 1, none⟩ = some (.slice A2 n.ids.length c2) := have_cell (by rw [hw0]; simp)
  have p02 : ∀ W, Since w0 W → W.cell? ⟨w.heap.size, 2, none⟩ = some (.slice A3 n.inputs.length c3) := have_cell (by rw [hw0]; simp)
  have Hb0 := Lib.hid hb0
  have Hw0 := Lib.hid hw0
  have HA := Lib.hid hA
  clear hA h
  clear hb0 hw0
  have HL := Lib.hid (hl.keep Hb0.out)
  obtain ⟨AL, cL, rfl, hlL, hmL, -⟩ := hl
  unfold maxLen at hmL
  go_enter Tryz.func168, Tryz.ntmps168
  go_upto_region 1 with (fail)
  rw [← Hw0.out]
  have hs : Since w0 w0 := since_refl _
  by_cases hlen : l.length = n.ends.length
  · have hb1 : ((l.length : Int) != (n.ends.length : Int)) = false := by simp [hlen]
    have hll : l.length ≤ n.ends.length := by omega
    have HR : Hid (portsB n l = portsU n l l.length) := by show _ = _; unfold portsB; rw [decide_eq_true hlen]; rfl
    clear hlen
    go_wp2
    go_loopw [15] (fun i wr => ∃ k : Nat, k ≤ l.length ∧ i = .int .i64 k ∧ portsU n l k = true ∧ Since w0 wr) (fun i _ => l.length - (intOf i).toNat)
    case atStart => exact ⟨0, Nat.zero_le _, rfl, rfl, hs⟩
    case round =>
      obtain ⟨k, hk, rfl, hall, hb⟩ := hrel
      have Hall := Lib.hid hall
      have Hb := Lib.hid hb
      clear hall hs hb1
      by_cases hlt : k < l.length
      · obtain ⟨row, b, off, A1, z1, hx, rfl, hc1, hz1, hz2, hxs⟩ := rows_get HL.out hlt
        obtain ⟨es, hes⟩ := getx n.ends k (by omega)
        obtain ⟨b', off', c', u, hA, hk', hc2, hrow⟩ := row_at H.out.es hes
        cases hA
        obtain ⟨A3', z3, rfl, hz3, hz4, -⟩ := hrow
        have q1 := bc Hb.out.below hc1
        have q2 := bc Hb.out.below hc2
        have Hxx : Hid ((l.getD k []).length = row.length ∧ (n.ends.getD k []).length = es.length) := ⟨by rw [getD_of hx], by rw [getD_of hes]⟩
        clear hc1 hc2 hx hes hxs
        by_cases hle : row.length = es.length
        · have hbe : ((row.length : Int) != (es.length : Int)) = false := by simp [hle]
          have Hn : Hid (portsU n l (k + 1) = true) := by show _ = _; rw [portsU_succ, Hall.out, Hxx.out.1, Hxx.out.2, decide_eq_true hle]; rfl
          clear hle
          go_wp2
          go_roundw
          case rel => exact ⟨k + 1, by omega, by go_num, Hn.out, Hb.out⟩
          case measure => simp [intOf]; omega
        · have hbe : ((row.length : Int) != (es.length : Int)) = true := by simp; omega
          have Hn : Hid (portsU n l l.length = false) := portsU_false hlt (by rw [Hxx.out.1, Hxx.out.2]; exact hle)
          clear hle
          go_wp2
          go_ret
          exact ⟨ret_false (HR.out.trans Hn.out), Since.after Hb0.out Hb.out⟩
      · obtain rfl : k = l.length := by omega
        clear hb
        go_wp2
        go_ret
        exact ⟨ret_true (HR.out.trans Hall.out), Since.after Hb0.out Hb.out⟩
  · have hb1 : ((l.length : Int) != (n.ends.length : Int)) = true := by simp; omega
    have HR : Hid (portsB n l = false) := by show _ = _; unfold portsB; rw [decide_eq_false hlen]; rfl
    clear hlen
    go_wp2
    go_ret
    exact ⟨ret_false HR.out, Hb0.out⟩
theorem psC_enters : ∀ args w, (callFunc 170 args).run Tryz.prog w = .ok (.enter 170 args) w := enters_of Tryz.func170 (by kernel_rfl) rfl
theorem psC_any (u : Value) (row : List Int) (bp : Nat) (x : Int) (w : World) (h : IntS w u row) (hx : IntKind.i64.wrap (x - 1) = x - 1) (hc : w.cell? ⟨bp, 0, none⟩ = some (.int .i64 x)) :
    Calls Tryz.prog 170 #[u, .pointer (some ⟨bp, 0, none⟩)] w fun e w' => e = .returned (.bool (!allB row (-1) (x - 1))) ∧ Below w.heap.size w w' := by
  have H := Lib.hid h
  obtain ⟨A, c, rfl, -, -, -⟩ := h
  go_enter Tryz.func170, Tryz.ntmps170
  go_wp2_with fail
  refine (allWithin_b _ row _ _ _ H.out).mono ?_
  rintro e w1 ⟨rfl, hb⟩
  go_wp2
  go_ret
  exact ⟨rfl, hb⟩
set_option maxRecDepth 100000 in
set_option maxHeartbeats 4000000 in
theorem isPartialShape_any (pa pb ve vi vn vl : Value) (p : Prob) (n : Net) (l : List (List Int)) (w : World) (hp : PrIn w pa pb p) (h : NetIn w ve vi vn n) (hl : IntSS w vl l) (hlab : 1 ≤ p.labels ∧ p.labels ≤ 8) :
    Calls Tryz.prog 105 #[.agg #[.int .i64 p.labels, .int .i64 p.degree, pa, pb], .agg #[ve, vi, vn], vl] w fun e w' => e = .returned (.bool (shapeOk p n l)) ∧ Below w.heap.size w w' := by
  obtain ⟨w0, hw0⟩ : ∃ w0, w0 = ((w).alloc (.cells #[.int .i64 p.labels, .int .i64 p.degree, pa, pb] 74)).alloc (.cells #[ve, vi, vn] 43) := ⟨_, rfl⟩
  have hb0 : Below w.heap.size w w0 := by rw [hw0]; exact (((Below.refl _ _).alloc (by simp <;> omega) _).alloc (by simp <;> omega) _)
  have H := Lib.hid (h.keep hb0)
  obtain ⟨h1, h2, h3⟩ := h.keep hb0
  obtain ⟨A, c, rfl, hlc, hm, hA⟩ := h1
  obtain ⟨A2, c2, rfl, _, hm2, _⟩ := h2
  obtain ⟨A3, c3, rfl, _, hm3, _⟩ := h3
  unfold maxLen at hm hm2 hm3
  have hkP := hp.keep hb0
  have HP := Lib.hid hkP
  obtain ⟨P0, pz0, rfl, hlP0, hmP0, hPe0⟩ := id hkP.1
  unfold maxLen at hmP0
  have HPe0 := Lib.hid hPe0
  clear hPe0
  obtain ⟨P1, pz1, rfl, hlP1, hmP1, hPe1⟩ := id hkP.2
  unfold maxLen at hmP1
  have HPe1 := Lib.hid hPe1
  clear hPe1
  clear hkP hp
  have p00 : ∀ W, Since w0 W → W.cell? ⟨w.heap.size, 0, none⟩ = some (.int .i64 p.labels) := have_cell (by rw [hw0]; simp)
  have p01 : ∀ W, Since w0 W → W.cell? ⟨w.heap.size, 1, none⟩ = some (.int .i64 p.degree) := have_cell (by rw [hw0]; simp)
  have p02 : ∀ W, Since w0 W → W.cell? ⟨w.heap.size, 2, none⟩ = some (.slice P0 p.nodes.length pz0) := have_cell (by rw [hw0]; simp)
  have p03 : ∀ W, Since w0 W → W.cell? ⟨w.heap.size, 3, none⟩ = some (.slice P1 p.edges.length pz1) := have_cell (by rw [hw0]; simp)
  have p10 : ∀ W, Since w0 W → W.cell? ⟨w.heap.size + 1, 0, none⟩ = some (.slice A n.ends.length c) := have_cell (by rw [hw0]; simp)
  have p11 : ∀ W, Since w0 W → W.cell? ⟨w.heap.size + 1, 1, none⟩ = some (.slice A2 n.ids.length c2) := have_cell (by rw [hw0]; simp)
  have p12 : ∀ W, Since w0 W → W.cell? ⟨w.heap.size + 1, 2, none⟩ = some (.slice A3 n.inputs.length c3) := have_cell (by rw [hw0]; simp)
  have Hb0 := Lib.hid hb0
  have Hw0 := Lib.hid hw0
  have HA := Lib.hid hA
  clear hA h
  clear hb0 hw0
  have HL := Lib.hid (show ∀ X, Since w0 X → IntSS X vl l from fun X hX => (hl.keep Hb0.out).keep hX.below)
  have HNn := Lib.hid (show ∀ X, Since w0 X → NetIn X (.slice A n.ends.length c) (.slice A2 n.ids.length c2) (.slice A3 n.inputs.length c3) n from fun X hX => H.out.keep hX.below)
  obtain ⟨AL, cL, rfl, -, -, -⟩ := hl
  have hwx : IntKind.i64.wrap (p.labels - 1) = p.labels - 1 := wr64 _ (by omega) (by omega)
  have Hwx := Lib.hid hwx
  have Hp0 := Lib.hid p00
  go_enter Tryz.func105, Tryz.ntmps105
  go_upto_region 1 with (fail)
  rw [← Hw0.out]
  clear hwx
  have hs : Since w0 w0 := since_refl _
  go_wp2_with fail
  refine (portsOk_any _ _ _ _ n l _ (HNn.out _ hs) (HL.out _ hs)).mono ?_
  rintro e W ⟨rfl, hb⟩
  have hW : Since w0 W := hs.trans hb
  have HW := Lib.hid hW
  clear hb hs hW p00 p01 p02 p03 p10 p11 p12
  cases hpb : portsB n l
  · have Hr : Hid (shapeOk p n l = false) := by show _ = _; unfold shapeOk; rw [hpb]; rfl
    clear hpb
    go_wp2
    go_ret
    exact ⟨ret_false Hr.out, Since.after Hb0.out HW.out⟩
  · have Hr : Hid (shapeOk p n l = rowsB p l) := by show _ = _; unfold shapeOk; rw [hpb]; rfl
    clear hpb
    go_wp2_with fail
    refine (containsFuncL_any _ l 170 #[.pointer (some ⟨w.heap.size, 0, none⟩)] (fun c => !allB c (-1) (p.labels - 1)) _ (HL.out _ HW.out) psC_enters (fun c hc u X hX hu => psC_any u c _ _ X hu Hwx.out (Hp0.out X (HW.out.after hX)))).mono ?_
    rintro e W2 ⟨rfl, hb⟩
    have HW2 := Lib.hid (HW.out.trans hb)
    clear hb
    go_wp2
    go_ret
    exact ⟨ret_bool (by rw [Hr.out]; rfl), Since.after Hb0.out HW2.out⟩
set_option maxRecDepth 100000 in
set_option maxHeartbeats 4000000 in
theorem soPartial0_any (pa pb ve vi vn vl : Value) (p : Prob) (n : Net) (l : List (List Int)) (w : World) (hp : PrIn w pa pb p) (h : NetIn w ve vi vn n) (hl : IntSS w vl l) :
    Calls Tryz.prog 104 #[.agg #[.int .i64 p.labels, .int .i64 p.degree, pa, pb], .agg #[ve, vi, vn], vl] w fun e w' => e = .returned (.bool (prOk p && netOk n && shapeOk p n l)) ∧ Below w.heap.size w w' := by
  obtain ⟨w0, hw0⟩ : ∃ w0, w0 = ((w).alloc (.cells #[.int .i64 p.labels, .int .i64 p.degree, pa, pb] 74)).alloc (.cells #[ve, vi, vn] 43) := ⟨_, rfl⟩
  have hb0 : Below w.heap.size w w0 := by rw [hw0]; exact (((Below.refl _ _).alloc (by simp <;> omega) _).alloc (by simp <;> omega) _)
  have H := Lib.hid (h.keep hb0)
  obtain ⟨h1, h2, h3⟩ := h.keep hb0
  obtain ⟨A, c, rfl, hlc, hm, hA⟩ := h1
  obtain ⟨A2, c2, rfl, _, hm2, _⟩ := h2
  obtain ⟨A3, c3, rfl, _, hm3, _⟩ := h3
  unfold maxLen at hm hm2 hm3
  have hkP := hp.keep hb0
  have HP := Lib.hid hkP
  obtain ⟨P0, pz0, rfl, hlP0, hmP0, hPe0⟩ := id hkP.1
  unfold maxLen at hmP0
  have HPe0 := Lib.hid hPe0
  clear hPe0
  obtain ⟨P1, pz1, rfl, hlP1, hmP1, hPe1⟩ := id hkP.2
  unfold maxLen at hmP1
  have HPe1 := Lib.hid hPe1
  clear hPe1
  clear hkP hp
  have p00 : ∀ W, Since w0 W → W.cell? ⟨w.heap.size, 0, none⟩ = some (.int .i64 p.labels) := have_cell (by rw [hw0]; simp)
  have p01 : ∀ W, Since w0 W → W.cell? ⟨w.heap.size, 1, none⟩ = some (.int .i64 p.degree) := have_cell (by rw [hw0]; simp)
  have p02 : ∀ W, Since w0 W → W.cell? ⟨w.heap.size, 2, none⟩ = some (.slice P0 p.nodes.length pz0) := have_cell (by rw [hw0]; simp)
  have p03 : ∀ W, Since w0 W → W.cell? ⟨w.heap.size, 3, none⟩ = some (.slice P1 p.edges.length pz1) := have_cell (by rw [hw0]; simp)
  have p10 : ∀ W, Since w0 W → W.cell? ⟨w.heap.size + 1, 0, none⟩ = some (.slice A n.ends.length c) := have_cell (by rw [hw0]; simp)
  have p11 : ∀ W, Since w0 W → W.cell? ⟨w.heap.size + 1, 1, none⟩ = some (.slice A2 n.ids.length c2) := have_cell (by rw [hw0]; simp)
  have p12 : ∀ W, Since w0 W → W.cell? ⟨w.heap.size + 1, 2, none⟩ = some (.slice A3 n.inputs.length c3) := have_cell (by rw [hw0]; simp)
  have Hb0 := Lib.hid hb0
  have Hw0 := Lib.hid hw0
  have HA := Lib.hid hA
  clear hA h
  clear hb0 hw0
  have HL := Lib.hid (hl.keep Hb0.out)
  have HPp := Lib.hid (show ∀ X, Since w0 X → PrIn X (.slice P0 p.nodes.length pz0) (.slice P1 p.edges.length pz1) p from fun X hX => HP.out.keep hX)
  have HNn := Lib.hid (show ∀ X, Since w0 X → NetIn X (.slice A n.ends.length c) (.slice A2 n.ids.length c2) (.slice A3 n.inputs.length c3) n from fun X hX => H.out.keep hX.below)
  obtain ⟨AL, cL, rfl, hlL, hmL, -⟩ := hl
  unfold maxLen at hmL
  go_enter Tryz.func104, Tryz.ntmps104
  go_upto_region 1 with (fail)
  rw [← Hw0.out]
  refine wp_region_flow0 16 (Since w0) (since_refl _) ?_
  simp only [List.take_succ_cons, List.take_zero, List.drop_succ_cons, List.drop_zero]
  refine flow_val (v := ?_) rfl ?_ ?_; rotate_left; (intro W hW; go_simp; with_reducible rfl)
  simp only [Act.put, List.setIfInBounds_toArray, List.set_cons_succ, List.set_cons_zero]
  refine flow_op ?_ rfl ?_ ?_; rotate_left; (intro W hW; unfold Gives; go_simp; (with_reducible refine (prGood_any _ _ p W (HPp.out W hW)).mono ?_); rintro e W' ⟨rfl, hb3⟩; first | (refine ⟨?_, Since.trans hW hb3⟩; with_reducible rfl) | (subst hb3; refine ⟨?_, hW⟩; with_reducible rfl))
  simp only [Act.put, List.setIfInBounds_toArray, List.set_cons_succ, List.set_cons_zero]
  refine flow_val (v := ?_) rfl ?_ ?_; rotate_left; (intro W hW; go_simp; with_reducible rfl)
  simp only [Act.put, List.setIfInBounds_toArray, List.set_cons_succ, List.set_cons_zero]
  refine flow_val (v := ?_) rfl ?_ ?_; rotate_left; (intro W hW; go_simp; with_reducible rfl)
  simp only [Act.put, List.setIfInBounds_toArray, List.set_cons_succ, List.set_cons_zero]
  refine flow_gval (v := ?_) rfl rfl ?_ ?_; rotate_left; (intro hb; intro W hW; go_simp; with_reducible rfl)
  simp only [Act.put, List.setIfInBounds_toArray, List.set_cons_succ, List.set_cons_zero]
  refine flow_gop (v := ?_) rfl rfl ?_ ?_; rotate_left; (intro hb; intro W hW; unfold Gives; go_simp; (with_reducible refine (neGood_any _ _ _ n W (HNn.out W hW)).mono ?_); rintro e W' ⟨rfl, hb3⟩; first | (refine ⟨?_, Since.trans hW hb3⟩; with_reducible rfl) | (subst hb3; refine ⟨?_, hW⟩; with_reducible rfl))
  simp only [Act.put, List.setIfInBounds_toArray, List.set_cons_succ, List.set_cons_zero]
  refine flow_gval (v := ?_) rfl rfl ?_ ?_; rotate_left; (intro hb; intro W hW; go_simp; with_reducible rfl)
  simp only [Act.put, List.setIfInBounds_toArray, List.set_cons_succ, List.set_cons_zero]
  first | refine flow_or rfl rfl ?_ | (refine flow_val (v := ?_) rfl ?_ ?_; rotate_left; (intro W hW; go_simp; with_reducible rfl))
  simp only [Act.put, List.setIfInBounds_toArray, List.set_cons_succ, List.set_cons_zero]
  refine flow_val (v := ?_) rfl ?_ ?_; rotate_left; (intro W hW; go_simp; with_reducible rfl)
  simp only [Act.put, List.setIfInBounds_toArray, List.set_cons_succ, List.set_cons_zero]
  refine flow_gval (v := ?_) rfl rfl ?_ ?_; rotate_left; (intro hb; intro W hW; go_simp; with_reducible rfl)
  simp only [Act.put, List.setIfInBounds_toArray, List.set_cons_succ, List.set_cons_zero]
  refine flow_gval (v := ?_) rfl rfl ?_ ?_; rotate_left; (intro hb; intro W hW; go_simp; with_reducible rfl)
  simp only [Act.put, List.setIfInBounds_toArray, List.set_cons_succ, List.set_cons_zero]
  refine flow_gval (v := ?_) rfl rfl ?_ ?_; rotate_left; (intro hb; intro W hW; go_simp; with_reducible rfl)
  simp only [Act.put, List.setIfInBounds_toArray, List.set_cons_succ, List.set_cons_zero]
  refine flow_gval (v := ?_) rfl rfl ?_ ?_; rotate_left; (intro hb; intro W hW; go_simp; with_reducible rfl)
  simp only [Act.put, List.setIfInBounds_toArray, List.set_cons_succ, List.set_cons_zero]
  refine flow_gval (v := ?_) rfl rfl ?_ ?_; rotate_left; (intro hb; intro W hW; go_simp; with_reducible rfl)
  simp only [Act.put, List.setIfInBounds_toArray, List.set_cons_succ, List.set_cons_zero]
  refine flow_gval (v := ?_) rfl rfl ?_ ?_; rotate_left; (intro hb; intro W hW; go_simp; with_reducible rfl)
  simp only [Act.put, List.setIfInBounds_toArray, List.set_cons_succ, List.set_cons_zero]
  first | refine flow_or rfl rfl ?_ | (refine flow_val (v := ?_) rfl ?_ ?_; rotate_left; (intro W hW; go_simp; with_reducible rfl))
  simp only [Act.put, List.setIfInBounds_toArray, List.set_cons_succ, List.set_cons_zero]
  intro W hW
  cases hg : (!prOk p || !netOk n || ((l.length : Int) != (n.ends.length : Int)))
  · simp only [Bool.or_eq_false_iff, Bool.not_eq_false'] at hg
    obtain ⟨⟨hp1, hn⟩, hm⟩ := hg
    have hlen : l.length = n.ends.length := Int.ofNat.inj (by simpa using hm)
    obtain ⟨hlab, -⟩ := prOk_lab hp1
    have hwx : IntKind.i64.wrap (p.labels - 1) = p.labels - 1 := wr64 _ (by omega) (by omega)
    have HR : Hid ((prOk p && netOk n && shapeOk p n l) = (portsU n l l.length && rowsU p l l.length)) := by
      show _ = _
      rw [hp1, hn, shape_u, decide_eq_true hlen]; rfl
    have Hs0 := Lib.hid hW
    have hlen2 : l.length ≤ n.ends.length := by omega
    clear hm hp1 hn hlab hW hlen
    go_wp2
    go_loopw [27] (fun i wr => ∃ k : Nat, k ≤ l.length ∧ i = .int .i64 k ∧ (portsU n l k = true ∧ rowsU p l k = true) ∧ Since w0 wr) (fun i _ => l.length - (intOf i).toNat)
    case atStart => exact ⟨0, Nat.zero_le _, rfl, ⟨rfl, rfl⟩, Hs0.out⟩
    case round =>
      obtain ⟨k, hk, rfl, hall, hb⟩ := hrel
      have Hall := Lib.hid hall
      have Hb := Lib.hid hb
      clear hall
      by_cases hlt : k < l.length
      · obtain ⟨row, b, off, A1, z1, hx, rfl, hc1, hz1, hz2, hxs⟩ := rows_get HL.out hlt
        obtain ⟨es, hes⟩ := getx n.ends k (by omega)
        obtain ⟨b', off', c', u, hA, hk', hc2, hrow⟩ := row_at H.out.es hes
        cases hA
        obtain ⟨A3', z3, rfl, hz3, hz4, -⟩ := hrow
        have q1 := lift_cell (have_cell hc1) Hb.out
        have q2 := lift_cell (have_cell hc2) Hb.out
        have l1 := lift_cell p00 Hb.out
        have l2 := lift_cell p10 Hb.out
        have HX := Lib.hid (show ∀ X, Since w0 X → IntS X (.slice A1 row.length z1) row from fun X hX => hxs.keep hX.below)
        have Hxx : Hid ((l.getD k [] = row) ∧ (n.ends.getD k []).length = es.length) := ⟨getD_of hx, by rw [getD_of hes]⟩
        have HL' := HL
        clear hc1 hc2 hx hes hxs p00 p10 hb
        have hrr : Since wr wr := since_refl _
        go_upto_region 6 with (fail)
        refine wp_region_flow0 17 (Since wr) (since_refl _) ?_
        simp only [List.take_succ_cons, List.take_zero, List.drop_succ_cons, List.drop_zero]
        refine flow_val (v := ?_) rfl ?_ ?_; rotate_left; (intro W hW; go_simp; with_reducible rfl)
        simp only [Act.put, List.setIfInBounds_toArray, List.set_cons_succ, List.set_cons_zero]
        refine flow_val (v := ?_) rfl ?_ ?_; rotate_left; (intro W hW; go_simp; with_reducible rfl)
        simp only [Act.put, List.setIfInBounds_toArray, List.set_cons_succ, List.set_cons_zero]
        refine flow_val (v := ?_) rfl ?_ ?_; rotate_left; (intro W hW; go_simp; with_reducible rfl)
        simp only [Act.put, List.setIfInBounds_toArray, List.set_cons_succ, List.set_cons_zero]
        refine flow_val (v := ?_) rfl ?_ ?_; rotate_left; (intro W hW; go_simp; with_reducible rfl)
        simp only [Act.put, List.setIfInBounds_toArray, List.set_cons_succ, List.set_cons_zero]
        refine flow_val (v := ?_) rfl ?_ ?_; rotate_left; (intro W hW; go_simp; with_reducible rfl)
        simp only [Act.put, List.setIfInBounds_toArray, List.set_cons_succ, List.set_cons_zero]
        refine flow_val (v := ?_) rfl ?_ ?_; rotate_left; (intro W hW; go_simp; with_reducible rfl)
        simp only [Act.put, List.setIfInBounds_toArray, List.set_cons_succ, List.set_cons_zero]
        refine flow_val (v := ?_) rfl ?_ ?_; rotate_left; (intro W hW; go_simp; with_reducible rfl)
        simp only [Act.put, List.setIfInBounds_toArray, List.set_cons_succ, List.set_cons_zero]
        refine flow_val (v := ?_) rfl ?_ ?_; rotate_left; (intro W hW; go_simp; with_reducible rfl)
        simp only [Act.put, List.setIfInBounds_toArray, List.set_cons_succ, List.set_cons_zero]
        refine flow_val (v := ?_) rfl ?_ ?_; rotate_left; (intro W hW; go_simp; with_reducible rfl)
        simp only [Act.put, List.setIfInBounds_toArray, List.set_cons_succ, List.set_cons_zero]
        refine flow_val (v := ?_) rfl ?_ ?_; rotate_left; (intro W hW; go_simp; with_reducible rfl)
        simp only [Act.put, List.setIfInBounds_toArray, List.set_cons_succ, List.set_cons_zero]
        refine flow_gval (v := ?_) rfl rfl ?_ ?_; rotate_left; (intro hb; intro W hW; go_simp; with_reducible rfl)
        simp only [Act.put, List.setIfInBounds_toArray, List.set_cons_succ, List.set_cons_zero]
        refine flow_gval (v := ?_) rfl rfl ?_ ?_; rotate_left; (intro hb; intro W hW; go_simp; with_reducible rfl)
        simp only [Act.put, List.setIfInBounds_toArray, List.set_cons_succ, List.set_cons_zero]
        refine flow_gval (v := ?_) rfl rfl ?_ ?_; rotate_left; (intro hb; intro W hW; go_simp; with_reducible rfl)
        simp only [Act.put, List.setIfInBounds_toArray, List.set_cons_succ, List.set_cons_zero]
        refine flow_gval (v := ?_) rfl rfl ?_ ?_; rotate_left; (intro hb; intro W hW; go_simp; with_reducible rfl)
        simp only [Act.put, List.setIfInBounds_toArray, List.set_cons_succ, List.set_cons_zero]
        refine flow_gop (v := ?_) rfl rfl ?_ ?_; rotate_left; (intro hb; intro W hW; unfold Gives; go_simp; (with_reducible refine (l1All_p _ row _ _ W (HX.out W (Hb.out.after hW))).mono ?_); rintro e W' ⟨rfl, hb3⟩; first | (refine ⟨?_, Since.trans hW hb3⟩; with_reducible rfl) | (subst hb3; refine ⟨?_, hW⟩; with_reducible rfl))
        simp only [Act.put, List.setIfInBounds_toArray, List.set_cons_succ, List.set_cons_zero]
        refine flow_gval (v := ?_) rfl rfl ?_ ?_; rotate_left; (intro hb; intro W hW; go_simp; with_reducible rfl)
        simp only [Act.put, List.setIfInBounds_toArray, List.set_cons_succ, List.set_cons_zero]
        first | refine flow_or rfl rfl ?_ | (refine flow_val (v := ?_) rfl ?_ ?_; rotate_left; (intro W hW; go_simp; with_reducible rfl))
        simp only [Act.put, List.setIfInBounds_toArray, List.set_cons_succ, List.set_cons_zero]
        intro W2 hW2
        have Hb2 := Lib.hid (Hb.out.after hW2)
        clear hW2 q1 q2 l1 l2 hrr
        cases hg : (((row.length : Int) != (es.length : Int)) || !allB row (-1) (p.labels - 1))
        · have Hn : Hid (portsU n l (k + 1) = true ∧ rowsU p l (k + 1) = true) := by
            simp only [Bool.or_eq_false_iff, Bool.not_eq_false', bne_eq_false_iff_eq] at hg
            refine ⟨?_, ?_⟩
            · rw [portsU_succ, Hall.out.1, Hxx.out.1, Hxx.out.2, decide_eq_true (by omega)]; rfl
            · rw [rowsU_succ, Hall.out.2, Hxx.out.1, hg.2]; rfl
          go_wp2
          go_roundw
          case rel => exact ⟨k + 1, by omega, by go_num, Hn.out, Hb2.out⟩
          case measure => simp [intOf]; omega
        · have Hn : Hid ((portsU n l l.length && rowsU p l l.length) = false) := by
            show _ = _
            cases hq : allB row (-1) (p.labels - 1)
            · rw [rowsU_false hlt (by rw [Hxx.out.1]; exact hq), Bool.and_false]
            · rw [hq] at hg
              rw [portsU_false hlt (by rw [Hxx.out.1, Hxx.out.2]; intro e; rw [e] at hg; simp at hg), Bool.false_and]
          go_wp2
          go_ret
          exact ⟨ret_false (HR.out.trans Hn.out), Since.after Hb0.out Hb2.out⟩
      · obtain rfl : k = l.length := by omega
        go_wp2
        go_ret
        exact ⟨ret_true (HR.out.trans (by rw [Hall.out.1, Hall.out.2]; rfl)), Since.after Hb0.out Hb.out⟩
  · have Hn : Hid ((prOk p && netOk n && shapeOk p n l) = false) := by
      show _ = _
      revert hg
      rw [shape_u]
      cases prOk p <;> cases netOk n <;> simp
      intro h1 h2
      omega
    have HW := Lib.hid hW
    clear hW
    go_wp2
    go_ret
    exact ⟨ret_false Hn.out, Since.after Hb0.out HW.out⟩
def spOk (p : Prob) (n : Net) (l : List (List Int)) : Bool := prOk p && netOk n && shapeOk p n l
theorem soPartial_any (pa pb ve vi vn vl : Value) (p : Prob) (n : Net) (l : List (List Int)) (w : World) (hp : PrIn w pa pb p) (h : NetIn w ve vi vn n) (hl : IntSS w vl l) :
    Calls Tryz.prog 104 #[.agg #[.int .i64 p.labels, .int .i64 p.degree, pa, pb], .agg #[ve, vi, vn], vl] w fun e w' => e = .returned (.bool (spOk p n l)) ∧ Below w.heap.size w w' := soPartial0_any pa pb ve vi vn vl p n l w hp h hl
end Go.Proofs.YtomnaabadohecaaGreat
