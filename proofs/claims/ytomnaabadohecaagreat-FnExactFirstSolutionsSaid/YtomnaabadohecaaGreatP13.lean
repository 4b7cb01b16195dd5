/- Parts of the proof: walks of functions and plain laws. -/
import Derived.Test.YtomnaabadohecaaGreatP12
import Derived.Test.YtomnaabadohecaaGreatP8
import Derived.Test.YtomnaabadohecaaGreatP6
import Derived.Laws.CopyOwn
import Derived.Shelf.Bits.Mul64
import Derived.Test.YtomnaabadohecaaGreatP4
namespace Go.Proofs.YtomnaabadohecaaGreat
open Go.RowKit
/-! the test at a port -/
def Shape (ess : List (List (Int × Int))) (l : List (List Int)) : Prop := l.length = ess.length ∧ ∀ (v : Nat) (es : List (Int × Int)) (row : List Int), ess[v]? = some es → l[v]? = some row → row.length = es.length
theorem netOk_port {n : Net} (hn : netOk n = true) {v i : Nat} {es : List (Int × Int)} {f : Int × Int} (hes : n.ends[v]? = some es) (hf : es[i]? = some f) :
    ∃ (k j : Nat) (es2 : List (Int × Int)), f = ((k : Int), (j : Int)) ∧ n.ends[k]? = some es2 ∧ j < es2.length := by
  have hv := lt_of_get hes
  have hi := lt_of_get hf
  have hp : hasPortB n.ends (v : Int) (i : Int) = true := by
    unfold hasPortB
    rw [Bool.and_eq_true, inB_iff, inB_iff]
    simp only [Int.toNat_natCast]
    rw [getD_of hes]
    omega
  have he : endAt n.ends (v : Int) (i : Int) = f := by
    unfold endAt
    simp only [Int.toNat_natCast]
    rw [getD_of hes]
    exact getD_of hf
  obtain ⟨h1, -⟩ := netOk_end hn hp
  rw [he] at h1
  unfold hasPortB at h1
  rw [Bool.and_eq_true, inB_iff, inB_iff] at h1
  obtain ⟨es2, h2⟩ := getx n.ends f.1.toNat (by omega)
  rw [getD_of h2] at h1
  exact ⟨f.1.toNat, f.2.toNat, es2, by rw [Prod.ext_iff]; exact ⟨by simp; omega, by simp; omega⟩, h2, by omega⟩
theorem end_cells {w : World} {A : Option Addr} {c : Nat} {ess : List (List (Int × Int))} (h : EndSS w (.slice A ess.length c) ess) {v i : Nat} {es : List (Int × Int)} {f : Int × Int} (hv : ess[v]? = some es) (hi : es[i]? = some f) :
    ∃ b off b2 off2 z, A = some ⟨b, off, none⟩ ∧ w.cell? ⟨b, off + v, none⟩ = some (.slice (some ⟨b2, off2, none⟩) es.length z) ∧ w.cell? ⟨b2, off2 + i * 2, none⟩ = some (.int .i64 f.1) ∧ w.cell? ⟨b2, off2 + i * 2 + 1, none⟩ = some (.int .i64 f.2) := by
  obtain ⟨A', c', e, -, -, hA⟩ := h
  cases e
  obtain ⟨b, off, u, hA', h1, ⟨A1, z, rfl, -, -, hA1⟩⟩ := hA v es hv
  obtain ⟨b2, off2, rfl, h2, h3⟩ := hA1 i f hi
  exact ⟨b, off, b2, off2, z, hA', h1, h2, h3⟩
theorem int_cells {w : World} {A : Option Addr} {c : Nat} {l : List (List Int)} (h : IntSS w (.slice A l.length c) l) {v i : Nat} {row : List Int} {x : Int} (hv : l[v]? = some row) (hi : row[i]? = some x) :
    ∃ b off b2 off2 z, A = some ⟨b, off, none⟩ ∧ w.cell? ⟨b, off + v, none⟩ = some (.slice (some ⟨b2, off2, none⟩) row.length z) ∧ w.cell? ⟨b2, off2 + i, none⟩ = some (.int .i64 x) := by
  obtain ⟨A', c', e, -, -, hA⟩ := h
  cases e
  obtain ⟨b, off, u, hA', h1, ⟨A1, z, rfl, -, -, hA1⟩⟩ := hA v row hv
  obtain ⟨b2, off2, rfl, h2⟩ := hA1 i x hi
  exact ⟨b, off, b2, off2, z, hA', h1, h2⟩
set_option maxRecDepth 100000 in
set_option maxHeartbeats 8000000 in
theorem edgeHolds_any (pa pb ve vi vn vl : Value) (p : Prob) (n : Net) (l : List (List Int)) (v i : Nat) (row : List Int) (w : World) (hp : PrIn w pa pb p) (h : NetIn w ve vi vn n) (hl : IntSS w vl l) (hn : netOk n = true) (hsh : Shape n.ends l) (hst : Strict p.edges) (hel : p.edges.length ≤ 1048576) (hv : l[v]? = some row) (hi : i < row.length) :
    Calls Tryz.prog 166 #[.agg #[.int .i64 p.labels, .int .i64 p.degree, pa, pb], .agg #[ve, vi, vn], vl, .int .i64 v, .int .i64 i] w fun e w' => e = .returned (.bool (portB p n.ends l ((v : Int), (i : Int)))) ∧ Below w.heap.size w w' := by
  obtain ⟨w0, hw0⟩ : ∃ w0, w0 = ((w).alloc (.cells #[.int .i64 p.labels, .int .i64 p.degree, pa, pb] 74)).alloc (.cells #[ve, vi, vn] 43) := ⟨_, rfl⟩
  have hb0 : Below w.heap.size w w0 := by rw [hw0]; exact (((Below.refl _ _).alloc (by simp <;> omega) _).alloc (by simp <;> omega) _)
  have H := Lib.hid (h.keep hb0)
  obtain ⟨h1, h2, h3⟩ := h.keep hb0
  obtain ⟨A, c, rfl, hlc, hm, hA⟩ := h1
  obtain ⟨A2, c2, rfl, _, hm2, _⟩ := h2
  obtain ⟨A3, c3, rfl, _, hm3, _⟩ := h3
  unfold maxLen at hm hm2 hm3
  have hkP := hp.keep hb0
  have HP := Lib.hid hkP
  obtain ⟨P0, pz0, rfl, hlP0, hmP0, hPe0⟩ := id hkP.1
  unfold maxLen at hmP0
  have HPe0 := Lib.hid hPe0
  clear hPe0
  obtain ⟨P1, pz1, rfl, hlP1, hmP1, hPe1⟩ := id hkP.2
  unfold maxLen at hmP1
  have HPe1 := Lib.hid hPe1
  clear hPe1
  clear hkP hp
  have p00 : ∀ W, Since w0 W → W.cell? ⟨w.heap.size, 0, none⟩ = some (.int .i64 p.labels) := have_cell (by rw [hw0]; simp)
  have p01 : ∀ W, Since w0 W → W.cell? ⟨w.heap.size, 1, none⟩ = some (.int .i64 p.degree) := have_cell (by rw [hw0]; simp)
  have p02 : ∀ W, Since w0 W → W.cell? ⟨w.heap.size, 2, none⟩ = some (.slice P0 p.nodes.length pz0) := have_cell (by rw [hw0]; simp)
  have p03 : ∀ W, Since w0 W → W.cell? ⟨w.heap.size, 3, none⟩ = some (.slice P1 p.edges.length pz1) := have_cell (by rw [hw0]; simp)
  have p10 : ∀ W, Since w0 W → W.cell? ⟨w.heap.size + 1, 0, none⟩ = some (.slice A n.ends.length c) := have_cell (by rw [hw0]; simp)
  have p11 : ∀ W, Since w0 W → W.cell? ⟨w.heap.size + 1, 1, none⟩ = some (.slice A2 n.ids.length c2) := have_cell (by rw [hw0]; simp)
  have p12 : ∀ W, Since w0 W → W.cell? ⟨w.heap.size + 1, 2, none⟩ = some (.slice A3 n.inputs.length c3) := have_cell (by rw [hw0]; simp)
  have Hb0 := Lib.hid hb0
  have Hw0 := Lib.hid hw0
  have HA := Lib.hid hA
  clear hA h
  clear hb0 hw0
  have HL := Lib.hid (hl.keep Hb0.out)
  obtain ⟨AL, cL, rfl, -⟩ := hl
  have HPp := Lib.hid (show ∀ X, Since w0 X → PrIn X (.slice P0 p.nodes.length pz0) (.slice P1 p.edges.length pz1) p from fun X hX => HP.out.keep hX)
  have hvl := lt_of_get hv
  obtain ⟨es, hes⟩ := getx n.ends v (by rw [← hsh.1]; exact hvl)
  have hre := hsh.2 v es row hes hv
  obtain ⟨f, hf⟩ := getx es i (by omega)
  obtain ⟨k, j, es2, rfl, hes2, hj⟩ := netOk_port hn hes hf
  have hkl : k < l.length := by rw [hsh.1]; exact lt_of_get hes2
  obtain ⟨row2, hrow2⟩ := getx l k hkl
  have hre2 := hsh.2 k es2 row2 hes2 hrow2
  have hj2 : j < row2.length := by omega
  obtain ⟨a, ha⟩ := getx row i hi
  obtain ⟨b, hb⟩ := getx row2 j hj2
  have hvn : v < n.ends.length := lt_of_get hes
  have hie : i < es.length := by omega
  have hR : Hid (portB p n.ends l ((v : Int), (i : Int)) = (decide (a < 0) || (decide (b < 0) || edgeB p a b))) := by
    show _ = _
    have e1 : (n.ends.getD v []).getD i (0, 0) = ((k : Int), (j : Int)) := by rw [getD_of hes, getD_of hf]
    have e2 : cellB l ((v : Int), (i : Int)) = a := by unfold cellB; simp only [Int.toNat_natCast]; rw [getD_of hv, getD_of ha]
    have e3 : cellB l ((k : Int), (j : Int)) = b := by unfold cellB; simp only [Int.toNat_natCast]; rw [getD_of hrow2, getD_of hb]
    unfold portB
    simp only [Int.toNat_natCast, e1, e2, e3]
  obtain ⟨b1, o1, b2, o2, z1, rfl, c1, c2, c3⟩ := end_cells H.out.es hes hf
  obtain ⟨b3, o3, b4, o4, z2, rfl, c4, c5⟩ := int_cells HL.out hv ha
  obtain ⟨b5, o5, b6, o6, z3, e, c6, c7⟩ := int_cells HL.out hrow2 hb
  cases e
  have q1 := have_cell c1
  have q2 := have_cell c2
  have q3 := have_cell c3
  have q4 := have_cell c4
  have q5 := have_cell c5
  have q6 := have_cell c6
  have q7 := have_cell c7
  clear c1 c2 c3 c4 c5 c6 c7 ha hb hre hre2 hes hes2 hrow2 hf hv hn hsh hj
  have Hst := Lib.hid hst
  clear hst
  go_enter Tryz.func166, Tryz.ntmps166
  go_upto_region 1 with (fail)
  rw [← Hw0.out]
  have hs0 : Since w0 w0 := since_refl _
  go_upto_region 2 with (fail)
  obtain ⟨bx, hbx⟩ : ∃ bx, bx = w0.heap.size := ⟨_, rfl⟩
  obtain ⟨W1, hW1⟩ : ∃ W1, W1 = w0.alloc (.cells #[.int .i64 k, .int .i64 j] 114) := ⟨_, rfl⟩
  have hs1 : Since w0 W1 := by rw [hW1]; exact since_alloc _ hs0
  have g1 : ∀ W, Since W1 W → W.cell? ⟨bx, 0, none⟩ = some (.int .i64 k) := have_cell (by rw [hbx, hW1]; simp)
  have g2 : ∀ W, Since W1 W → W.cell? ⟨bx, 1, none⟩ = some (.int .i64 j) := have_cell (by rw [hbx, hW1]; simp)
  rw [← hW1, ← hbx]
  have Hs1 := Lib.hid hs1
  have t1 := lift_cell q1 hs1
  have t4 := lift_cell q4 hs1
  have t5 := lift_cell q5 hs1
  have t6 := lift_cell q6 hs1
  have t7 := lift_cell q7 hs1
  clear hs0 hW1 hbx hs1 q1 q2 q3 q4 q5 q6 q7
  refine wp_region_flow 18 (Since W1) (by kernel_rfl) (by kernel_rfl) (by simp) (since_drew (since_refl _)) ?_
  simp only [List.take_succ_cons, List.take_zero, List.drop_succ_cons, List.drop_zero]
  refine flow_val (v := ?_) rfl ?_ ?_; rotate_left; (intro W hW; go_simp; with_reducible rfl)
  simp only [Act.put, List.setIfInBounds_toArray, List.set_cons_succ, List.set_cons_zero]
  refine flow_val (v := ?_) rfl ?_ ?_; rotate_left; (intro W hW; go_simp; with_reducible rfl)
  simp only [Act.put, List.setIfInBounds_toArray, List.set_cons_succ, List.set_cons_zero]
  refine flow_val (v := ?_) rfl ?_ ?_; rotate_left; (intro W hW; go_simp; with_reducible rfl)
  simp only [Act.put, List.setIfInBounds_toArray, List.set_cons_succ, List.set_cons_zero]
  refine flow_val (v := ?_) rfl ?_ ?_; rotate_left; (intro W hW; go_simp; with_reducible rfl)
  simp only [Act.put, List.setIfInBounds_toArray, List.set_cons_succ, List.set_cons_zero]
  refine flow_val (v := ?_) rfl ?_ ?_; rotate_left; (intro W hW; go_simp; with_reducible rfl)
  simp only [Act.put, List.setIfInBounds_toArray, List.set_cons_succ, List.set_cons_zero]
  refine flow_val (v := ?_) rfl ?_ ?_; rotate_left; (intro W hW; go_simp; with_reducible rfl)
  simp only [Act.put, List.setIfInBounds_toArray, List.set_cons_succ, List.set_cons_zero]
  refine flow_val (v := ?_) rfl ?_ ?_; rotate_left; (intro W hW; go_simp; with_reducible rfl)
  simp only [Act.put, List.setIfInBounds_toArray, List.set_cons_succ, List.set_cons_zero]
  refine flow_val (v := ?_) rfl ?_ ?_; rotate_left; (intro W hW; go_simp; with_reducible rfl)
  simp only [Act.put, List.setIfInBounds_toArray, List.set_cons_succ, List.set_cons_zero]
  refine flow_val (v := ?_) rfl ?_ ?_; rotate_left; (intro W hW; go_simp; with_reducible rfl)
  simp only [Act.put, List.setIfInBounds_toArray, List.set_cons_succ, List.set_cons_zero]
  refine flow_val (v := ?_) rfl ?_ ?_; rotate_left; (intro W hW; go_simp; with_reducible rfl)
  simp only [Act.put, List.setIfInBounds_toArray, List.set_cons_succ, List.set_cons_zero]
  refine flow_val (v := ?_) rfl ?_ ?_; rotate_left; (intro W hW; go_simp; with_reducible rfl)
  simp only [Act.put, List.setIfInBounds_toArray, List.set_cons_succ, List.set_cons_zero]
  refine flow_val (v := ?_) rfl ?_ ?_; rotate_left; (intro W hW; go_simp; with_reducible rfl)
  simp only [Act.put, List.setIfInBounds_toArray, List.set_cons_succ, List.set_cons_zero]
  refine flow_val (v := ?_) rfl ?_ ?_; rotate_left; (intro W hW; go_simp; with_reducible rfl)
  simp only [Act.put, List.setIfInBounds_toArray, List.set_cons_succ, List.set_cons_zero]
  refine flow_val (v := ?_) rfl ?_ ?_; rotate_left; (intro W hW; go_simp; with_reducible rfl)
  simp only [Act.put, List.setIfInBounds_toArray, List.set_cons_succ, List.set_cons_zero]
  refine flow_val (v := ?_) rfl ?_ ?_; rotate_left; (intro W hW; go_simp; with_reducible rfl)
  simp only [Act.put, List.setIfInBounds_toArray, List.set_cons_succ, List.set_cons_zero]
  refine flow_val (v := ?_) rfl ?_ ?_; rotate_left; (intro W hW; go_simp; with_reducible rfl)
  simp only [Act.put, List.setIfInBounds_toArray, List.set_cons_succ, List.set_cons_zero]
  refine flow_val (v := ?_) rfl ?_ ?_; rotate_left; (intro W hW; go_simp; with_reducible rfl)
  simp only [Act.put, List.setIfInBounds_toArray, List.set_cons_succ, List.set_cons_zero]
  refine flow_val (v := ?_) rfl ?_ ?_; rotate_left; (intro W hW; go_simp; with_reducible rfl)
  simp only [Act.put, List.setIfInBounds_toArray, List.set_cons_succ, List.set_cons_zero]
  intro W2 hW2
  have HW2 := Lib.hid (Hs1.out.after hW2)
  clear hW2 t1 t4 t5 t6 t7 g1 g2
  go_upto_region 3 with (fail)
  have pa0 := lift_cell p00 HW2.out
  have pa1 := lift_cell p01 HW2.out
  have pa2 := lift_cell p02 HW2.out
  have pa3 := lift_cell p03 HW2.out
  refine wp_region_flow0 13 (Since W2) (since_refl _) ?_
  simp only [List.take_succ_cons, List.take_zero, List.drop_succ_cons, List.drop_zero]
  refine flow_val (v := ?_) rfl ?_ ?_; rotate_left; (intro W hW; go_simp; with_reducible rfl)
  simp only [Act.put, List.setIfInBounds_toArray, List.set_cons_succ, List.set_cons_zero]
  refine flow_val (v := ?_) rfl ?_ ?_; rotate_left; (intro W hW; go_simp; with_reducible rfl)
  simp only [Act.put, List.setIfInBounds_toArray, List.set_cons_succ, List.set_cons_zero]
  refine flow_val (v := ?_) rfl ?_ ?_; rotate_left; (intro W hW; go_simp; with_reducible rfl)
  simp only [Act.put, List.setIfInBounds_toArray, List.set_cons_succ, List.set_cons_zero]
  refine flow_gval (v := ?_) rfl rfl ?_ ?_; rotate_left; (intro hb; intro W hW; go_simp; with_reducible rfl)
  simp only [Act.put, List.setIfInBounds_toArray, List.set_cons_succ, List.set_cons_zero]
  refine flow_gval (v := ?_) rfl rfl ?_ ?_; rotate_left; (intro hb; intro W hW; go_simp; with_reducible rfl)
  simp only [Act.put, List.setIfInBounds_toArray, List.set_cons_succ, List.set_cons_zero]
  first | refine flow_or rfl rfl ?_ | (refine flow_val (v := ?_) rfl ?_ ?_; rotate_left; (intro W hW; go_simp; with_reducible rfl))
  simp only [Act.put, List.setIfInBounds_toArray, List.set_cons_succ, List.set_cons_zero]
  refine flow_val (v := ?_) rfl ?_ ?_; rotate_left; (intro W hW; go_simp; with_reducible rfl)
  simp only [Act.put, List.setIfInBounds_toArray, List.set_cons_succ, List.set_cons_zero]
  refine flow_gval (v := ?_) rfl rfl ?_ ?_; rotate_left; (intro hb; intro W hW; go_simp; with_reducible rfl)
  simp only [Act.put, List.setIfInBounds_toArray, List.set_cons_succ, List.set_cons_zero]
  refine flow_gval (v := ?_) rfl rfl ?_ ?_; rotate_left; (intro hb; intro W hW; go_simp; with_reducible rfl)
  simp only [Act.put, List.setIfInBounds_toArray, List.set_cons_succ, List.set_cons_zero]
  refine flow_gval (v := ?_) rfl rfl ?_ ?_; rotate_left; (intro hb; intro W hW; go_simp; with_reducible rfl)
  simp only [Act.put, List.setIfInBounds_toArray, List.set_cons_succ, List.set_cons_zero]
  refine flow_gop (v := ?_) rfl rfl ?_ ?_; rotate_left; (intro hb; intro W hW; unfold Gives; go_simp; (with_reducible refine (edge_any _ _ p a b W (HPp.out W (HW2.out.after hW)) Hst.out hel).mono ?_); rintro e W' ⟨rfl, hb3⟩; first | (refine ⟨?_, Since.trans hW hb3⟩; with_reducible rfl) | (subst hb3; refine ⟨?_, hW⟩; with_reducible rfl))
  simp only [Act.put, List.setIfInBounds_toArray, List.set_cons_succ, List.set_cons_zero]
  first | refine flow_or rfl rfl ?_ | (refine flow_val (v := ?_) rfl ?_ ?_; rotate_left; (intro W hW; go_simp; with_reducible rfl))
  simp only [Act.put, List.setIfInBounds_toArray, List.set_cons_succ, List.set_cons_zero]
  refine flow_val (v := ?_) rfl ?_ ?_; rotate_left; (intro W hW; go_simp; with_reducible rfl)
  simp only [Act.put, List.setIfInBounds_toArray, List.set_cons_succ, List.set_cons_zero]
  intro W3 hW3
  have HW3 := Lib.hid (HW2.out.after hW3)
  clear hW3
  go_wp2
  go_ret
  exact ⟨ret_bool (by rw [hR.out, Bool.or_assoc]), Since.after Hb0.out HW3.out⟩
set_option maxRecDepth 100000 in
set_option maxHeartbeats 8000000 in
theorem soPort_any (pa pb ve vi vn vl : Value) (p : Prob) (n : Net) (l : List (List Int)) (v i : Nat) (row : List Int) (w : World) (hp : PrIn w pa pb p) (h : NetIn w ve vi vn n) (hl : IntSS w vl l) (hn : netOk n = true) (hsh : Shape n.ends l) (hst : Strict p.edges) (hel : p.edges.length ≤ 1048576) (hv : l[v]? = some row) (hi : i < row.length) :
    Calls Tryz.prog 162 #[.agg #[.int .i64 p.labels, .int .i64 p.degree, pa, pb], .agg #[ve, vi, vn], vl, .int .i64 v, .int .i64 i] w fun e w' => e = .returned (.bool (portB p n.ends l ((v : Int), (i : Int)))) ∧ Below w.heap.size w w' := by
  obtain ⟨w0, hw0⟩ : ∃ w0, w0 = ((w).alloc (.cells #[.int .i64 p.labels, .int .i64 p.degree, pa, pb] 74)).alloc (.cells #[ve, vi, vn] 43) := ⟨_, rfl⟩
  have hb0 : Below w.heap.size w w0 := by rw [hw0]; exact (((Below.refl _ _).alloc (by simp <;> omega) _).alloc (by simp <;> omega) _)
  have H := Lib.hid (h.keep hb0)
  obtain ⟨h1, h2, h3⟩ := h.keep hb0
  obtain ⟨A, c, rfl, hlc, hm, hA⟩ := h1
  obtain ⟨A2, c2, rfl, _, hm2, _⟩ := h2
  obtain ⟨A3, c3, rfl, _, hm3, _⟩ := h3
  unfold maxLen at hm hm2 hm3
  have hkP := hp.keep hb0
  have HP := Lib.hid hkP
  obtain ⟨P0, pz0, rfl, hlP0, hmP0, hPe0⟩ := id hkP.1
  unfold maxLen at hmP0
  have HPe0 := Lib.hid hPe0
  clear hPe0
  obtain ⟨P1, pz1, rfl, hlP1, hmP1, hPe1⟩ := id hkP.2
  unfold maxLen at hmP1
  have HPe1 := Lib.hid hPe1
  clear hPe1
  clear hkP hp
  have p00 : ∀ W, Since w0 W → W.cell? ⟨w.heap.size, 0, none⟩ = some (.int .i64 p.labels) := have_cell (by rw [hw0]; simp)
  have p01 : ∀ W, Since w0 W → W.cell? ⟨w.heap.size, 1, none⟩ = some (.int .i64 p.degree) := have_cell (by rw [hw0]; simp)
  have p02 : ∀ W, Since w0 W → W.cell? ⟨w.heap.size, 2, none⟩ = some (.slice P0 p.nodes.length pz0) := have_cell (by rw [hw0]; simp)
  have p03 : ∀ W, Since w0 W → W.cell? ⟨w.heap.size, 3, none⟩ = some (.slice P1 p.edges.length pz1) := have_cell (by rw [hw0]; simp)
  have p10 : ∀ W, Since w0 W → W.cell? ⟨w.heap.size + 1, 0, none⟩ = some (.slice A n.ends.length c) := have_cell (by rw [hw0]; simp)
  have p11 : ∀ W, Since w0 W → W.cell? ⟨w.heap.size + 1, 1, none⟩ = some (.slice A2 n.ids.length c2) := have_cell (by rw [hw0]; simp)
  have p12 : ∀ W, Since w0 W → W.cell? ⟨w.heap.size + 1, 2, none⟩ = some (.slice A3 n.inputs.length c3) := have_cell (by rw [hw0]; simp)
  have Hb0 := Lib.hid hb0
  have Hw0 := Lib.hid hw0
  have HA := Lib.hid hA
  clear hA h
  clear hb0 hw0
  have HL := Lib.hid (hl.keep Hb0.out)
  obtain ⟨AL, cL, rfl, -⟩ := hl
  have HPp := Lib.hid (show ∀ X, Since w0 X → PrIn X (.slice P0 p.nodes.length pz0) (.slice P1 p.edges.length pz1) p from fun X hX => HP.out.keep hX)
  have hvl := lt_of_get hv
  obtain ⟨es, hes⟩ := getx n.ends v (by rw [← hsh.1]; exact hvl)
  have hre := hsh.2 v es row hes hv
  obtain ⟨f, hf⟩ := getx es i (by omega)
  obtain ⟨k, j, es2, rfl, hes2, hj⟩ := netOk_port hn hes hf
  have hkl : k < l.length := by rw [hsh.1]; exact lt_of_get hes2
  obtain ⟨row2, hrow2⟩ := getx l k hkl
  have hre2 := hsh.2 k es2 row2 hes2 hrow2
  have hj2 : j < row2.length := by omega
  obtain ⟨a, ha⟩ := getx row i hi
  obtain ⟨b, hb⟩ := getx row2 j hj2
  have hvn : v < n.ends.length := lt_of_get hes
  have hie : i < es.length := by omega
  have hR : Hid (portB p n.ends l ((v : Int), (i : Int)) = (decide (a < 0) || (decide (b < 0) || edgeB p a b))) := by
    show _ = _
    have e1 : (n.ends.getD v []).getD i (0, 0) = ((k : Int), (j : Int)) := by rw [getD_of hes, getD_of hf]
    have e2 : cellB l ((v : Int), (i : Int)) = a := by unfold cellB; simp only [Int.toNat_natCast]; rw [getD_of hv, getD_of ha]
    have e3 : cellB l ((k : Int), (j : Int)) = b := by unfold cellB; simp only [Int.toNat_natCast]; rw [getD_of hrow2, getD_of hb]
    unfold portB
    simp only [Int.toNat_natCast, e1, e2, e3]
  obtain ⟨b1, o1, b2, o2, z1, rfl, c1, c2, c3⟩ := end_cells H.out.es hes hf
  obtain ⟨b3, o3, b4, o4, z2, rfl, c4, c5⟩ := int_cells HL.out hv ha
  obtain ⟨b5, o5, b6, o6, z3, e, c6, c7⟩ := int_cells HL.out hrow2 hb
  cases e
  have q1 := have_cell c1
  have q2 := have_cell c2
  have q3 := have_cell c3
  have q4 := have_cell c4
  have q5 := have_cell c5
  have q6 := have_cell c6
  have q7 := have_cell c7
  clear c1 c2 c3 c4 c5 c6 c7 ha hb hre hre2 hes hes2 hrow2 hf hv hn hsh hj
  have Hst := Lib.hid hst
  clear hst
  go_enter Tryz.func162, Tryz.ntmps162
  go_upto_region 1 with (fail)
  rw [← Hw0.out]
  have hs0 : Since w0 w0 := since_refl _
  go_upto_region 2 with (fail)
  obtain ⟨bx, hbx⟩ : ∃ bx, bx = w0.heap.size := ⟨_, rfl⟩
  obtain ⟨W1, hW1⟩ : ∃ W1, W1 = w0.alloc (.cells #[.int .i64 k, .int .i64 j] 114) := ⟨_, rfl⟩
  have hs1 : Since w0 W1 := by rw [hW1]; exact since_alloc _ hs0
  have g1 : ∀ W, Since W1 W → W.cell? ⟨bx, 0, none⟩ = some (.int .i64 k) := have_cell (by rw [hbx, hW1]; simp)
  have g2 : ∀ W, Since W1 W → W.cell? ⟨bx, 1, none⟩ = some (.int .i64 j) := have_cell (by rw [hbx, hW1]; simp)
  rw [← hW1, ← hbx]
  have Hs1 := Lib.hid hs1
  have t1 := lift_cell q1 hs1
  have t4 := lift_cell q4 hs1
  have t5 := lift_cell q5 hs1
  have t6 := lift_cell q6 hs1
  have t7 := lift_cell q7 hs1
  clear hs0 hW1 hbx hs1 q1 q2 q3 q4 q5 q6 q7
  refine wp_region_flow 18 (Since W1) (by kernel_rfl) (by kernel_rfl) (by simp) (since_drew (since_refl _)) ?_
  simp only [List.take_succ_cons, List.take_zero, List.drop_succ_cons, List.drop_zero]
  refine flow_val (v := ?_) rfl ?_ ?_; rotate_left; (intro W hW; go_simp; with_reducible rfl)
  simp only [Act.put, List.setIfInBounds_toArray, List.set_cons_succ, List.set_cons_zero]
  refine flow_val (v := ?_) rfl ?_ ?_; rotate_left; (intro W hW; go_simp; with_reducible rfl)
  simp only [Act.put, List.setIfInBounds_toArray, List.set_cons_succ, List.set_cons_zero]
  refine flow_val (v := ?_) rfl ?_ ?_; rotate_left; (intro W hW; go_simp; with_reducible rfl)
  simp only [Act.put, List.setIfInBounds_toArray, List.set_cons_succ, List.set_cons_zero]
  refine flow_val (v := ?_) rfl ?_ ?_; rotate_left; (intro W hW; go_simp; with_reducible rfl)
  simp only [Act.put, List.setIfInBounds_toArray, List.set_cons_succ, List.set_cons_zero]
  refine flow_val (v := ?_) rfl ?_ ?_; rotate_left; (intro W hW; go_simp; with_reducible rfl)
  simp only [Act.put, List.setIfInBounds_toArray, List.set_cons_succ, List.set_cons_zero]
  refine flow_val (v := ?_) rfl ?_ ?_; rotate_left; (intro W hW; go_simp; with_reducible rfl)
  simp only [Act.put, List.setIfInBounds_toArray, List.set_cons_succ, List.set_cons_zero]
  refine flow_val (v := ?_) rfl ?_ ?_; rotate_left; (intro W hW; go_simp; with_reducible rfl)
  simp only [Act.put, List.setIfInBounds_toArray, List.set_cons_succ, List.set_cons_zero]
  refine flow_val (v := ?_) rfl ?_ ?_; rotate_left; (intro W hW; go_simp; with_reducible rfl)
  simp only [Act.put, List.setIfInBounds_toArray, List.set_cons_succ, List.set_cons_zero]
  refine flow_val (v := ?_) rfl ?_ ?_; rotate_left; (intro W hW; go_simp; with_reducible rfl)
  simp only [Act.put, List.setIfInBounds_toArray, List.set_cons_succ, List.set_cons_zero]
  refine flow_val (v := ?_) rfl ?_ ?_; rotate_left; (intro W hW; go_simp; with_reducible rfl)
  simp only [Act.put, List.setIfInBounds_toArray, List.set_cons_succ, List.set_cons_zero]
  refine flow_val (v := ?_) rfl ?_ ?_; rotate_left; (intro W hW; go_simp; with_reducible rfl)
  simp only [Act.put, List.setIfInBounds_toArray, List.set_cons_succ, List.set_cons_zero]
  refine flow_val (v := ?_) rfl ?_ ?_; rotate_left; (intro W hW; go_simp; with_reducible rfl)
  simp only [Act.put, List.setIfInBounds_toArray, List.set_cons_succ, List.set_cons_zero]
  refine flow_val (v := ?_) rfl ?_ ?_; rotate_left; (intro W hW; go_simp; with_reducible rfl)
  simp only [Act.put, List.setIfInBounds_toArray, List.set_cons_succ, List.set_cons_zero]
  refine flow_val (v := ?_) rfl ?_ ?_; rotate_left; (intro W hW; go_simp; with_reducible rfl)
  simp only [Act.put, List.setIfInBounds_toArray, List.set_cons_succ, List.set_cons_zero]
  refine flow_val (v := ?_) rfl ?_ ?_; rotate_left; (intro W hW; go_simp; with_reducible rfl)
  simp only [Act.put, List.setIfInBounds_toArray, List.set_cons_succ, List.set_cons_zero]
  refine flow_val (v := ?_) rfl ?_ ?_; rotate_left; (intro W hW; go_simp; with_reducible rfl)
  simp only [Act.put, List.setIfInBounds_toArray, List.set_cons_succ, List.set_cons_zero]
  refine flow_val (v := ?_) rfl ?_ ?_; rotate_left; (intro W hW; go_simp; with_reducible rfl)
  simp only [Act.put, List.setIfInBounds_toArray, List.set_cons_succ, List.set_cons_zero]
  refine flow_val (v := ?_) rfl ?_ ?_; rotate_left; (intro W hW; go_simp; with_reducible rfl)
  simp only [Act.put, List.setIfInBounds_toArray, List.set_cons_succ, List.set_cons_zero]
  intro W2 hW2
  have HW2 := Lib.hid (Hs1.out.after hW2)
  clear hW2 t1 t4 t5 t6 t7 g1 g2
  go_upto_region 3 with (fail)
  have pa0 := lift_cell p00 HW2.out
  have pa1 := lift_cell p01 HW2.out
  have pa2 := lift_cell p02 HW2.out
  have pa3 := lift_cell p03 HW2.out
  refine wp_region_flow0 13 (Since W2) (since_refl _) ?_
  simp only [List.take_succ_cons, List.take_zero, List.drop_succ_cons, List.drop_zero]
  refine flow_val (v := ?_) rfl ?_ ?_; rotate_left; (intro W hW; go_simp; with_reducible rfl)
  simp only [Act.put, List.setIfInBounds_toArray, List.set_cons_succ, List.set_cons_zero]
  refine flow_val (v := ?_) rfl ?_ ?_; rotate_left; (intro W hW; go_simp; with_reducible rfl)
  simp only [Act.put, List.setIfInBounds_toArray, List.set_cons_succ, List.set_cons_zero]
  refine flow_val (v := ?_) rfl ?_ ?_; rotate_left; (intro W hW; go_simp; with_reducible rfl)
  simp only [Act.put, List.setIfInBounds_toArray, List.set_cons_succ, List.set_cons_zero]
  refine flow_gval (v := ?_) rfl rfl ?_ ?_; rotate_left; (intro hb; intro W hW; go_simp; with_reducible rfl)
  simp only [Act.put, List.setIfInBounds_toArray, List.set_cons_succ, List.set_cons_zero]
  refine flow_gval (v := ?_) rfl rfl ?_ ?_; rotate_left; (intro hb; intro W hW; go_simp; with_reducible rfl)
  simp only [Act.put, List.setIfInBounds_toArray, List.set_cons_succ, List.set_cons_zero]
  first | refine flow_or rfl rfl ?_ | (refine flow_val (v := ?_) rfl ?_ ?_; rotate_left; (intro W hW; go_simp; with_reducible rfl))
  simp only [Act.put, List.setIfInBounds_toArray, List.set_cons_succ, List.set_cons_zero]
  refine flow_val (v := ?_) rfl ?_ ?_; rotate_left; (intro W hW; go_simp; with_reducible rfl)
  simp only [Act.put, List.setIfInBounds_toArray, List.set_cons_succ, List.set_cons_zero]
  refine flow_gval (v := ?_) rfl rfl ?_ ?_; rotate_left; (intro hb; intro W hW; go_simp; with_reducible rfl)
  simp only [Act.put, List.setIfInBounds_toArray, List.set_cons_succ, List.set_cons_zero]
  refine flow_gval (v := ?_) rfl rfl ?_ ?_; rotate_left; (intro hb; intro W hW; go_simp; with_reducible rfl)
  simp only [Act.put, List.setIfInBounds_toArray, List.set_cons_succ, List.set_cons_zero]
  refine flow_gval (v := ?_) rfl rfl ?_ ?_; rotate_left; (intro hb; intro W hW; go_simp; with_reducible rfl)
  simp only [Act.put, List.setIfInBounds_toArray, List.set_cons_succ, List.set_cons_zero]
  refine flow_gop (v := ?_) rfl rfl ?_ ?_; rotate_left; (intro hb; intro W hW; unfold Gives; go_simp; (with_reducible refine (prEdge_any _ _ p a b W (HPp.out W (HW2.out.after hW)) Hst.out hel).mono ?_); rintro e W' ⟨rfl, hb3⟩; first | (refine ⟨?_, Since.trans hW hb3⟩; with_reducible rfl) | (subst hb3; refine ⟨?_, hW⟩; with_reducible rfl))
  simp only [Act.put, List.setIfInBounds_toArray, List.set_cons_succ, List.set_cons_zero]
  first | refine flow_or rfl rfl ?_ | (refine flow_val (v := ?_) rfl ?_ ?_; rotate_left; (intro W hW; go_simp; with_reducible rfl))
  simp only [Act.put, List.setIfInBounds_toArray, List.set_cons_succ, List.set_cons_zero]
  refine flow_val (v := ?_) rfl ?_ ?_; rotate_left; (intro W hW; go_simp; with_reducible rfl)
  simp only [Act.put, List.setIfInBounds_toArray, List.set_cons_succ, List.set_cons_zero]
  intro W3 hW3
  have HW3 := Lib.hid (HW2.out.after hW3)
  clear hW3
  go_wp2
  go_ret
  exact ⟨ret_bool (by rw [hR.out, Bool.or_assoc]), Since.after Hb0.out HW3.out⟩
end Go.Proofs.YtomnaabadohecaaGreat
namespace Go.Proofs.YtomnaabadohecaaGreat
open Go.RowKit
/-! the test of a whole labeling -/
theorem range_all_snoc {q : Nat → Bool} {k : Nat} (h : (List.range k).all q = true) (hk : q k = true) : (List.range (k + 1)).all q = true := by rw [List.range_succ, List.all_append, h]; simp [hk]
theorem range_all_no {q : Nat → Bool} {k n : Nat} (hn : k < n) (hk : q k = false) : (List.range n).all q = false := by
  rw [Bool.eq_false_iff]
  intro h
  rw [List.all_eq_true] at h
  rw [h k (List.mem_range.2 hn)] at hk
  cases hk
set_option maxRecDepth 100000 in
set_option maxHeartbeats 8000000 in
theorem holds_any (pa pb ve vi vn vl : Value) (p : Prob) (n : Net) (l : List (List Int)) (w : World) (hp : PrIn w pa pb p) (h : NetIn w ve vi vn n) (hl : IntSS w vl l) (hn : netOk n = true) (hsh : Shape n.ends l) (hst : Strict p.edges) (hel : p.edges.length ≤ 1048576) (hrl : ∀ (v : Nat) (row : List Int), l[v]? = some row → row.length ≤ 1000000) :
    Calls Tryz.prog 165 #[.agg #[.int .i64 p.labels, .int .i64 p.degree, pa, pb], .agg #[ve, vi, vn], vl] w fun e w' => e = .returned (.bool (holdsB p n.ends l)) ∧ Below w.heap.size w w' := by
  obtain ⟨w0, hw0⟩ : ∃ w0, w0 = ((w).alloc (.cells #[.int .i64 p.labels, .int .i64 p.degree, pa, pb] 74)).alloc (.cells #[ve, vi, vn] 43) := ⟨_, rfl⟩
  have hb0 : Below w.heap.size w w0 := by rw [hw0]; exact (((Below.refl _ _).alloc (by simp <;> omega) _).alloc (by simp <;> omega) _)
  have H := Lib.hid (h.keep hb0)
  obtain ⟨h1, h2, h3⟩ := h.keep hb0
  obtain ⟨A, c, rfl, hlc, hm, hA⟩ := h1
  obtain ⟨A2, c2, rfl, _, hm2, _⟩ := h2
  obtain ⟨A3, c3, rfl, _, hm3, _⟩ := h3
  unfold maxLen at hm hm2 hm3
  have hkP := hp.keep hb0
  have HP := Lib.hid hkP
  obtain ⟨P0, pz0, rfl, hlP0, hmP0, hPe0⟩ := id hkP.1
  unfold maxLen at hmP0
  have HPe0 := Lib.hid hPe0
  clear hPe0
  obtain ⟨P1, pz1, rfl, hlP1, hmP1, hPe1⟩ := id hkP.2
  unfold maxLen at hmP1
  have HPe1 := Lib.hid hPe1
  clear hPe1
  clear hkP hp
  have p00 : ∀ W, Since w0 W → W.cell? ⟨w.heap.size, 0, none⟩ = some (.int .i64 p.labels) := have_cell (by rw [hw0]; simp)
  have p01 : ∀ W, Since w0 W → W.cell? ⟨w.heap.size, 1, none⟩ = some (.int .i64 p.degree) := have_cell (by rw [hw0]; simp)
  have p02 : ∀ W, Since w0 W → W.cell? ⟨w.heap.size, 2, none⟩ = some (.slice P0 p.nodes.length pz0) := have_cell (by rw [hw0]; simp)
  have p03 : ∀ W, Since w0 W → W.cell? ⟨w.heap.size, 3, none⟩ = some (.slice P1 p.edges.length pz1) := have_cell (by rw [hw0]; simp)
  have p10 : ∀ W, Since w0 W → W.cell? ⟨w.heap.size + 1, 0, none⟩ = some (.slice A n.ends.length c) := have_cell (by rw [hw0]; simp)
  have p11 : ∀ W, Since w0 W → W.cell? ⟨w.heap.size + 1, 1, none⟩ = some (.slice A2 n.ids.length c2) := have_cell (by rw [hw0]; simp)
  have p12 : ∀ W, Since w0 W → W.cell? ⟨w.heap.size + 1, 2, none⟩ = some (.slice A3 n.inputs.length c3) := have_cell (by rw [hw0]; simp)
  have Hb0 := Lib.hid hb0
  have Hw0 := Lib.hid hw0
  have HA := Lib.hid hA
  clear hA h
  clear hb0 hw0
  have HL := Lib.hid (hl.keep Hb0.out)
  obtain ⟨AL, cL, rfl, hlL, hmL, -⟩ := hl
  unfold maxLen at hmL
  have HPp := Lib.hid (show ∀ X, Since w0 X → PrIn X (.slice P0 p.nodes.length pz0) (.slice P1 p.edges.length pz1) p from fun X hX => HP.out.keep hX)
  have Hsh := Lib.hid hsh
  have Hst := Lib.hid hst
  have Hrl := Lib.hid hrl
  clear hsh hst hrl
  have Hhb : Hid (holdsB p n.ends l = (List.range l.length).all (holdsRow p n.ends l)) := rfl
  go_enter Tryz.func165, Tryz.ntmps165
  go_upto_region 1 with (fail)
  rw [← Hw0.out]
  have hs0 : Since w0 w0 := since_refl _
  go_wp2
  go_loopw [11] (fun i wr => ∃ k : Nat, k ≤ l.length ∧ i = .int .i64 k ∧ (List.range k).all (holdsRow p n.ends l) = true ∧ Since w0 wr) (fun i _ => l.length - (intOf i).toNat)
  case atStart => exact ⟨0, Nat.zero_le _, rfl, rfl, hs0⟩
  case round =>
    obtain ⟨k, hk, rfl, hall, hb⟩ := hrel
    have Hall := Lib.hid hall
    have Hb := Lib.hid hb
    clear hall hs0
    by_cases hlt : k < l.length
    · obtain ⟨row, b, off, A1, z1, hx, rfl, hc1, hz1, hz2, hxs⟩ := rows_get (HL.out.keep hb.below) hlt
      have Hrow := Lib.hid hx
      have Hxs := Lib.hid hxs
      have hr6 := Hrl.out k row hx
      have q1 := have_cell hc1
      have Hhr : Hid (holdsRow p n.ends l k = (nodeB p row && (List.range row.length).all fun i => portB p n.ends l ((k : Int), (i : Int)))) := by show _ = _; unfold holdsRow; rw [getD_of hx]
      clear hx hxs hc1
      cases hnb : nodeB p row
      · have Hnb := Lib.hid hnb
        have hno : Hid (holdsB p n.ends l = false) := by show _ = _; rw [Hhb.out]; exact range_all_no hlt (by rw [Hhr.out, hnb]; rfl)
        clear hnb
        have hq := q1 _ (since_refl _)
        go_wp2_with (go_at_call 167; refine (nodeHolds_any _ _ _ p l k row _ (HPp.out _ Hb.out) (HL.out.keep Hb.out.below) Hrow.out hr6).mono ?_; rw [Hnb.out]; rintro e w2 ⟨rfl, hb2⟩)
        go_ret
        exact ⟨ret_false hno.out, Since.after Hb0.out (Hb.out.trans hb2)⟩
      · have Hnb := Lib.hid hnb
        have hq := q1 _ (since_refl _)
        clear hnb
        go_upto_region 6 with (go_at_call 167; refine (nodeHolds_any _ _ _ p l k row _ (HPp.out _ Hb.out) (HL.out.keep Hb.out.below) Hrow.out hr6).mono ?_; rw [Hnb.out]; rintro e w2 ⟨rfl, hb2⟩)
        have hs2 : Since w0 w2 := Hb.out.trans hb2
        have q2 := lift_cell q1 hb2
        have hq2 := q2 _ (since_refl _)
        clear hb2 hq q1 hb
        go_wp2
        go_loopw [24] (fun i wr => ∃ j : Nat, j ≤ row.length ∧ i = .int .i64 j ∧ ((List.range j).all fun i => portB p n.ends l ((k : Int), (i : Int))) = true ∧ Since w0 wr) (fun i _ => row.length - (intOf i).toNat)
        case atStart => exact ⟨0, Nat.zero_le _, rfl, rfl, hs2⟩
        case round =>
          obtain ⟨j, hj, rfl, hal, hb⟩ := hrel
          have Hal := Lib.hid hal
          have Hb := Lib.hid hb
          clear hal hs2 hq2
          by_cases hjl : j < row.length
          · cases hpb : portB p n.ends l ((k : Int), (j : Int))
            · have Hpb := Lib.hid hpb
              have hno : Hid (holdsB p n.ends l = false) := by show _ = _; rw [Hhb.out]; exact range_all_no hlt (by rw [Hhr.out, range_all_no hjl hpb, Bool.and_false])
              clear hpb
              go_wp2_with (go_at_call 166; refine (edgeHolds_any _ _ _ _ _ _ p n l k j row _ (HPp.out _ Hb.out) (H.out.keep Hb.out.below) (HL.out.keep Hb.out.below) hn Hsh.out Hst.out hel Hrow.out hjl).mono ?_; rw [Hpb.out]; rintro e w3 ⟨rfl, hb3⟩)
              go_ret
              exact ⟨ret_false hno.out, Since.after Hb0.out (Hb.out.trans hb3)⟩
            · have Hpb := Lib.hid hpb
              clear hpb
              go_wp2_with (go_at_call 166; refine (edgeHolds_any _ _ _ _ _ _ p n l k j row _ (HPp.out _ Hb.out) (H.out.keep Hb.out.below) (HL.out.keep Hb.out.below) hn Hsh.out Hst.out hel Hrow.out hjl).mono ?_; rw [Hpb.out]; rintro e w3 ⟨rfl, hb3⟩)
              go_roundw
              case rel => exact ⟨j + 1, by omega, by go_num, range_all_snoc Hal.out Hpb.out, Hb.out.trans hb3⟩
              case measure => simp [intOf]; omega
          · obtain rfl : j = row.length := by omega
            go_wp2
            go_roundw
            case rel => exact ⟨k + 1, by omega, by go_num, range_all_snoc Hall.out (by rw [Hhr.out, Hnb.out, Hal.out]; rfl), hb⟩
            case measure => simp [intOf]; omega
    · obtain rfl : k = l.length := by omega
      go_wp2
      go_ret
      exact ⟨ret_true (by rw [Hhb.out, Hall.out]), Since.after Hb0.out hb⟩
set_option maxRecDepth 100000 in
set_option maxHeartbeats 8000000 in
theorem soHolds_any (pa pb ve vi vn vl : Value) (p : Prob) (n : Net) (l : List (List Int)) (w : World) (hp : PrIn w pa pb p) (h : NetIn w ve vi vn n) (hl : IntSS w vl l) (hn : netOk n = true) (hsh : Shape n.ends l) (hst : Strict p.edges) (hel : p.edges.length ≤ 1048576) (hrl : ∀ (v : Nat) (row : List Int), l[v]? = some row → row.length ≤ 1000000) :
    Calls Tryz.prog 160 #[.agg #[.int .i64 p.labels, .int .i64 p.degree, pa, pb], .agg #[ve, vi, vn], vl] w fun e w' => e = .returned (.bool (holdsB p n.ends l)) ∧ Below w.heap.size w w' := by
  obtain ⟨w0, hw0⟩ : ∃ w0, w0 = ((w).alloc (.cells #[.int .i64 p.labels, .int .i64 p.degree, pa, pb] 74)).alloc (.cells #[ve, vi, vn] 43) := ⟨_, rfl⟩
  have hb0 : Below w.heap.size w w0 := by rw [hw0]; exact (((Below.refl _ _).alloc (by simp <;> omega) _).alloc (by simp <;> omega) _)
  have H := Lib.hid (h.keep hb0)
  obtain ⟨h1, h2, h3⟩ := h.keep hb0
  obtain ⟨A, c, rfl, hlc, hm, hA⟩ := h1
  obtain ⟨A2, c2, rfl, _, hm2, _⟩ := h2
  obtain ⟨A3, c3, rfl, _, hm3, _⟩ := h3
  unfold maxLen at hm hm2 hm3
  have hkP := hp.keep hb0
  have HP := Lib.hid hkP
  obtain ⟨P0, pz0, rfl, hlP0, hmP0, hPe0⟩ := id hkP.1
  unfold maxLen at hmP0
  have HPe0 := Lib.hid hPe0
  clear hPe0
  obtain ⟨P1, pz1, rfl, hlP1, hmP1, hPe1⟩ := id hkP.2
  unfold maxLen at hmP1
  have HPe1 := Lib.hid hPe1
  clear hPe1
  clear hkP hp
  have p00 : ∀ W, Since w0 W → W.cell? ⟨w.heap.size, 0, none⟩ = some (.int .i64 p.labels) := have_cell (by rw [hw0]; simp)
  have p01 : ∀ W, Since w0 W → W.cell? ⟨w.heap.size, 1, none⟩ = some (.int .i64 p.degree) := have_cell (by rw [hw0]; simp)
  have p02 : ∀ W, Since w0 W → W.cell? ⟨w.heap.size, 2, none⟩ = some (.slice P0 p.nodes.length pz0) := have_cell (by rw [hw0]; simp)
  have p03 : ∀ W, Since w0 W → W.cell? ⟨w.heap.size, 3, none⟩ = some (.slice P1 p.edges.length pz1) := have_cell (by rw [hw0]; simp)
  have p10 : ∀ W, Since w0 W → W.cell? ⟨w.heap.size + 1, 0, none⟩ = some (.slice A n.ends.length c) := have_cell (by rw [hw0]; simp)
  have p11 : ∀ W, Since w0 W → W.cell? ⟨w.heap.size + 1, 1, none⟩ = some (.slice A2 n.ids.length c2) := have_cell (by rw [hw0]; simp)
  have p12 : ∀ W, Since w0 W → W.cell? ⟨w.heap.size + 1, 2, none⟩ = some (.slice A3 n.inputs.length c3) := have_cell (by rw [hw0]; simp)
  have Hb0 := Lib.hid hb0
  have Hw0 := Lib.hid hw0
  have HA := Lib.hid hA
  clear hA h
  clear hb0 hw0
  have HL := Lib.hid (hl.keep Hb0.out)
  obtain ⟨AL, cL, rfl, hlL, hmL, -⟩ := hl
  unfold maxLen at hmL
  have HPp := Lib.hid (show ∀ X, Since w0 X → PrIn X (.slice P0 p.nodes.length pz0) (.slice P1 p.edges.length pz1) p from fun X hX => HP.out.keep hX)
  have Hsh := Lib.hid hsh
  have Hst := Lib.hid hst
  have Hrl := Lib.hid hrl
  clear hsh hst hrl
  have Hhb : Hid (holdsB p n.ends l = (List.range l.length).all (holdsRow p n.ends l)) := rfl
  go_enter Tryz.func160, Tryz.ntmps160
  go_upto_region 1 with (fail)
  rw [← Hw0.out]
  have hs0 : Since w0 w0 := since_refl _
  go_wp2
  go_loopw [12] (fun i wr => ∃ k : Nat, k ≤ l.length ∧ i = .int .i64 k ∧ (List.range k).all (holdsRow p n.ends l) = true ∧ Since w0 wr) (fun i _ => l.length - (intOf i).toNat)
  case atStart => exact ⟨0, Nat.zero_le _, rfl, rfl, hs0⟩
  case round =>
    obtain ⟨k, hk, rfl, hall, hb⟩ := hrel
    have Hall := Lib.hid hall
    have Hb := Lib.hid hb
    clear hall hs0
    by_cases hlt : k < l.length
    · obtain ⟨row, b, off, A1, z1, hx, rfl, hc1, hz1, hz2, hxs⟩ := rows_get (HL.out.keep hb.below) hlt
      have Hrow := Lib.hid hx
      have Hxs := Lib.hid hxs
      have hr6 := Hrl.out k row hx
      have q1 := have_cell hc1
      have Hhr : Hid (holdsRow p n.ends l k = (nodeB p row && (List.range row.length).all fun i => portB p n.ends l ((k : Int), (i : Int)))) := by show _ = _; unfold holdsRow; rw [getD_of hx]
      clear hx hxs hc1
      cases hnb : nodeB p row
      · have Hnb := Lib.hid hnb
        have hno : Hid (holdsB p n.ends l = false) := by show _ = _; rw [Hhb.out]; exact range_all_no hlt (by rw [Hhr.out, hnb]; rfl)
        clear hnb
        have hq := q1 _ (since_refl _)
        go_wp2_with (go_at_call 161; refine (soNode_any _ _ _ p row _ (HPp.out _ Hb.out) Hxs.out hr6).mono ?_; rw [Hnb.out]; rintro e w2 ⟨rfl, hb2⟩)
        go_ret
        exact ⟨ret_false hno.out, Since.after Hb0.out (Hb.out.trans hb2)⟩
      · have Hnb := Lib.hid hnb
        have hq := q1 _ (since_refl _)
        clear hnb
        go_upto_region 6 with (go_at_call 161; refine (soNode_any _ _ _ p row _ (HPp.out _ Hb.out) Hxs.out hr6).mono ?_; rw [Hnb.out]; rintro e w2 ⟨rfl, hb2⟩)
        have hs2 : Since w0 w2 := Hb.out.trans hb2
        have q2 := lift_cell q1 hb2
        have hq2 := q2 _ (since_refl _)
        clear hb2 hq q1 hb
        go_wp2
        go_loopw [23] (fun i wr => ∃ j : Nat, j ≤ row.length ∧ i = .int .i64 j ∧ ((List.range j).all fun i => portB p n.ends l ((k : Int), (i : Int))) = true ∧ Since w0 wr) (fun i _ => row.length - (intOf i).toNat)
        case atStart => exact ⟨0, Nat.zero_le _, rfl, rfl, hs2⟩
        case round =>
          obtain ⟨j, hj, rfl, hal, hb⟩ := hrel
          have Hal := Lib.hid hal
          have Hb := Lib.hid hb
          clear hal hs2 hq2
          by_cases hjl : j < row.length
          · cases hpb : portB p n.ends l ((k : Int), (j : Int))
            · have Hpb := Lib.hid hpb
              have hno : Hid (holdsB p n.ends l = false) := by show _ = _; rw [Hhb.out]; exact range_all_no hlt (by rw [Hhr.out, range_all_no hjl hpb, Bool.and_false])
              clear hpb
              go_wp2_with (go_at_call 162; refine (soPort_any _ _ _ _ _ _ p n l k j row _ (HPp.out _ Hb.out) (H.out.keep Hb.out.below) (HL.out.keep Hb.out.below) hn Hsh.out Hst.out hel Hrow.out hjl).mono ?_; rw [Hpb.out]; rintro e w3 ⟨rfl, hb3⟩)
              go_ret
              exact ⟨ret_false hno.out, Since.after Hb0.out (Hb.out.trans hb3)⟩
            · have Hpb := Lib.hid hpb
              clear hpb
              go_wp2_with (go_at_call 162; refine (soPort_any _ _ _ _ _ _ p n l k j row _ (HPp.out _ Hb.out) (H.out.keep Hb.out.below) (HL.out.keep Hb.out.below) hn Hsh.out Hst.out hel Hrow.out hjl).mono ?_; rw [Hpb.out]; rintro e w3 ⟨rfl, hb3⟩)
              go_roundw
              case rel => exact ⟨j + 1, by omega, by go_num, range_all_snoc Hal.out Hpb.out, Hb.out.trans hb3⟩
              case measure => simp [intOf]; omega
          · obtain rfl : j = row.length := by omega
            go_wp2
            go_roundw
            case rel => exact ⟨k + 1, by omega, by go_num, range_all_snoc Hall.out (by rw [Hhr.out, Hnb.out, Hal.out]; rfl), hb⟩
            case measure => simp [intOf]; omega
    · obtain rfl : k = l.length := by omega
      go_wp2
      go_ret
      exact ⟨ret_true (by rw [Hhb.out, Hall.out]), Since.after Hb0.out hb⟩
end Go.Proofs.YtomnaabadohecaaGreat
namespace Go.Proofs.YtomnaabadohecaaGreat
open Go.RowKit
def repRow (x : Int) (N j : Nat) : List Value := List.replicate j (.int .i64 x) ++ List.replicate (N - j) (.int .i64 0)
theorem repRow_len {x : Int} {N j : Nat} (h : j ≤ N) : (repRow x N j).length = N := by simp [repRow]; omega
theorem repRow_splice {x : Int} {N j m : Nat} (h : j + m ≤ N) : splice (repRow x N j) j (List.replicate m (.int .i64 x)) = repRow x N (j + m) := by
  unfold splice repRow
  rw [List.take_append_of_le_length (by simp), List.take_replicate, Nat.min_self, List.length_replicate, List.drop_append, List.drop_replicate, List.length_replicate, List.drop_replicate, show j - (j + m) = 0 by omega, show N - j - (j + m - j) = N - (j + m) by omega, List.replicate_zero, List.nil_append, ← List.append_assoc, List.replicate_append_replicate]
theorem own_rep {w : World} {base g N : Nat} {x : Int} (h : w.heap[g]? = some (.cells (repRow x N N).toArray 3 (0, 0))) (hb : base ≤ g) (hN : N ≤ 1000000) : Own w base (.slice (some ⟨g, 0, none⟩) N N) (List.replicate N x) := by
  unfold Own
  refine ⟨by simp, .inr ⟨g, N, _, by simp, hb, h, by simp, by unfold maxLen; omega, by simp [repRow], ?_⟩⟩
  simp [repRow]
theorem repRow_cell {w : World} {g N j : Nat} {x : Int} (h : w.heap[g]? = some (.cells (repRow x N j).toArray 3 (0, 0))) {i : Nat} (hi : i < j) : w.cell? ⟨g, i, none⟩ = some (.int .i64 x) := by
  have : (repRow x N j)[i]? = some (.int .i64 x) := by
    unfold repRow
    rw [List.getElem?_append_left (by simpa using hi)]
    simp [hi]
  simp [World.cell?, h, this]
theorem rep_src {w : World} {b : Nat} {x : Int} (h : w.cell? ⟨b, 0, none⟩ = some (.int .i64 x)) {j : Nat} {v : Value} (hj : (List.replicate 1 (Value.int .i64 x))[j]? = some v) : w.cell? ((⟨b, 0, none⟩ : Addr).add j) = some v := by
  have h1 := lt_of_get hj
  simp at h1
  subst h1
  simp at hj
  subst hj
  rw [Go.Addr.add_lit]
  exact h
theorem rep_src2 {w : World} {g N j m : Nat} {x : Int} (h : w.heap[g]? = some (.cells (repRow x N j).toArray 3 (0, 0))) (hm : m ≤ j) {i : Nat} {v : Value} (hi : (List.replicate m (Value.int .i64 x))[i]? = some v) : w.cell? ((⟨g, 0, none⟩ : Addr).add i) = some v := by
  have h1 := lt_of_get hi
  rw [List.length_replicate] at h1
  rw [List.getElem?_replicate, if_pos h1] at hi
  rw [← Option.some.inj hi, Go.Addr.add_lit, Nat.zero_add]
  exact repRow_cell h (by omega)
set_option maxRecDepth 100000 in
set_option maxHeartbeats 4000000 in
theorem repeat1_any (b c : Nat) (x : Int) (N : Nat) (w : World) (hN : 1 ≤ N) (hN2 : N ≤ 1000000) (hc : w.cell? ⟨b, 0, none⟩ = some (.int .i64 x)) :
    Calls Tryz.prog 164 #[.slice (some ⟨b, 0, none⟩) 1 c, .int .i64 N] w fun e w' => ∃ u, e = .returned u ∧ Own w' w.heap.size u (List.replicate N x) ∧ Below w.heap.size w w' := by
  have e1 : IntKind.u64.wrap (N : Int) = N := IntWalk.u64_in _ (by omega)
  have hm := Tryz.bits_Mul 1 N (by omega) (by omega) w
  rw [show (1 * N / 18446744073709551616 : Nat) = 0 by omega, show (1 * N % 18446744073709551616 : Nat) = N by omega] at hm
  have Hm := Lib.hid hm
  have e2 : IntKind.i64.wrap (N : Int) = N := wr64 _ (by omega) (by omega)
  have m2 := run_mk_ints N hN2
  have Hc := Lib.hid hc
  have hn0 : ¬ ((N : Int) < 0) := by omega
  have hbig : ¬ (9223372036854775807 < (N : Int)) := by omega
  clear hm hc
  go_enter Tryz.func164, Tryz.ntmps164
  go_wp2_with fail
  refine Hm.out.mono ?_
  rintro e w1 ⟨rfl, rfl⟩
  have HG2 : Hid ((w1.alloc (.cells (Array.replicate N (Value.int .i64 0)) 3)).heap[w1.heap.size]? = some (.cells (repRow x N 0).toArray 3 (0, 0))) := by
    show (w1.heap.push _)[w1.heap.size]? = _
    rw [Array.getElem?_push_size]
    simp [repRow]
  go_wp2_with (refine wpList_copy_splice rfl _ _ 24 24 rfl 3 Tryz.underlying24 (by kernel_rfl) (some ⟨w1.heap.size, 0, none⟩) (some ⟨b, 0, none⟩) N N 1 c rfl rfl w1.heap.size 0 (repRow x N 0) 3 HG2.out (List.replicate 1 (.int .i64 x)) (by rw [List.length_replicate]; exact (Nat.min_eq_left hN).symm) (fun _ => ⟨rfl, _, rfl, fun j v hj => rep_src (bc (below_alloc _ _) Hc.out) hj⟩) (by rw [repRow_len (Nat.zero_le _), List.length_replicate]; omega) (by simp [Value.oneCell']) w1.heap.size w1 (below_alloc _ _) (Nat.le_refl _) ?_; intro w3 hg3 hb3)
  obtain ⟨g, hg⟩ : ∃ g, g = w1.heap.size := ⟨_, rfl⟩
  have Hg := Lib.hid hg
  rw [← hg] at hg3 ⊢
  clear hg
  have HG3 : Hid (w3.heap[g]? = some (.cells (repRow x N 1).toArray 3 (0, 0))) := by
    have := hg3.out
    rw [show List.replicate 1 (Value.int .i64 x) = List.replicate 1 (.int .i64 x) from rfl, repRow_splice (by omega)] at this
    exact this
  have HB3 := Lib.hid hb3
  clear hg3 hb3
  go_wp2
  go_loopw [8] (fun nv wr => ∃ j : Nat, 1 ≤ j ∧ j ≤ N ∧ nv = .int .i64 j ∧ wr.heap[g]? = some (.cells (repRow x N j).toArray 3 (0, 0)) ∧ Below w1.heap.size w1 wr) (fun nv _ => N - (intOf nv).toNat)
  case atStart => exact ⟨1, Nat.le_refl _, hN, rfl, HG3.out, HB3.out⟩
  case round =>
    obtain ⟨j, hj1, hj, rfl, hgr, hb⟩ := hrel
    have HG := Lib.hid hgr
    have HB := Lib.hid hb
    clear hgr hb
    by_cases hlt : j < N
    · obtain ⟨m, hm⟩ : ∃ m, m = min j (N - j) := ⟨_, rfl⟩
      have hm1 : 1 ≤ m := by omega
      have hm2 : j + m ≤ N := by omega
      have hmj : m ≤ j := by omega
      have hNj : ¬ N = j := by omega
      have Hmm := Lib.hid hm
      clear hm
      have m3 : IntKind.i64.wrap ((j : Int) + m) = (j : Int) + m := wr64 _ (by omega) (by omega)
      have hs0 : Since w1 wr := HB.out
      go_upto_region 9 with (fail)
      refine wp_region_chain0 (w0 := w1) 9 [false, false, false, false, false, false, false, true, true] (by kernel_rfl) (by kernel_rfl) (hs0) ?_
      simp only [selF, selT, List.take_succ_cons, List.take_zero, List.drop_succ_cons, List.drop_zero]
      refine pflow_val (v := ?_) rfl ?_ ?_; rotate_left; (intro W hW; go_simp; with_reducible rfl)
      simp only [Act.put, List.setIfInBounds_toArray, List.set_cons_succ, List.set_cons_zero]
      refine pflow_val (v := ?_) rfl ?_ ?_; rotate_left; (intro W hW; go_simp; with_reducible rfl)
      simp only [Act.put, List.setIfInBounds_toArray, List.set_cons_succ, List.set_cons_zero]
      refine pflow_val (v := ?_) rfl ?_ ?_; rotate_left; (intro W hW; go_simp; with_reducible rfl)
      simp only [Act.put, List.setIfInBounds_toArray, List.set_cons_succ, List.set_cons_zero]
      refine pflow_val (v := ?_) rfl ?_ ?_; rotate_left; (intro W hW; go_simp; with_reducible rfl)
      simp only [Act.put, List.setIfInBounds_toArray, List.set_cons_succ, List.set_cons_zero]
      refine pflow_val (v := ?_) rfl ?_ ?_; rotate_left; (intro W hW; go_simp; with_reducible rfl)
      simp only [Act.put, List.setIfInBounds_toArray, List.set_cons_succ, List.set_cons_zero]
      refine pflow_val (v := ?_) rfl ?_ ?_; rotate_left; (intro W hW; go_simp; with_reducible rfl)
      simp only [Act.put, List.setIfInBounds_toArray, List.set_cons_succ, List.set_cons_zero]
      refine pflow_val (v := ?_) rfl ?_ ?_; rotate_left; (intro W hW; go_simp; with_reducible rfl)
      simp only [Act.put, List.setIfInBounds_toArray, List.set_cons_succ, List.set_cons_zero]
      obtain ⟨W, hWd⟩ : ∃ W, W = World.drew wr := ⟨_, rfl⟩
      rw [← hWd]
      have hW : Since w1 W := by rw [hWd]; exact since_drew (hs0)
      refine tflow_of_wp (fun Q' HQ => ?_)
      (refine wpList_copy_splice rfl _ _ 24 24 rfl 3 Tryz.underlying24 (by kernel_rfl) (some ⟨g, j, none⟩) (some ⟨g, 0, none⟩) (N - j) (N - j) j N (by go_simp) (by go_simp) g j (repRow x N j) 3 (by rw [hWd]; exact HG.out) (List.replicate m (.int .i64 x)) (by rw [List.length_replicate]; exact Hmm.out) (fun _ => ⟨rfl, _, rfl, fun i v hi => rep_src2 (by rw [hWd]; exact HG.out) hmj hi⟩) (by rw [repRow_len hj]; simpa using hm2) (by simp [Value.oneCell']) w1.heap.size w1 hW (by rw [Hg.out]; exact Nat.le_refl _) ?_); intro w4 hg4 hb4; refine HQ _ _ hb4 ?_; replace hW : Since w1 w4 := hb4; simp only [List.length_replicate, goInt]
      (try simp only [Act.put, List.setIfInBounds_toArray, List.set_cons_succ, List.set_cons_zero])
      refine tflow_val (v := ?_) rfl ?_ hW ?_; rotate_left; (go_simp; with_reducible rfl)
      simp only [Act.put, List.setIfInBounds_toArray, List.set_cons_succ, List.set_cons_zero]
      simp only [TFlow]
      have HG4 : Hid (w4.heap[g]? = some (.cells (repRow x N (j + m)).toArray 3 (0, 0))) := by
        have := hg4.out
        rw [repRow_splice hm2] at this
        exact this
      have HB4 := Lib.hid hW
      clear hg4 hb4 hW hWd hs0
      go_wp2
      go_roundw
      case rel => exact ⟨j + m, by omega, hm2, by go_num, HG4.out, HB4.out⟩
      case measure => simp [intOf]; omega
    · obtain rfl : j = N := by omega
      go_wp2
      go_ret
      exact ⟨_, rfl, own_rep HG.out (by rw [Hg.out]; exact Nat.le_refl _) hN2, HB.out⟩
end Go.Proofs.YtomnaabadohecaaGreat
namespace Go.Proofs.YtomnaabadohecaaGreat
open Go.RowKit
/-- a row of rows, one row more -/
theorem OwnRows.snoc {β : Type} {R : World → Nat → Value → β → List Nat → Prop} {e : TypeId} (L : RowLaw R) {w w' : World} {base g cap : Nat} {v u : Value} {xs : List β} {x : β} {S T : List Nat} (h : OwnRows e R w base v xs S) (hu : R w base u x T) (hd : ∀ j ∈ T, j ∉ S)
    (vs : List Value) (Ss : List (List Nat)) (h1 : w.ownsRow base e 1 v xs.length vs) (h2 : Ss.length = xs.length) (h3 : ∀ (k : Nat) u x T, vs[k]? = some u → xs[k]? = some x → Ss[k]? = some T → R w base u x T) (h4 : S = v.ownBlock.toList ++ Ss.flatten) (h5 : S.Nodup)
    (q1 : w'.ownsRow base e 1 (.slice (some ⟨g, 0, none⟩) (xs.length + 1) cap) (xs.length + 1) (vs ++ [u])) (q2 : w.grownBy w' v.ownBlock) (q3 : v.ownBlock = some g ∨ g = w.heap.size) :
    ∃ S', OwnRows e R w' base (.slice (some ⟨g, 0, none⟩) (xs.length + 1) cap) (xs ++ [x]) S' ∧ (∀ j ∈ S', j ∈ S ∨ j ∈ T ∨ j = w.heap.size) := by
  have hS := (rows_law e L).range h
  have hTr := L.range hu
  have hvl : vs.length = xs.length := by simpa using h1.1
  have h5' := h5
  rw [h4, List.nodup_append] at h5'
  have hin : ∀ j ∈ Ss.flatten, j ∈ S := fun j hj => by rw [h4]; exact List.mem_append_right _ hj
  have hon := Only.of_grown q2
  have hnv : ∀ j ∈ Ss.flatten, j ∉ v.ownBlock.toList := fun j hj hv => h5'.2.2 j hv j hj rfl
  have hTv : ∀ j ∈ T, j ∉ v.ownBlock.toList := fun j hj hv => hd j hj (by rw [h4]; exact List.mem_append_left _ hv)
  have hg : g ∉ Ss.flatten := fun hg => by
    rcases q3 with q3 | q3
    · exact hnv g hg (by rw [q3]; simp)
    · have := (hS g (hin g hg)).2; omega
  have hgT : g ∉ T := fun hg => by
    rcases q3 with q3 | q3
    · exact hTv g hg (by rw [q3]; simp)
    · have := (hTr g hg).2; omega
  refine ⟨[g] ++ (Ss ++ [T]).flatten, ⟨vs ++ [u], Ss ++ [T], ?_, by simp [h2], ?_, by simp [Value.ownBlock], ?_⟩, ?_⟩
  · rw [List.length_append]; exact q1
  · intro k u' x' T' hu' hx' hT'
    rcases Nat.lt_or_ge k xs.length with hk | hk
    · rw [List.getElem?_append_left (by omega)] at hu' hx' hT'
      exact L.only (h3 k u' x' T' hu' hx' hT') hon (fun j hj => hnv j (List.mem_flatten.2 ⟨T', List.mem_of_getElem? hT', hj⟩))
    · have hk1 : k = xs.length := by
        have := lt_of_get hx'
        simp at this; omega
      subst hk1
      rw [List.getElem?_append_right (Nat.le_refl _), Nat.sub_self] at hx'
      rw [← hvl, List.getElem?_append_right (Nat.le_refl _), Nat.sub_self] at hu'
      rw [← h2, List.getElem?_append_right (Nat.le_refl _), Nat.sub_self] at hT'
      simp at hu' hx' hT'
      subst hu' hx' hT'
      exact L.only hu hon hTv
  · rw [List.flatten_append, List.nodup_append]
    refine ⟨by simp, ?_, ?_⟩
    · rw [List.nodup_append]
      refine ⟨h5'.2.1, by simpa using L.nodup hu, ?_⟩
      intro a ha b hb e
      simp at hb
      subst e
      exact hd a hb (hin a ha)
    · intro a ha b hb e
      simp at ha
      subst e ha
      rcases List.mem_append.1 hb with hb | hb
      · exact hg hb
      · simp at hb; exact hgT hb
  · intro j hj
    rw [List.flatten_append] at hj
    rcases List.mem_append.1 hj with hj | hj
    · simp at hj
      subst hj
      rcases q3 with q3 | q3
      · left; rw [h4, q3]; simp
      · exact .inr (.inr q3)
    · rcases List.mem_append.1 hj with hj | hj
      · exact .inl (hin j hj)
      · simp at hj; exact .inr (.inl hj)
theorem ss_info : (Tryz.prog.info? 24).map (fun i => (i.zero, i.size, i.bytes)) = some (some (.slice none 0 0), 1, 24) := by kernel_rfl
/-- append of a row to a table of integers -/
theorem app_rowII {w : World} {ops : Array Oper} {rest : List Oper} {o : Oper} {a : Act} {Q : Exit → Act → World → Prop} (hgd : o.guard = none) (s x : Operand)
    (ho : o.op = .call { callee := .builtin .append, args := #[s, x], argTypes := #[22, 22] }) {base : Nat} {v u : Value} {xss : List (List Int)} {S : List Nat} {xs : List Int} (hs : a.eval s = v) (h : OwnII w base v xss S)
    (b : Nat) (hx : a.eval x = .slice (some ⟨b, 0, none⟩) 1 1) (hc : w.cell? ⟨b, 0, none⟩ = some u) (hu : Own w base u xs) (hd : ∀ j, u.ownBlock = some j → j ∉ S) (hl : xss.length + 1 ≤ 4000000) (hbs : base ≤ w.heap.size)
    (k : ∀ g cap w' S', OwnII w' base (.slice (some ⟨g, 0, none⟩) (xss.length + 1) cap) (xss ++ [xs]) S' → Below base w w' → wpList Tryz.prog ops Q rest (a.put o.dst (.slice (some ⟨g, 0, none⟩) (xss.length + 1) cap)) w') : wpList Tryz.prog ops Q (o :: rest) a w := by
  obtain ⟨i0, hi, hz0, hz1, hz2⟩ := info_parts ss_info
  have hvr := lawII.range h
  have h1b := h
  obtain ⟨vs, Ss, r1, r2, r3, r4, r5⟩ := h
  obtain ⟨A, m, c, rfl⟩ := lawI.one (S := u.ownBlock.toList) ⟨hu, rfl⟩
  refine wpList_append_lies w hgd s x 22 ho base 24 i0 _ 1 24 Tryz.underlying22 hi hz0 hz1 hz2 rfl (by decide) v xss.length vs hs r1 ⟨b, 0, none⟩ 1 1 [.slice A m c] hx rfl
    (by intro j u hj; match j, hj with | 0, hj => (simp at hj; subst hj; simpa [Addr.add] using hc) | j + 1, hj => simp at hj) (by simp [Value.oneCell']) (by omega) (by unfold maxLen; omega) (by omega) hbs w.heap.size rfl ?_
  intro g cap w' q1 q2 q3 q4
  obtain ⟨S', o1, -⟩ := OwnRows.snoc lawI h1b (T := (Value.slice A m c).ownBlock.toList) ⟨hu, rfl⟩ (fun j hj => hd j (by simpa using hj)) vs Ss r1 r2 r3 r4 r5 q1 q2 q3
  exact k g cap w' S' o1 (Below.grown (Below.refl base w |>.mono (Nat.le_refl _)) q2 hbs (fun q hq => (hvr q (by rw [r4, hq]; simp)).1))
end Go.Proofs.YtomnaabadohecaaGreat
