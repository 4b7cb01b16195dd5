/- Parts of the proof: walks of functions and plain laws. -/
import Derived.Test.YtgmdpppljkmabaaGreatP0
import Derived.Test.YtgmdpppljkmabaaGreatP8
import Derived.Test.YtgmdpppljkmabaaGreatP11
import Derived.Test.YtgmdpppljkmabaaGreatP5
namespace Go.Proofs.YtgmdpppljkmabaaGreat
open Go.RowKit
set_option maxHeartbeats 4000000 in
theorem crossable_any (ve vi vn vl : Value) (n : Net) (ls : List Int) (v i x j : Int) (w : World) (h : NetIn w ve vi vn n) (hl : IntS w vl ls) (hok : netOk n = true) (hll : ls.length = n.ends.length) (hp : hasPortB n.ends v i = true) (hq : hasPortB n.ends x j = true) :
  Calls Tryz.prog 54 #[.agg #[ve, vi, vn], vl, .agg #[.int .i64 v, .int .i64 i], .agg #[.int .i64 x, .int .i64 j]] w fun e w' => e = .returned (.bool (hidB n.ends ls (v, i) (x, j))) ∧ Below w.heap.size w w' := by
 obtain ⟨w0, hw0⟩ : ∃ w0, w0 = (((w).alloc (.cells #[ve, vi, vn] 27)).alloc (.cells #[.int .i64 v, .int .i64 i] 83)).alloc (.cells #[.int .i64 x, .int .i64 j] 83) := ⟨_, rfl⟩
 have hb0 : Below w.heap.size w w0 := by rw [hw0]; exact ((((Below.refl _ _).alloc (by simp <;> omega) _).alloc (by simp <;> omega) _).alloc (by simp <;> omega) _)
 have H := Lib.hid (h.keep hb0)
 obtain ⟨h1, h2, h3⟩ := h.keep hb0
 obtain ⟨A, c, rfl, hlc, hm, hA⟩ := h1
 obtain ⟨A2, c2, rfl, _, hm2, _⟩ := h2
 obtain ⟨A3, c3, rfl, _, hm3, _⟩ := h3
 unfold maxLen at hm hm2 hm3
 have p00 : ∀ W, Since w0 W → W.cell? ⟨w.heap.size, 0, none⟩ = some (.slice A n.ends.length c) := have_cell (by rw [hw0]; simp [go_sem])
 have p01 : ∀ W, Since w0 W → W.cell? ⟨w.heap.size, 1, none⟩ = some (.slice A2 n.ids.length c2) := have_cell (by rw [hw0]; simp [go_sem])
 have p02 : ∀ W, Since w0 W → W.cell? ⟨w.heap.size, 2, none⟩ = some (.slice A3 n.inputs.length c3) := have_cell (by rw [hw0]; simp [go_sem])
 have p10 : ∀ W, Since w0 W → W.cell? ⟨w.heap.size + 1, 0, none⟩ = some (.int .i64 v) := have_cell (by rw [hw0]; simp [go_sem])
 have p11 : ∀ W, Since w0 W → W.cell? ⟨w.heap.size + 1, 1, none⟩ = some (.int .i64 i) := have_cell (by rw [hw0]; simp [go_sem])
 have p20 : ∀ W, Since w0 W → W.cell? ⟨w.heap.size + 1 + 1, 0, none⟩ = some (.int .i64 x) := have_cell (by rw [hw0]; simp [go_sem])
 have p21 : ∀ W, Since w0 W → W.cell? ⟨w.heap.size + 1 + 1, 1, none⟩ = some (.int .i64 j) := have_cell (by rw [hw0]; simp [go_sem])
 have Hb0 := Lib.hid hb0
 have Hw0 := Lib.hid hw0
 have HA := Lib.hid hA
 clear hA h
 clear hb0 hw0
 have Hp := Lib.hid hp
 have Hq := Lib.hid hq
 have hl0 := hl.keep Hb0.out
 obtain ⟨n1, n2⟩ := hasPort_lt (netOk_end hok hp).1
 obtain ⟨n3, n4⟩ := hasPort_lt (netOk_end hok hq).1
 obtain ⟨k1, j1, b, off, c', b1, off1, z1, es1, y1, y2, rfl, rfl, hA, hk1, -, hj1, -, hat1, hz1, hz1', hc1, hc2, hc3⟩ := port_at H.out.es hp
 cases hA
 obtain ⟨k2, j2, b', off', c', b2, off2, z2, es2, y3, y4, rfl, rfl, hA, hk2, -, hj2, -, hat2, hz2, hz2', hc4, hc5, hc6⟩ := port_at H.out.es hq
 cases hA
 rw [hat1] at n1 n2
 rw [hat2] at n3 n4
 simp only at n1 n2 n3 n4
 obtain ⟨m1, bl, ol, cl, g1, e1, rfl, hm1, -, hg1, hd1⟩ := lab_at hl0 (x := (k1 : Int)) (by omega) (by omega)
 obtain rfl : k1 = m1 := by omega
 obtain ⟨m2, bl', ol', cl', g2, e2, hA, hm2, -, hg2, hd2⟩ := lab_at hl0 (x := (k2 : Int)) (by omega) (by omega)
 obtain rfl : k2 = m2 := by omega
 cases hA
 obtain ⟨y1, bl', ol', cl', g3, rfl, hA, hm3, -, hg3, hd3⟩ := lab_at hl0 (x := y1) (by omega) (by omega)
 cases hA
 obtain ⟨y3, bl', ol', cl', g4, rfl, hA, hm4, -, hg4, hd4⟩ := lab_at hl0 (x := y3) (by omega) (by omega)
 cases hA
 have hr := Lib.hid (show hidB n.ends ls ((k1 : Int), (j1 : Int)) ((k2 : Int), (j2 : Int)) = (mayB n.ends ((k1 : Int), (j1 : Int)) ((k2 : Int), (j2 : Int)) && ((j1 : Int) == (j2 : Int)) && (y2 == y4) && (g1 == g2) && (g3 == g4)) by simp only [hidB, hat1, hat2, hg1, hg2, hg3, hg4])
 have r1 := have_cell hc1
 have r2 := have_cell hc2
 have r3 := have_cell hc3
 have r4 := have_cell hc4
 have r5 := have_cell hc5
 have r6 := have_cell hc6
 have t1 := have_cell hd1
 have t2 := have_cell hd2
 have t3 := have_cell hd3
 have t4 := have_cell hd4
 obtain ⟨_, _, hv, _, hmL, _⟩ := id hl0
 cases hv
 unfold maxLen at hmL
 clear hc1 hc2 hc3 hc4 hc5 hc6 hat1 hat2 hp hq hd1 hd2 hd3 hd4 hg1 hg2 hg3 hg4 hl hl0 e1 e2 hll
 go_enter Tryz.func54, Tryz.ntmps54
 go_upto_region 1 with (fail)
 rw [← Hw0.out]
 refine wp_region_two (w0 := w0) 20 9 10 20 30 83 y1 y2 y3 y4 (by kernel_rfl) (by kernel_rfl) rfl (since_refl _) ⟨_, _, _, rfl⟩ ⟨_, _, _, rfl⟩ ⟨_, _, _, rfl⟩ ⟨_, _, _, rfl⟩ (by decide) (by simp) (by simp) end_zero end_store ?_
 simp only [List.take_succ_cons, List.take_zero]
 refine pflow_val (v := ?_) rfl ?_ ?_; rotate_left; (intro W hW; go_simp; with_reducible rfl)
 simp only [zA]
 refine pflow_val (v := ?_) rfl ?_ ?_; rotate_left; (intro W hW; go_simp; with_reducible rfl)
 simp only [zA]
 refine pflow_val (v := ?_) rfl ?_ ?_; rotate_left; (intro W hW; go_simp; with_reducible rfl)
 simp only [zA]
 refine pflow_val (v := ?_) rfl ?_ ?_; rotate_left; (intro W hW; go_simp; with_reducible rfl)
 simp only [zA]
 refine pflow_val (v := ?_) rfl ?_ ?_; rotate_left; (intro W hW; go_simp; with_reducible rfl)
 simp only [zA]
 refine pflow_val (v := ?_) rfl ?_ ?_; rotate_left; (intro W hW; go_simp; with_reducible rfl)
 simp only [zA]
 refine pflow_val (v := ?_) rfl ?_ ?_; rotate_left; (intro W hW; go_simp; with_reducible rfl)
 simp only [zA]
 refine pflow_val (v := ?_) rfl ?_ ?_; rotate_left; (intro W hW; go_simp; with_reducible rfl)
 simp only [zA]
 refine pflow_val (v := ?_) rfl ?_ ?_; rotate_left; (intro W hW; go_simp; with_reducible rfl)
 simp only [zA]
 refine pflow_val (v := ?_) rfl ?_ ?_; rotate_left; (intro W hW; go_simp; with_reducible rfl)
 simp only [zA]
 refine pflow_val (v := ?_) rfl ?_ ?_; rotate_left; (intro W hW; go_simp; with_reducible rfl)
 simp only [zA]
 refine pflow_val (v := ?_) rfl ?_ ?_; rotate_left; (intro W hW; go_simp; with_reducible rfl)
 simp only [zA]
 refine pflow_val (v := ?_) rfl ?_ ?_; rotate_left; (intro W hW; go_simp; with_reducible rfl)
 simp only [zA]
 refine pflow_val (v := ?_) rfl ?_ ?_; rotate_left; (intro W hW; go_simp; with_reducible rfl)
 simp only [zA]
 refine pflow_val (v := ?_) rfl ?_ ?_; rotate_left; (intro W hW; go_simp; with_reducible rfl)
 simp only [zA]
 refine pflow_val (v := ?_) rfl ?_ ?_; rotate_left; (intro W hW; go_simp; with_reducible rfl)
 simp only [zA]
 refine pflow_val (v := ?_) rfl ?_ ?_; rotate_left; (intro W hW; go_simp; with_reducible rfl)
 simp only [zA]
 refine pflow_val (v := ?_) rfl ?_ ?_; rotate_left; (intro W hW; go_simp; with_reducible rfl)
 simp only [zA]
 refine pflow_val (v := ?_) rfl ?_ ?_; rotate_left; (intro W hW; go_simp; with_reducible rfl)
 simp only [zA]
 refine pflow_val (v := ?_) rfl ?_ ?_; rotate_left; (intro W hW; go_simp; with_reducible rfl)
 simp only [zA]
 refine ⟨rfl, rfl, ?_⟩
 intro b1' b2' W1 hW1 hE1 hE2
 simp only [zA]
 have q00 := lift_cell p00 hW1
 have q01 := lift_cell p01 hW1
 have q02 := lift_cell p02 hW1
 have q10 := lift_cell p10 hW1
 have q11 := lift_cell p11 hW1
 have q20 := lift_cell p20 hW1
 have q21 := lift_cell p21 hW1
 have s0 := have_cell hE1.cells.1
 have s1 := have_cell hE1.cells.2.1
 have s2 := have_cell hE2.cells.1
 have s3 := have_cell hE2.cells.2.1
 have t1 := lift_cell t1 hW1
 have t2 := lift_cell t2 hW1
 have t3 := lift_cell t3 hW1
 have t4 := lift_cell t4 hW1
 have HW1 := Lib.hid hW1
 clear hW1 hE1 hE2 p00 p01 p02 p10 p11 p20 p21 r1 r2 r3 r4 r5 r6
 unfold ptr
 go_upto_region 2 with (fail)
 refine wp_region_flow 45 (Since W1) (by kernel_rfl) (by kernel_rfl) (by simp) (since_drew (since_refl _)) ?_
 simp only [List.take_succ_cons, List.take_zero, List.drop_succ_cons, List.drop_zero]
 refine flow_val (v := ?_) rfl ?_ ?_; rotate_left; (intro W hW; go_simp; with_reducible rfl)
 simp only [zA]
 refine flow_val (v := ?_) rfl ?_ ?_; rotate_left; (intro W hW; go_simp; with_reducible rfl)
 simp only [zA]
 refine flow_val (v := ?_) rfl ?_ ?_; rotate_left; (intro W hW; go_simp; with_reducible rfl)
 simp only [zA]
 refine flow_op ?_ rfl ?_ ?_; rotate_left; (intro W hW; unfold Gives; go_simp; (with_reducible refine (canCross_any _ _ _ n _ _ _ _ W (H.out.keep (HW1.out.after hW).below) Hp.out Hq.out).mono ?_); rintro e W' ⟨rfl, hb3⟩; first | (refine ⟨?_, Since.trans hW hb3⟩; with_reducible rfl) | (subst hb3; refine ⟨?_, hW⟩; with_reducible rfl))
 simp only [zA]
 refine flow_val (v := ?_) rfl ?_ ?_; rotate_left; (intro W hW; go_simp; with_reducible rfl)
 simp only [zA]
 refine flow_gval (v := ?_) rfl rfl ?_ ?_; rotate_left; (intro hb; intro W hW; go_simp; with_reducible rfl)
 simp only [zA]
 refine flow_gval (v := ?_) rfl rfl ?_ ?_; rotate_left; (intro hb; intro W hW; go_simp; with_reducible rfl)
 simp only [zA]
 refine flow_gval (v := ?_) rfl rfl ?_ ?_; rotate_left; (intro hb; intro W hW; go_simp; with_reducible rfl)
 simp only [zA]
 refine flow_gval (v := ?_) rfl rfl ?_ ?_; rotate_left; (intro hb; intro W hW; go_simp; with_reducible rfl)
 simp only [zA]
 refine flow_gval (v := ?_) rfl rfl ?_ ?_; rotate_left; (intro hb; intro W hW; go_simp; with_reducible rfl)
 simp only [zA]
 first | refine flow_and rfl rfl ?_ | (refine flow_val (v := ?_) rfl ?_ ?_; rotate_left; (intro W hW; go_simp; with_reducible rfl))
 simp only [zA]
 refine flow_val (v := ?_) rfl ?_ ?_; rotate_left; (intro W hW; go_simp; with_reducible rfl)
 simp only [zA]
 refine flow_gval (v := ?_) rfl rfl ?_ ?_; rotate_left; (intro hb; intro W hW; go_simp; with_reducible rfl)
 simp only [zA]
 refine flow_gval (v := ?_) rfl rfl ?_ ?_; rotate_left; (intro hb; intro W hW; go_simp; with_reducible rfl)
 simp only [zA]
 refine flow_gval (v := ?_) rfl rfl ?_ ?_; rotate_left; (intro hb; intro W hW; go_simp; with_reducible rfl)
 simp only [zA]
 refine flow_gval (v := ?_) rfl rfl ?_ ?_; rotate_left; (intro hb; intro W hW; go_simp; with_reducible rfl)
 simp only [zA]
 refine flow_gval (v := ?_) rfl rfl ?_ ?_; rotate_left; (intro hb; intro W hW; go_simp; with_reducible rfl)
 simp only [zA]
 first | refine flow_and rfl rfl ?_ | (refine flow_val (v := ?_) rfl ?_ ?_; rotate_left; (intro W hW; go_simp; with_reducible rfl))
 simp only [zA]
 refine flow_val (v := ?_) rfl ?_ ?_; rotate_left; (intro W hW; go_simp; with_reducible rfl)
 simp only [zA]
 refine flow_gval (v := ?_) rfl rfl ?_ ?_; rotate_left; (intro hb; intro W hW; go_simp; with_reducible rfl)
 simp only [zA]
 refine flow_gval (v := ?_) rfl rfl ?_ ?_; rotate_left; (intro hb; intro W hW; go_simp; with_reducible rfl)
 simp only [zA]
 refine flow_gval (v := ?_) rfl rfl ?_ ?_; rotate_left; (intro hb; intro W hW; go_simp; with_reducible rfl)
 simp only [zA]
 refine flow_gval (v := ?_) rfl rfl ?_ ?_; rotate_left; (intro hb; intro W hW; go_simp; with_reducible rfl)
 simp only [zA]
 refine flow_gval (v := ?_) rfl rfl ?_ ?_; rotate_left; (intro hb; intro W hW; go_simp; with_reducible rfl)
 simp only [zA]
 refine flow_gval (v := ?_) rfl rfl ?_ ?_; rotate_left; (intro hb; intro W hW; go_simp; with_reducible rfl)
 simp only [zA]
 refine flow_gval (v := ?_) rfl rfl ?_ ?_; rotate_left; (intro hb; intro W hW; go_simp; with_reducible rfl)
 simp only [zA]
 refine flow_gval (v := ?_) rfl rfl ?_ ?_; rotate_left; (intro hb; intro W hW; go_simp; with_reducible rfl)
 simp only [zA]
 refine flow_gval (v := ?_) rfl rfl ?_ ?_; rotate_left; (intro hb; intro W hW; go_simp; with_reducible rfl)
 simp only [zA]
 refine flow_gval (v := ?_) rfl rfl ?_ ?_; rotate_left; (intro hb; intro W hW; go_simp; with_reducible rfl)
 simp only [zA]
 refine flow_gval (v := ?_) rfl rfl ?_ ?_; rotate_left; (intro hb; intro W hW; go_simp; with_reducible rfl)
 simp only [zA]
 first | refine flow_and rfl rfl ?_ | (refine flow_val (v := ?_) rfl ?_ ?_; rotate_left; (intro W hW; go_simp; with_reducible rfl))
 simp only [zA]
 refine flow_val (v := ?_) rfl ?_ ?_; rotate_left; (intro W hW; go_simp; with_reducible rfl)
 simp only [zA]
 refine flow_gval (v := ?_) rfl rfl ?_ ?_; rotate_left; (intro hb; intro W hW; go_simp; with_reducible rfl)
 simp only [zA]
 refine flow_gval (v := ?_) rfl rfl ?_ ?_; rotate_left; (intro hb; intro W hW; go_simp; with_reducible rfl)
 simp only [zA]
 refine flow_gval (v := ?_) rfl rfl ?_ ?_; rotate_left; (intro hb; intro W hW; go_simp; with_reducible rfl)
 simp only [zA]
 refine flow_gval (v := ?_) rfl rfl ?_ ?_; rotate_left; (intro hb; intro W hW; go_simp; with_reducible rfl)
 simp only [zA]
 refine flow_gval (v := ?_) rfl rfl ?_ ?_; rotate_left; (intro hb; intro W hW; go_simp; with_reducible rfl)
 simp only [zA]
 refine flow_gval (v := ?_) rfl rfl ?_ ?_; rotate_left; (intro hb; intro W hW; go_simp; with_reducible rfl)
 simp only [zA]
 refine flow_gval (v := ?_) rfl rfl ?_ ?_; rotate_left; (intro hb; intro W hW; go_simp; with_reducible rfl)
 simp only [zA]
 refine flow_gval (v := ?_) rfl rfl ?_ ?_; rotate_left; (intro hb; intro W hW; go_simp; with_reducible rfl)
 simp only [zA]
 refine flow_gval (v := ?_) rfl rfl ?_ ?_; rotate_left; (intro hb; intro W hW; go_simp; with_reducible rfl)
 simp only [zA]
 refine flow_gval (v := ?_) rfl rfl ?_ ?_; rotate_left; (intro hb; intro W hW; go_simp; with_reducible rfl)
 simp only [zA]
 refine flow_gval (v := ?_) rfl rfl ?_ ?_; rotate_left; (intro hb; intro W hW; go_simp; with_reducible rfl)
 simp only [zA]
 first | refine flow_and rfl rfl ?_ | (refine flow_val (v := ?_) rfl ?_ ?_; rotate_left; (intro W hW; go_simp; with_reducible rfl))
 simp only [zA]
 refine flow_val (v := ?_) rfl ?_ ?_; rotate_left; (intro W hW; go_simp; with_reducible rfl)
 simp only [zA]
 intro W2 hW2
 have HW := Lib.hid hW2
 clear hW2
 go_wp2
 go_ret
 exact ⟨ret_bool hr.out.symm, Since.after Hb0.out (HW1.out.after HW.out)⟩
end Go.Proofs.YtgmdpppljkmabaaGreat
namespace Go.Proofs.YtgmdpppljkmabaaGreat
open Go.RowKit
def crossOk (n : Net) (ls : List Int) (v i x j : Int) : Bool := netOk n && hasPortB n.ends v i && hasPortB n.ends x j && ((ls.length : Int) == (n.ends.length : Int))
def crossRes (n : Net) (ls : List Int) (v i x j : Int) : Value := .tuple #[.bool (crossOk n ls v i x j && hidB n.ends ls (v, i) (x, j)), .bool (crossOk n ls v i x j)]
set_option maxHeartbeats 4000000 in
theorem implIsCrossable_any (ve vi vn vl : Value) (n : Net) (ls : List Int) (v i x j : Int) (w : World) (h : NetIn w ve vi vn n) (hl : IntS w vl ls) (hsz : n.ids.length ≤ 17592186044416) :
  Calls Tryz.prog 12 #[.agg #[ve, vi, vn], vl, .int .i64 v, .int .i64 i, .int .i64 x, .int .i64 j] w fun e w' => e = .returned (crossRes n ls v i x j) ∧ Below w.heap.size w w' := by
 obtain ⟨w0, hw0⟩ : ∃ w0, w0 = (w).alloc (.cells #[ve, vi, vn] 27) := ⟨_, rfl⟩
 have hb0 : Below w.heap.size w w0 := by rw [hw0]; exact ((Below.refl _ _).alloc (by simp) _)
 have H := Lib.hid (h.keep hb0)
 obtain ⟨h1, h2, h3⟩ := h.keep hb0
 obtain ⟨A, c, rfl, hlc, hm, hA⟩ := h1
 obtain ⟨A2, c2, rfl, _, hm2, _⟩ := h2
 obtain ⟨A3, c3, rfl, _, hm3, _⟩ := h3
 unfold maxLen at hm hm2 hm3
 have p00 : ∀ W, Since w0 W → W.cell? ⟨w.heap.size, 0, none⟩ = some (.slice A n.ends.length c) := have_cell (by rw [hw0]; simp)
 have p01 : ∀ W, Since w0 W → W.cell? ⟨w.heap.size, 1, none⟩ = some (.slice A2 n.ids.length c2) := have_cell (by rw [hw0]; simp)
 have p02 : ∀ W, Since w0 W → W.cell? ⟨w.heap.size, 2, none⟩ = some (.slice A3 n.inputs.length c3) := have_cell (by rw [hw0]; simp)
 have Hb0 := Lib.hid hb0
 have Hw0 := Lib.hid hw0
 have HA := Lib.hid hA
 clear hA h
 clear hb0 hw0
 have HL := Lib.hid (hl.keep Hb0.out)
 obtain ⟨AL, cL, rfl, hlL, hmL, _⟩ := hl
 unfold maxLen at hmL
 go_enter Tryz.func12, Tryz.ntmps12
 go_upto_region 1 with (fail)
 rw [← Hw0.out]
 refine wp_region_flow0 25 (Since w0) (since_refl _) ?_
 simp only [List.take_succ_cons, List.take_zero, List.drop_succ_cons, List.drop_zero]
 refine flow_val (v := ?_) rfl ?_ ?_; rotate_left; (intro W hW; go_simp; with_reducible rfl)
 simp only [zA]
 refine flow_op ?_ rfl ?_ ?_; rotate_left; (intro W hW; unfold Gives; go_simp; (with_reducible refine (isNetwork_any _ _ _ n W (H.out.keep hW.below) hsz).mono ?_); rintro e W' ⟨rfl, hb3⟩; first | (refine ⟨?_, Since.trans hW hb3⟩; with_reducible rfl) | (subst hb3; refine ⟨?_, hW⟩; with_reducible rfl))
 simp only [zA]
 refine flow_val (v := ?_) rfl ?_ ?_; rotate_left; (intro W hW; go_simp; with_reducible rfl)
 simp only [zA]
 refine flow_val (v := ?_) rfl ?_ ?_; rotate_left; (intro W hW; go_simp; with_reducible rfl)
 simp only [zA]
 refine flow_gval (v := ?_) rfl rfl ?_ ?_; rotate_left; (intro hb; intro W hW; go_simp; with_reducible rfl)
 simp only [zA]
 refine flow_gval (v := ?_) rfl rfl ?_ ?_; rotate_left; (intro hb; intro W hW; go_simp; with_reducible rfl)
 simp only [zA]
 refine flow_gval (v := ?_) rfl rfl ?_ ?_; rotate_left; (intro hb; intro W hW; go_simp; with_reducible rfl)
 simp only [zA]
 refine flow_gval (v := ?_) rfl rfl ?_ ?_; rotate_left; (intro hb; intro W hW; go_simp; with_reducible rfl)
 simp only [zA]
 refine flow_gval (v := ?_) rfl rfl ?_ ?_; rotate_left; (intro hb; intro W hW; go_simp; with_reducible rfl)
 simp only [zA]
 refine flow_gval (v := ?_) rfl rfl ?_ ?_; rotate_left; (intro hb; intro W hW; go_simp; with_reducible rfl)
 simp only [zA]
 first | refine flow_or rfl rfl ?_ | (refine flow_val (v := ?_) rfl ?_ ?_; rotate_left; (intro W hW; go_simp; with_reducible rfl))
 simp only [zA]
 refine flow_val (v := ?_) rfl ?_ ?_; rotate_left; (intro W hW; go_simp; with_reducible rfl)
 simp only [zA]
 refine flow_gval (v := ?_) rfl rfl ?_ ?_; rotate_left; (intro hb; intro W hW; go_simp; with_reducible rfl)
 simp only [zA]
 refine flow_gval (v := ?_) rfl rfl ?_ ?_; rotate_left; (intro hb; intro W hW; go_simp; with_reducible rfl)
 simp only [zA]
 refine flow_gval (v := ?_) rfl rfl ?_ ?_; rotate_left; (intro hb; intro W hW; go_simp; with_reducible rfl)
 simp only [zA]
 refine flow_gop (v := ?_) rfl rfl ?_ ?_; rotate_left; (intro hb; intro W hW; unfold Gives; go_simp; (with_reducible refine (hasPort_any _ _ _ n.ends _ _ W (H.out.keep hW.below).es).mono ?_); rintro e W' ⟨rfl, hb3⟩; first | (refine ⟨?_, Since.trans hW hb3⟩; with_reducible rfl) | (subst hb3; refine ⟨?_, hW⟩; with_reducible rfl))
 simp only [zA]
 refine flow_gval (v := ?_) rfl rfl ?_ ?_; rotate_left; (intro hb; intro W hW; go_simp; with_reducible rfl)
 simp only [zA]
 first | refine flow_or rfl rfl ?_ | (refine flow_val (v := ?_) rfl ?_ ?_; rotate_left; (intro W hW; go_simp; with_reducible rfl))
 simp only [zA]
 refine flow_val (v := ?_) rfl ?_ ?_; rotate_left; (intro W hW; go_simp; with_reducible rfl)
 simp only [zA]
 refine flow_gval (v := ?_) rfl rfl ?_ ?_; rotate_left; (intro hb; intro W hW; go_simp; with_reducible rfl)
 simp only [zA]
 refine flow_gval (v := ?_) rfl rfl ?_ ?_; rotate_left; (intro hb; intro W hW; go_simp; with_reducible rfl)
 simp only [zA]
 refine flow_gval (v := ?_) rfl rfl ?_ ?_; rotate_left; (intro hb; intro W hW; go_simp; with_reducible rfl)
 simp only [zA]
 refine flow_gop (v := ?_) rfl rfl ?_ ?_; rotate_left; (intro hb; intro W hW; unfold Gives; go_simp; (with_reducible refine (hasPort_any _ _ _ n.ends _ _ W (H.out.keep hW.below).es).mono ?_); rintro e W' ⟨rfl, hb3⟩; first | (refine ⟨?_, Since.trans hW hb3⟩; with_reducible rfl) | (subst hb3; refine ⟨?_, hW⟩; with_reducible rfl))
 simp only [zA]
 refine flow_gval (v := ?_) rfl rfl ?_ ?_; rotate_left; (intro hb; intro W hW; go_simp; with_reducible rfl)
 simp only [zA]
 first | refine flow_or rfl rfl ?_ | (refine flow_val (v := ?_) rfl ?_ ?_; rotate_left; (intro W hW; go_simp; with_reducible rfl))
 simp only [zA]
 intro W hW
 cases hg : (!netOk n || ((ls.length : Int) != (n.ends.length : Int)) || !hasPortB n.ends v i || !hasPortB n.ends x j)
 ·simp only [Bool.or_eq_false_iff, Bool.not_eq_false', Bool.and_eq_true, bne_eq_false_iff_eq] at hg
  obtain ⟨⟨⟨g1, g4⟩, g2⟩, g3⟩ := hg
  have hr := Lib.hid (show crossRes n ls v i x j = .tuple #[.bool (hidB n.ends ls (v, i) (x, j)), .bool true] by simp [crossRes, crossOk, g1, g2, g3, g4])
  have G := Lib.hid (And.intro g1 (And.intro g2 (And.intro g3 (show ls.length = n.ends.length by omega))))
  clear g1 g2 g3 g4
  go_wp2_with fail
  have HW := Lib.hid hW
  refine (crossable_any _ _ _ _ n ls v i x j W (H.out.keep HW.out.below) (HL.out.keep HW.out.below) G.out.1 G.out.2.2.2 G.out.2.1 G.out.2.2.1).mono ?_
  rintro e w2 ⟨rfl, hb2⟩
  have HW2 := Lib.hid (HW.out.trans hb2)
  clear hb2 hW
  go_wp2
  go_ret2
  exact ⟨by rw [hr.out]; rfl, Since.after Hb0.out HW2.out⟩
 ·have hr := Lib.hid (show crossRes n ls v i x j = .tuple #[.bool false, .bool false] by
   simp only [Bool.or_eq_true, Bool.not_eq_true', Bool.and_eq_false_iff, bne_iff_ne, ne_eq] at hg
   rcases hg with ((hg | hg) | hg) | hg <;> simp [crossRes, crossOk, hg])
  have HW := Lib.hid hW
  clear hW hg
  go_wp2
  go_ret2
  exact ⟨by rw [hr.out]; rfl, Since.after Hb0.out HW.out⟩
end Go.Proofs.YtgmdpppljkmabaaGreat
namespace Go.Proofs.YtgmdpppljkmabaaGreat
open Go.RowKit
def NewNetB (w : World) (n : Net) (b : Bool) (e : Ending) (w' : World) : Prop := ∃ ue ui un S, e = .returned (.tuple #[.agg #[ue, ui, un], .bool b]) ∧ OwnNet w' w.heap.size ue ui un n S ∧ Below w.heap.size w w'
def crossEOk (n : Net) (v i x j : Int) : Bool := netOk n && hasPortB n.ends v i && hasPortB n.ends x j && mayB n.ends (v, i) (x, j)
def fnExactCrossEdges_d (n : Net) (v i x j : Int) : Net := if crossEOk n v i x j then { n with ends := crossE n v i x j } else ⟨[], [], []⟩
def fnExactCrossEdges_r1 (n : Net) (v i x j : Int) : Bool := crossEOk n v i x j
theorem cg1 {n : Net} {v i x j : Int} (h : (!nePortB n v i || !nePortB n x j) = false) : hasPortB n.ends v i = true ∧ hasPortB n.ends x j = true := by
 simp only [nePortB, Bool.or_eq_false_iff, Bool.not_eq_false', Bool.and_eq_true] at h
 exact ⟨h.1.2, h.2.2⟩
theorem ce_ok {n : Net} {v i x j : Int} (h : crossEOk n v i x j = true) : netOk n = true ∧ hasPortB n.ends v i = true ∧ hasPortB n.ends x j = true ∧ mayB n.ends (v, i) (x, j) = true := by
 unfold crossEOk at h
 simp only [Bool.and_eq_true] at h
 exact ⟨h.1.1.1, h.1.1.2, h.1.2, h.2⟩
set_option maxRecDepth 100000 in
set_option maxHeartbeats 8000000 in
theorem fnExactCrossEdges_spec (ve vi vn : Value) (n : Net) (v i x j : Int) (w : World) (h : NetIn w ve vi vn n) (_ : -9223372036854775808 ≤ v ∧ v ≤ 9223372036854775807) (_ : -9223372036854775808 ≤ i ∧ i ≤ 9223372036854775807) (_ : -9223372036854775808 ≤ x ∧ x ≤ 9223372036854775807) (_ : -9223372036854775808 ≤ j ∧ j ≤ 9223372036854775807) (hsz : szNet n ≤ 1048576) :
  Calls Tryz.prog 18 #[.agg #[ve, vi, vn], .int .i64 v, .int .i64 i, .int .i64 x, .int .i64 j] w (NewNetB w (fnExactCrossEdges_d n v i x j) (fnExactCrossEdges_r1 n v i x j)) := by
 have Hsz := Lib.hid hsz
 clear hsz
 obtain ⟨w0, hw0⟩ : ∃ w0, w0 = (w).alloc (.cells #[ve, vi, vn] 27) := ⟨_, rfl⟩
 have hb0 : Below w.heap.size w w0 := by rw [hw0]; exact ((Below.refl _ _).alloc (by simp) _)
 have H := Lib.hid (h.keep hb0)
 obtain ⟨h1, h2, h3⟩ := h.keep hb0
 obtain ⟨A, c, rfl, hlc, hm, hA⟩ := h1
 obtain ⟨A2, c2, rfl, _, hm2, _⟩ := h2
 obtain ⟨A3, c3, rfl, _, hm3, _⟩ := h3
 unfold maxLen at hm hm2 hm3
 have p00 : ∀ W, Since w0 W → W.cell? ⟨w.heap.size, 0, none⟩ = some (.slice A n.ends.length c) := have_cell (by rw [hw0]; simp)
 have p01 : ∀ W, Since w0 W → W.cell? ⟨w.heap.size, 1, none⟩ = some (.slice A2 n.ids.length c2) := have_cell (by rw [hw0]; simp)
 have p02 : ∀ W, Since w0 W → W.cell? ⟨w.heap.size, 2, none⟩ = some (.slice A3 n.inputs.length c3) := have_cell (by rw [hw0]; simp)
 have Hb0 := Lib.hid hb0
 have Hw0 := Lib.hid hw0
 have HA := Lib.hid hA
 clear hA h
 clear hb0 hw0
 obtain ⟨wa, hwa⟩ : ∃ wa, wa = w0.alloc (.cells #[.slice none 0 0, .slice none 0 0, .slice none 0 0] 27) := ⟨_, rfl⟩
 have hsa : Since w0 wa := by rw [hwa]; exact since_alloc _ (since_refl _)
 have h01 : w0.heap.size = w.heap.size + 1 := by rw [Hw0.out]; simp
 have Hza : Hid (wa.heap.size = w.heap.size + 1 + 1) := by show _ = _; rw [hwa, ← h01]; simp
 have HRb : Hid (∀ X, Since wa X → BoxN X (w.heap.size + 1) (.slice none 0 0) (.slice none 0 0) (.slice none 0 0)) := fun X hX => by
  refine BoxN.since (W := wa) ?_ hX
  rw [hwa, ← h01]
  show (w0.heap.push _)[w0.heap.size]? = _
  rw [Array.getElem?_push_size]
 clear h01
 have q00 := lift_cell p00 hsa
 have q01 := lift_cell p01 hsa
 have q02 := lift_cell p02 hsa
 have H' := Lib.hid (H.out.keep hsa.below)
 have Hwa := Lib.hid hwa
 have Hsa := Lib.hid hsa
 have h00 : Since wa wa := since_refl _
 clear hwa hsa p00 p01 p02
 go_enter Tryz.func18, Tryz.ntmps18
 go_upto_region 1 with (fail)
 rw [← Hw0.out, ← Hwa.out]
 refine wp_region_flow0 21 (Since wa) (h00) ?_
 simp only [List.take_succ_cons, List.take_zero, List.drop_succ_cons, List.drop_zero]
 refine flow_val (v := ?_) rfl ?_ ?_; rotate_left; (intro W hW; go_simp; with_reducible rfl)
 simp only [zA]
 refine flow_val (v := ?_) rfl ?_ ?_; rotate_left; (intro W hW; go_simp; with_reducible rfl)
 simp only [zA]
 refine flow_val (v := ?_) rfl ?_ ?_; rotate_left; (intro W hW; go_simp; with_reducible rfl)
 simp only [zA]
 refine flow_op ?_ rfl ?_ ?_; rotate_left; (intro W hW; unfold Gives; go_simp; (with_reducible refine (nePort_b _ _ _ n _ _ W (H'.out.keep hW.below)).mono ?_); rintro e W' ⟨rfl, hb3⟩; first | (refine ⟨?_, Since.trans hW hb3⟩; with_reducible rfl) | (subst hb3; refine ⟨?_, hW⟩; with_reducible rfl))
 simp only [zA]
 refine flow_val (v := ?_) rfl ?_ ?_; rotate_left; (intro W hW; go_simp; with_reducible rfl)
 simp only [zA]
 refine flow_val (v := ?_) rfl ?_ ?_; rotate_left; (intro W hW; go_simp; with_reducible rfl)
 simp only [zA]
 refine flow_gval (v := ?_) rfl rfl ?_ ?_; rotate_left; (intro hb; intro W hW; go_simp; with_reducible rfl)
 simp only [zA]
 refine flow_gval (v := ?_) rfl rfl ?_ ?_; rotate_left; (intro hb; intro W hW; go_simp; with_reducible rfl)
 simp only [zA]
 refine flow_gval (v := ?_) rfl rfl ?_ ?_; rotate_left; (intro hb; intro W hW; go_simp; with_reducible rfl)
 simp only [zA]
 refine flow_gop (v := ?_) rfl rfl ?_ ?_; rotate_left; (intro hb; intro W hW; unfold Gives; go_simp; (with_reducible refine (nePort_b _ _ _ n _ _ W (H'.out.keep hW.below)).mono ?_); rintro e W' ⟨rfl, hb3⟩; first | (refine ⟨?_, Since.trans hW hb3⟩; with_reducible rfl) | (subst hb3; refine ⟨?_, hW⟩; with_reducible rfl))
 simp only [zA]
 refine flow_gval (v := ?_) rfl rfl ?_ ?_; rotate_left; (intro hb; intro W hW; go_simp; with_reducible rfl)
 simp only [zA]
 first | refine flow_or rfl rfl ?_ | (refine flow_val (v := ?_) rfl ?_ ?_; rotate_left; (intro W hW; go_simp; with_reducible rfl))
 simp only [zA]
 refine flow_val (v := ?_) rfl ?_ ?_; rotate_left; (intro W hW; go_simp; with_reducible rfl)
 simp only [zA]
 refine flow_gval (v := ?_) rfl rfl ?_ ?_; rotate_left; (intro hb; intro W hW; go_simp; with_reducible rfl)
 simp only [zA]
 refine flow_gval (v := ?_) rfl rfl ?_ ?_; rotate_left; (intro hb; intro W hW; go_simp; with_reducible rfl)
 simp only [zA]
 refine flow_gval (v := ?_) rfl rfl ?_ ?_; rotate_left; (intro hb; intro W hW; go_simp; with_reducible rfl)
 simp only [zA]
 refine flow_gval (v := ?_) rfl rfl ?_ ?_; rotate_left; (intro hb; intro W hW; go_simp; with_reducible rfl)
 simp only [zA]
 refine flow_gval (v := ?_) rfl rfl ?_ ?_; rotate_left; (intro hb; intro W hW; go_simp; with_reducible rfl)
 simp only [zA]
 refine flow_gop (v := ?_) rfl rfl ?_ ?_; rotate_left; (intro hb; intro W hW; unfold Gives; go_simp; (with_reducible refine (atMay_any _ _ _ n v i x j W (H'.out.keep hW.below) (cg1 hb).1 (cg1 hb).2).mono ?_); rintro e W' ⟨rfl, hb3⟩; first | (refine ⟨?_, Since.trans hW hb3⟩; with_reducible rfl) | (subst hb3; refine ⟨?_, hW⟩; with_reducible rfl))
 simp only [zA]
 refine flow_gval (v := ?_) rfl rfl ?_ ?_; rotate_left; (intro hb; intro W hW; go_simp; with_reducible rfl)
 simp only [zA]
 first | refine flow_or rfl rfl ?_ | (refine flow_val (v := ?_) rfl ?_ ?_; rotate_left; (intro W hW; go_simp; with_reducible rfl))
 simp only [zA]
 intro W hW
 cases hg : (!nePortB n v i || !nePortB n x j || !mayB n.ends (v, i) (x, j))
 ·have hok : crossEOk n v i x j = true := by
   simp only [nePortB, Bool.or_eq_false_iff, Bool.not_eq_false', Bool.and_eq_true] at hg
   simp [crossEOk, hg]
  have Hok := Lib.hid hok
  have HW := Lib.hid hW
  clear hok
  go_wp2_with fail
  refine (atCross_any _ _ _ n v i x j W (H'.out.keep HW.out.below) (ce_ok Hok.out).1 Hsz.out (ce_ok Hok.out).2.1 (ce_ok Hok.out).2.2.1).mono ?_
  rintro e w2 ⟨ue, ui, un, S, rfl, hon, hb2⟩
  obtain ⟨AE, cE, rfl, _⟩ := id hon.read.1
  obtain ⟨AI, cI, rfl, _⟩ := id hon.read.2.1
  obtain ⟨AN, cN, rfl, _⟩ := id hon.read.2.2
  have HS2 := Lib.hid (HW.out.trans hb2)
  have HO := Lib.hid hon
  obtain ⟨d0, d1, d2, f0, f1, f2⟩ := (HRb.out w2 HS2.out).box.cells
  obtain ⟨l1, hl1⟩ : ∃ l, l = ({ n with ends := crossE n v i x j } : Net).ends.length := ⟨_, rfl⟩
  simp only [← hl1]
  have Hl1 := Lib.hid hl1
  clear hb2 hon hW hg h00 q00 q01 q02 hl1
  go_wp2
  refine bodyPost_ret (v := .tuple #[.agg #[.slice AE l1 cE, .slice AI n.ids.length cI, .slice AN n.inputs.length cN], .bool true]) (by simp [results, Tryz.results18, go_sem, *]) rfl ?_
  refine ⟨_, _, _, S, by unfold fnExactCrossEdges_r1; rw [Hok.out], ?_, ?_⟩
  ·unfold fnExactCrossEdges_d
   rw [if_pos Hok.out, Hl1.out]
   have hx := HO.out
   refine (hx.stable (fun j hj => ?_)).mono (Nat.le_trans (Nat.le_trans Hb0.out.size Hsa.out.below.size) HW.out.below.size)
   have hj1 := (hx.range j hj).1
   have hj2 := Hza.out
   have hj3 := HW.out.below.size
   rw [Below.heap_setCell _ _ _ j (by simp; omega), Below.heap_setCell _ _ _ j (by simp; omega), Below.heap_setCell _ _ _ j (by simp; omega)]
  ·exact (((Below.trans Hb0.out ((Hsa.out.after HS2.out).below.mono Hb0.out.size)).setCell (by simp) _).setCell (by simp) _).setCell (by simp) _
 ·have hok : crossEOk n v i x j = false := by
   cases h : crossEOk n v i x j with
   | false => rfl
   | true =>
    obtain ⟨a1, a2, a3, a4⟩ := ce_ok h
    rw [nePortB, nePortB, a1, a2, a3, a4] at hg
    simp at hg
  have Hok := Lib.hid hok
  have HS2 := Lib.hid hW
  obtain ⟨d0, d1, d2, f0, f1, f2⟩ := (HRb.out W HS2.out).box.cells
  clear hok hg hW h00 q00 q01 q02
  go_wp2
  refine bodyPost_ret (v := .tuple #[.agg #[.slice none 0 0, .slice none 0 0, .slice none 0 0], .bool false]) (by simp [results, Tryz.results18, go_sem, *]) rfl ?_
  refine ⟨_, _, _, [], by unfold fnExactCrossEdges_r1; rw [Hok.out], ?_, ?_⟩
  ·unfold fnExactCrossEdges_d
   rw [if_neg (by rw [Hok.out]; simp)]
   exact ownNet_nil _ _
  ·exact (((Below.trans Hb0.out ((Hsa.out.after HS2.out).below.mono Hb0.out.size)).setCell (by simp) _).setCell (by simp) _).setCell (by simp) _
end Go.Proofs.YtgmdpppljkmabaaGreat
namespace Go.Proofs.YtgmdpppljkmabaaGreat
open Go.RowKit
/-! crossing crossable edges changes no verdict; crossing them again gives the network back (plain law) -/
theorem hasPort_iff {ess : List (List (Int × Int))} {v i : Int} : hasPortB ess v i = true ↔ 0 ≤ v ∧ v < ess.length ∧ 0 ≤ i ∧ i < ((ess.getD v.toNat []).length : Int) := by
 unfold hasPortB
 rw [Bool.and_eq_true, inB_iff, inB_iff]
 omega
theorem endAt_put {ess : List (List (Int × Int))} {p q : Int × Int} (hp : hasPortB ess p.1 p.2 = true) (v i : Int) (hv : 0 ≤ v) (hi : 0 ≤ i) : endAt (putEnd ess p q) v i = if (v, i) = p then q else endAt ess v i := by
 obtain ⟨h1, h2, h3, h4⟩ := hasPort_iff.1 hp
 unfold endAt putEnd
 by_cases hvp : p.1.toNat = v.toNat
 ·have e1 : p.1 = v := by omega
  have hl : v.toNat < ess.length := by omega
  rw [hvp] at h4 ⊢
  rw [List.getD_eq_getElem?_getD (i := v.toNat), List.getElem?_set_self hl]
  simp only [Option.getD_some]
  by_cases hip : p.2.toNat = i.toNat
  ·have e2 : p.2 = i := by omega
   rw [if_pos (Prod.ext e1.symm e2.symm), hip, List.getD_eq_getElem?_getD, List.getElem?_set_self (by omega)]
   rfl
  ·rw [if_neg (fun e => hip (by rw [← e])), List.getD_eq_getElem?_getD, List.getElem?_set_ne hip, ← List.getD_eq_getElem?_getD]
 ·rw [if_neg (fun e => hvp (by rw [← e])), List.getD_eq_getElem?_getD (i := v.toNat), List.getElem?_set_ne hvp, ← List.getD_eq_getElem?_getD]
theorem rows_ext {a b : List (List (Int × Int))} (hl : a.length = b.length) (hr : ∀ k, (a.getD k []).length = (b.getD k []).length) (he : ∀ v i, hasPortB a v i = true → endAt a v i = endAt b v i) : a = b := by
 apply List.ext_getElem hl
 intro k h1 h2
 have g1 : a.getD k [] = a[k] := by simp [List.getD_eq_getElem?_getD, h1]
 have g2 : b.getD k [] = b[k] := by simp [List.getD_eq_getElem?_getD, h2]
 apply List.ext_getElem
 ·rw [← g1, ← g2]; exact hr k
 ·intro j j1 j2
  have := he (k : Int) (j : Int) (hasPort_iff.2 ⟨by omega, by omega, by omega, by rw [Int.toNat_natCast, g1]; omega⟩)
  unfold endAt at this
  rw [Int.toNat_natCast, Int.toNat_natCast, g1, g2] at this
  simpa [List.getD_eq_getElem?_getD, j1, j2] using this
structure MayX (n : Net) (p q : Int × Int) : Prop where
 ok : netOk n = true
 hp : hasPortB n.ends p.1 p.2 = true
 hq : hasPortB n.ends q.1 q.2 = true
 n1 : p ≠ q
 n2 : endAt n.ends p.1 p.2 ≠ q
 n3 : endAt n.ends p.1 p.2 ≠ p
 n4 : endAt n.ends q.1 q.2 ≠ q
theorem mayX_of {n : Net} {p q : Int × Int} (h : crossEOk n p.1 p.2 q.1 q.2 = true) : MayX n p q := by
 unfold crossEOk mayB eqE at h
 simp only [Bool.and_eq_true, Bool.not_eq_true', decide_eq_false_iff_not] at h
 obtain ⟨⟨⟨h1, h2⟩, h3⟩, ⟨⟨h4, h5⟩, h6⟩, h7⟩ := h
 exact ⟨h1, h2, h3, h4, h5, h6, h7⟩
theorem MayX.iff {n : Net} {p q : Int × Int} (h : MayX n p q) : crossEOk n p.1 p.2 q.1 q.2 = true := by
 unfold crossEOk mayB eqE
 simp only [Bool.and_eq_true, Bool.not_eq_true', decide_eq_false_iff_not]
 exact ⟨⟨⟨h.ok, h.hp⟩, h.hq⟩, ⟨⟨h.n1, h.n2⟩, h.n3⟩, h.n4⟩
theorem MayX.ea {n : Net} {p q : Int × Int} (h : MayX n p q) : hasPortB n.ends (endAt n.ends p.1 p.2).1 (endAt n.ends p.1 p.2).2 = true ∧ endAt n.ends (endAt n.ends p.1 p.2).1 (endAt n.ends p.1 p.2).2 = p := netOk_end h.ok h.hp
theorem MayX.eb {n : Net} {p q : Int × Int} (h : MayX n p q) : hasPortB n.ends (endAt n.ends q.1 q.2).1 (endAt n.ends q.1 q.2).2 = true ∧ endAt n.ends (endAt n.ends q.1 q.2).1 (endAt n.ends q.1 q.2).2 = q := netOk_end h.ok h.hq
theorem MayX.n5 {n : Net} {p q : Int × Int} (h : MayX n p q) : endAt n.ends q.1 q.2 ≠ p := fun e => by
 have := h.eb.2
 rw [e] at this
 exact h.n2 this
theorem MayX.n6 {n : Net} {p q : Int × Int} (h : MayX n p q) : endAt n.ends p.1 p.2 ≠ endAt n.ends q.1 q.2 := fun e => by
 have h1 := h.ea.2
 have h2 := h.eb.2
 rw [e] at h1
 exact h.n1 (h1.symm.trans h2)
theorem MayX.port {n : Net} {p q : Int × Int} (_ : MayX n p q) (v i : Int) : hasPortB (crossE n p.1 p.2 q.1 q.2) v i = hasPortB n.ends v i := by
 unfold crossE
 simp only [putEnd_port]
theorem MayX.len {n : Net} {p q : Int × Int} (_ : MayX n p q) : (crossE n p.1 p.2 q.1 q.2).length = n.ends.length := by
 unfold crossE
 simp only [putEnd_len]
theorem MayX.row {n : Net} {p q : Int × Int} (_ : MayX n p q) (k : Nat) : ((crossE n p.1 p.2 q.1 q.2).getD k []).length = (n.ends.getD k []).length := by
 unfold crossE
 simp only [putEnd_row]
theorem MayX.at_ {n : Net} {p q : Int × Int} (h : MayX n p q) (v i : Int) (hv : 0 ≤ v) (hi : 0 ≤ i) : endAt (crossE n p.1 p.2 q.1 q.2) v i =
  if (v, i) = endAt n.ends p.1 p.2 then q else if (v, i) = q then endAt n.ends p.1 p.2 else if (v, i) = endAt n.ends q.1 q.2 then p else if (v, i) = p then endAt n.ends q.1 q.2 else endAt n.ends v i := by
 have ha := h.ea.1
 have hb := h.eb.1
 have hp := h.hp
 have hq := h.hq
 unfold crossE
 rw [endAt_put (by simp only [putEnd_port]; exact ha) v i hv hi, endAt_put (by simp only [putEnd_port]; exact hq) v i hv hi, endAt_put (by simp only [putEnd_port]; exact hb) v i hv hi, endAt_put (by exact hp) v i hv hi]
def crossN (n : Net) (p q : Int × Int) : Net := { n with ends := crossE n p.1 p.2 q.1 q.2 }
theorem netOk_iff {n : Net} : netOk n = true ↔ (1 ≤ n.ends.length ∧ n.ends.length ≤ 40) ∧ idsB n.ids n.ends.length = true ∧ inputsB n.inputs n.ends.length = true ∧ (∀ k, k < n.ends.length → (n.ends.getD k []).length ≤ 6) ∧
  ∀ v i, hasPortB n.ends v i = true → hasPortB n.ends (endAt n.ends v i).1 (endAt n.ends v i).2 = true ∧ endAt n.ends (endAt n.ends v i).1 (endAt n.ends v i).2 = (v, i) := by
 constructor
 ·intro h
  refine ⟨netOk_len h, ?_, ?_, ?_, fun v i hp => netOk_end h hp⟩
  ·unfold netOk at h; simp only [Bool.and_eq_true] at h; exact h.1.1.2
  ·unfold netOk at h; simp only [Bool.and_eq_true] at h; exact h.1.2
  ·intro k hk
   obtain ⟨es, hes⟩ := getx n.ends k hk
   rw [getD_of hes]
   exact (netOk_row h hes).1
 ·rintro ⟨h1, h2, h3, h4, h5⟩
  unfold netOk
  simp only [Bool.and_eq_true, List.all_eq_true, List.mem_range, inB_iff]
  refine ⟨⟨⟨by omega, h2⟩, h3⟩, fun k hk => ?_⟩
  unfold rowOkB endOkB
  simp only [Bool.and_eq_true, List.all_eq_true, List.mem_range, decide_eq_true_eq]
  refine ⟨h4 k hk, fun i hi => ?_⟩
  have := h5 (k : Int) (i : Int) (hasPort_iff.2 ⟨by omega, by omega, by omega, by rw [Int.toNat_natCast]; omega⟩)
  unfold endAt at this
  rw [Int.toNat_natCast, Int.toNat_natCast] at this
  exact ⟨this.1, by unfold eqE; exact decide_eq_true this.2⟩
theorem hasPort_pos {ess : List (List (Int × Int))} {p : Int × Int} (h : hasPortB ess p.1 p.2 = true) : 0 ≤ p.1 ∧ 0 ≤ p.2 := by
 have := hasPort_iff.1 h
 omega
theorem MayX.at_p {n : Net} {p q : Int × Int} (h : MayX n p q) : endAt (crossE n p.1 p.2 q.1 q.2) p.1 p.2 = endAt n.ends q.1 q.2 := by
 obtain ⟨a, b⟩ := hasPort_pos h.hp
 rw [h.at_ _ _ a b, if_neg (fun e => h.n3 e.symm), if_neg (fun e => h.n1 e), if_neg (fun e => h.n5 e.symm), if_pos rfl]
theorem MayX.at_q {n : Net} {p q : Int × Int} (h : MayX n p q) : endAt (crossE n p.1 p.2 q.1 q.2) q.1 q.2 = endAt n.ends p.1 p.2 := by
 obtain ⟨a, b⟩ := hasPort_pos h.hq
 rw [h.at_ _ _ a b, if_neg (fun e => h.n2 e.symm), if_pos rfl]
theorem MayX.at_ea {n : Net} {p q : Int × Int} (h : MayX n p q) : endAt (crossE n p.1 p.2 q.1 q.2) (endAt n.ends p.1 p.2).1 (endAt n.ends p.1 p.2).2 = q := by
 obtain ⟨a, b⟩ := hasPort_pos h.ea.1
 rw [h.at_ _ _ a b, if_pos rfl]
theorem MayX.at_eb {n : Net} {p q : Int × Int} (h : MayX n p q) : endAt (crossE n p.1 p.2 q.1 q.2) (endAt n.ends q.1 q.2).1 (endAt n.ends q.1 q.2).2 = p := by
 obtain ⟨a, b⟩ := hasPort_pos h.eb.1
 rw [h.at_ _ _ a b, if_neg (fun e => h.n6 e.symm), if_neg (fun e => h.n4 e), if_pos rfl]
theorem MayX.ok2 {n : Net} {p q : Int × Int} (h : MayX n p q) : netOk (crossN n p q) = true := by
 obtain ⟨k1, k2, k3, k4, k5⟩ := netOk_iff.1 h.ok
 refine netOk_iff.2 ⟨?_, ?_, ?_, ?_, ?_⟩
 ·show 1 ≤ (crossE n p.1 p.2 q.1 q.2).length ∧ (crossE n p.1 p.2 q.1 q.2).length ≤ 40; rw [h.len]; exact k1
 ·show idsB n.ids (((crossE n p.1 p.2 q.1 q.2).length : Nat) : Int) = true; rw [h.len]; exact k2
 ·show inputsB n.inputs (((crossE n p.1 p.2 q.1 q.2).length : Nat) : Int) = true; rw [h.len]; exact k3
 ·intro k hk
  show ((crossE n p.1 p.2 q.1 q.2).getD k []).length ≤ 6
  rw [h.row]
  exact k4 k (by have : (crossN n p q).ends.length = n.ends.length := h.len; omega)
 ·intro v i hp
  show hasPortB (crossE n p.1 p.2 q.1 q.2) (endAt (crossE n p.1 p.2 q.1 q.2) v i).1 (endAt (crossE n p.1 p.2 q.1 q.2) v i).2 = true ∧ endAt (crossE n p.1 p.2 q.1 q.2) (endAt (crossE n p.1 p.2 q.1 q.2) v i).1 (endAt (crossE n p.1 p.2 q.1 q.2) v i).2 = (v, i)
  have hp : hasPortB n.ends v i = true := (h.port v i).symm.trans hp
  obtain ⟨a, b⟩ := hasPort_pos (p := (v, i)) hp
  rw [h.port]
  by_cases e1 : (v, i) = endAt n.ends p.1 p.2
  ·rw [show v = (endAt n.ends p.1 p.2).1 from congrArg Prod.fst e1, show i = (endAt n.ends p.1 p.2).2 from congrArg Prod.snd e1, h.at_ea]
   exact ⟨h.hq, h.at_q⟩
  ·by_cases e2 : (v, i) = q
   ·rw [show v = q.1 from congrArg Prod.fst e2, show i = q.2 from congrArg Prod.snd e2, h.at_q]
    exact ⟨h.ea.1, h.at_ea⟩
   ·by_cases e3 : (v, i) = endAt n.ends q.1 q.2
    ·rw [show v = (endAt n.ends q.1 q.2).1 from congrArg Prod.fst e3, show i = (endAt n.ends q.1 q.2).2 from congrArg Prod.snd e3, h.at_eb]
     exact ⟨h.hp, h.at_p⟩
    ·by_cases e4 : (v, i) = p
     ·rw [show v = p.1 from congrArg Prod.fst e4, show i = p.2 from congrArg Prod.snd e4, h.at_p]
      exact ⟨h.eb.1, h.at_eb⟩
     ·have h0 : endAt (crossE n p.1 p.2 q.1 q.2) v i = endAt n.ends v i := by rw [h.at_ v i a b, if_neg e1, if_neg e2, if_neg e3, if_neg e4]
      rw [h0]
      obtain ⟨z1, z2⟩ := k5 v i hp
      refine ⟨z1, ?_⟩
      obtain ⟨a', b'⟩ := hasPort_pos z1
      rw [h.at_ _ _ a' b', if_neg, if_neg, if_neg, if_neg]
      ·exact z2
      ·intro e; rw [show endAt n.ends v i = p from e] at z2; exact e1 z2.symm
      ·intro e; rw [show endAt n.ends v i = endAt n.ends q.1 q.2 from e, h.eb.2] at z2; exact e2 z2.symm
      ·intro e; rw [show endAt n.ends v i = q from e] at z2; exact e3 z2.symm
      ·intro e; rw [show endAt n.ends v i = endAt n.ends p.1 p.2 from e, h.ea.2] at z2; exact e4 z2.symm
theorem MayX.again {n : Net} {p q : Int × Int} (h : MayX n p q) : MayX (crossN n p q) p q := by
 refine ⟨h.ok2, (h.port _ _).trans h.hp, (h.port _ _).trans h.hq, h.n1, ?_, ?_, ?_⟩
 ·show endAt (crossE n p.1 p.2 q.1 q.2) p.1 p.2 ≠ q; rw [h.at_p]; exact h.n4
 ·show endAt (crossE n p.1 p.2 q.1 q.2) p.1 p.2 ≠ p; rw [h.at_p]; exact h.n5
 ·show endAt (crossE n p.1 p.2 q.1 q.2) q.1 q.2 ≠ q; rw [h.at_q]; exact h.n2
theorem MayX.back {n : Net} {p q : Int × Int} (h : MayX n p q) : crossN (crossN n p q) p q = n := by
 have e : crossE (crossN n p q) p.1 p.2 q.1 q.2 = n.ends := by
  apply rows_ext
  ·rw [h.again.len]; exact h.len
  ·intro k; rw [h.again.row]; exact h.row k
  ·intro v i hp
   have hp1 : hasPortB (crossE n p.1 p.2 q.1 q.2) v i = true := (h.again.port v i).symm.trans hp
   have hp : hasPortB n.ends v i = true := (h.port v i).symm.trans hp1
   obtain ⟨a, b⟩ := hasPort_pos (p := (v, i)) hp
   rw [h.again.at_ v i a b]
   show (if (v, i) = endAt (crossE n p.1 p.2 q.1 q.2) p.1 p.2 then q else if (v, i) = q then endAt (crossE n p.1 p.2 q.1 q.2) p.1 p.2 else if (v, i) = endAt (crossE n p.1 p.2 q.1 q.2) q.1 q.2 then p else if (v, i) = p then endAt (crossE n p.1 p.2 q.1 q.2) q.1 q.2 else endAt (crossE n p.1 p.2 q.1 q.2) v i) = _
   rw [h.at_p, h.at_q]
   by_cases e3 : (v, i) = endAt n.ends q.1 q.2
   ·rw [if_pos e3]; have := h.eb.2; rw [← e3] at this; exact this.symm
   ·rw [if_neg e3]
    by_cases e2 : (v, i) = q
    ·rw [if_pos e2]; rw [show v = q.1 from congrArg Prod.fst e2, show i = q.2 from congrArg Prod.snd e2]
    ·rw [if_neg e2]
     by_cases e1 : (v, i) = endAt n.ends p.1 p.2
     ·rw [if_pos e1]; have := h.ea.2; rw [← e1] at this; exact this.symm
     ·rw [if_neg e1]
      by_cases e4 : (v, i) = p
      ·rw [if_pos e4]; rw [show v = p.1 from congrArg Prod.fst e4, show i = p.2 from congrArg Prod.snd e4]
      ·rw [if_neg e4, h.at_ v i a b, if_neg e1, if_neg e2, if_neg e3, if_neg e4]
 unfold crossN at e ⊢
 simp only [e]
def viewB (ls : List Int) (es : List (Int × Int)) : List (Int × Int) := es.map fun e => (lab ls e, e.2)
theorem view_len {ls : List Int} {a b : List (Int × Int)} (h : viewB ls a = viewB ls b) : a.length = b.length := by
 have := congrArg List.length h
 simpa [viewB] using this
theorem view_get {ls : List Int} {a b : List (Int × Int)} (h : viewB ls a = viewB ls b) (i : Nat) (hi : i < a.length) : lab ls (a.getD i (0, 0)) = lab ls (b.getD i (0, 0)) ∧ (a.getD i (0, 0)).2 = (b.getD i (0, 0)).2 := by
 have hl := view_len h
 have e : (viewB ls a)[i]? = (viewB ls b)[i]? := by rw [h]
 unfold viewB at e
 rw [List.getElem?_map, List.getElem?_map, List.getElem?_eq_getElem hi, List.getElem?_eq_getElem (by omega : i < b.length)] at e
 simp only [Option.map_some, Option.some.injEq, Prod.mk.injEq] at e
 rw [show a.getD i (0, 0) = a[i] by simp [List.getD_eq_getElem?_getD, hi], show b.getD i (0, 0) = b[i]'(by omega) by simp [List.getD_eq_getElem?_getD, (by omega : i < b.length)]]
 exact e
theorem view_near {ls : List Int} {a b : List (Int × Int)} (h : viewB ls a = viewB ls b) : nearB ls a = nearB ls b := by
 have := congrArg (List.map Prod.fst) h
 simpa [viewB, nearB, lab, Function.comp_def] using this
theorem range_all_congr {k : Nat} {f g : Nat → Bool} (h : ∀ i, i < k → f i = g i) : (List.range k).all f = (List.range k).all g := by
 rw [Bool.eq_iff_iff, List.all_eq_true, List.all_eq_true]
 exact ⟨fun h1 x hx => by rw [← h x (List.mem_range.1 hx)]; exact h1 x hx, fun h1 x hx => by rw [h x (List.mem_range.1 hx)]; exact h1 x hx⟩
theorem range_any_congr {k : Nat} {f g : Nat → Bool} (h : ∀ i, i < k → f i = g i) : (List.range k).any f = (List.range k).any g := by
 rw [Bool.eq_iff_iff, List.any_eq_true, List.any_eq_true]
 exact ⟨fun ⟨x, hx, h1⟩ => ⟨x, hx, by rw [← h x (List.mem_range.1 hx)]; exact h1⟩, fun ⟨x, hx, h1⟩ => ⟨x, hx, by rw [h x (List.mem_range.1 hx)]; exact h1⟩⟩
theorem view_sum {ls : List Int} {a b : List (Int × Int)} (h : viewB ls a = viewB ls b) (l : Int) (j : Nat) (hj : j ≤ a.length) : evSum ls l a j = evSum ls l b j := by
 induction j with
 | zero => rfl
 | succ j ih =>
  obtain ⟨e1, e2⟩ := view_get h j (by omega)
  unfold evSum evHit
  rw [ih (by omega), e1, e2]
theorem view_acc {n : Net} {s : Int} {ls : List Int} {l idk ink : Int} {a b : List (Int × Int)} (h : viewB ls a = viewB ls b) : accB n s ls l idk ink a = accB n s ls l idk ink b := by
 have hl := view_len h
 have hn := view_near h
 unfold accB
 rw [hn]
 have e1 : leadB idk ink ls l a = leadB idk ink ls l b := by
  unfold leadB
  rw [hl, range_all_congr (k := b.length) (f := fun i => lab ls (a.getD i (0, 0)) / 100 == l / 100) (g := fun i => lab ls (b.getD i (0, 0)) / 100 == l / 100) (fun i hi => by rw [(view_get h i (by omega)).1]),
   range_any_congr (k := b.length) (f := fun i => lab ls (a.getD i (0, 0)) % 100 == l % 100 - 1) (g := fun i => lab ls (b.getD i (0, 0)) % 100 == l % 100 - 1) (fun i hi => by rw [(view_get h i (by omega)).1])]
 have e2 : evenB idk ls l a = evenB idk ls l b := by
  unfold evenB evAll evAny
  rw [hl, view_sum h l b.length (by omega), range_all_congr (k := b.length) (f := fun i => ev0 (lab ls (a.getD i (0, 0))) == ev0 l) (g := fun i => ev0 (lab ls (b.getD i (0, 0))) == ev0 l) (fun i hi => by rw [(view_get h i (by omega)).1]),
   range_any_congr (k := b.length) (f := fun i => ((i : Int) == ev2 l) && (ev1 (lab ls (a.getD i (0, 0))) == ev1 l - 1)) (g := fun i => ((i : Int) == ev2 l) && (ev1 (lab ls (b.getD i (0, 0))) == ev1 l - 1)) (fun i hi => by rw [(view_get h i (by omega)).1])]
 rw [e1, e2]
structure HidX (n : Net) (ls : List Int) (p q : Int × Int) : Prop extends MayX n p q where
 s2 : p.2 = q.2
 t2 : (endAt n.ends p.1 p.2).2 = (endAt n.ends q.1 q.2).2
 s1 : lab ls p = lab ls q
 t1 : lab ls (endAt n.ends p.1 p.2) = lab ls (endAt n.ends q.1 q.2)
theorem HidX.ends {n : Net} {ls : List Int} {p q : Int × Int} (h : HidX n ls p q) {v i : Int} (hp : hasPortB n.ends v i = true) : lab ls (endAt (crossE n p.1 p.2 q.1 q.2) v i) = lab ls (endAt n.ends v i) ∧ (endAt (crossE n p.1 p.2 q.1 q.2) v i).2 = (endAt n.ends v i).2 := by
 have hm := h.toMayX
 obtain ⟨a, b⟩ := hasPort_pos (p := (v, i)) hp
 rw [hm.at_ v i a b]
 by_cases e1 : (v, i) = endAt n.ends p.1 p.2
 ·rw [if_pos e1]; have h1 := hm.ea.2; rw [← e1] at h1; rw [show endAt n.ends v i = p from h1]; exact ⟨h.s1.symm, h.s2.symm⟩
 ·rw [if_neg e1]
  by_cases e2 : (v, i) = q
  ·rw [if_pos e2, show v = q.1 from congrArg Prod.fst e2, show i = q.2 from congrArg Prod.snd e2]; exact ⟨h.t1, h.t2⟩
  ·rw [if_neg e2]
   by_cases e3 : (v, i) = endAt n.ends q.1 q.2
   ·rw [if_pos e3]; have h1 := hm.eb.2; rw [← e3] at h1; rw [show endAt n.ends v i = q from h1]; exact ⟨h.s1, h.s2⟩
   ·rw [if_neg e3]
    by_cases e4 : (v, i) = p
    ·rw [if_pos e4, show v = p.1 from congrArg Prod.fst e4, show i = p.2 from congrArg Prod.snd e4]; exact ⟨h.t1.symm, h.t2.symm⟩
    ·rw [if_neg e4]; exact ⟨rfl, rfl⟩
theorem HidX.view {n : Net} {ls : List Int} {p q : Int × Int} (h : HidX n ls p q) (k : Nat) : viewB ls ((crossN n p q).ends.getD k []) = viewB ls (n.ends.getD k []) := by
 have hm := h.toMayX
 have hr : ((crossN n p q).ends.getD k []).length = (n.ends.getD k []).length := hm.row k
 unfold viewB
 apply List.ext_getElem?
 intro j
 rw [List.getElem?_map, List.getElem?_map]
 by_cases hj : j < (n.ends.getD k []).length
 ·have hk : k < n.ends.length := by
   apply Decidable.byContradiction
   intro hk
   rw [show n.ends.getD k [] = [] by simp [List.getD_eq_getElem?_getD, List.getElem?_eq_none (by omega : n.ends.length ≤ k)]] at hj
   simp at hj
  have hpt : hasPortB n.ends (k : Int) (j : Int) = true := hasPort_iff.2 ⟨by omega, by omega, by omega, by rw [Int.toNat_natCast]; omega⟩
  obtain ⟨e1, e2⟩ := h.ends hpt
  unfold endAt at e1 e2
  rw [Int.toNat_natCast, Int.toNat_natCast] at e1 e2
  rw [List.getElem?_eq_getElem hj, List.getElem?_eq_getElem (by omega : j < ((crossN n p q).ends.getD k []).length)]
  simp only [Option.map_some, Option.some.injEq, Prod.mk.injEq]
  have g1 : (n.ends.getD k []).getD j (0, 0) = (n.ends.getD k [])[j] := getD_of (List.getElem?_eq_getElem hj)
  have g2 : ((crossE n p.1 p.2 q.1 q.2).getD k []).getD j (0, 0) = ((crossN n p q).ends.getD k [])[j]'(by omega) := by
   exact getD_of (List.getElem?_eq_getElem (by omega : j < ((crossN n p q).ends.getD k []).length))
  rw [g1, g2] at e1 e2
  exact ⟨e1, e2⟩
 ·rw [List.getElem?_eq_none (by omega), List.getElem?_eq_none (by omega)]
theorem HidX.acc {n : Net} {ls : List Int} {p q : Int × Int} (h : HidX n ls p q) (s : Int) (k : Nat) : accAt (crossN n p q) s ls k = accAt n s ls k := by
 unfold accAt
 have e := view_acc (n := n) (s := s) (l := ls.getD k 0) (idk := n.ids.getD k 0) (ink := n.inputs.getD k 0) (h.view k)
 rw [← e]
 rfl
theorem HidX.lab_ok {n : Net} {ls : List Int} {p q : Int × Int} (h : HidX n ls p q) (s : Int) : labOk (crossN n p q) s ls = labOk n s ls := by
 unfold labOk
 rw [h.toMayX.ok2, h.ok, show (crossN n p q).ends.length = n.ends.length from h.toMayX.len]
theorem HidX.rejects {n : Net} {ls : List Int} {p q : Int × Int} (h : HidX n ls p q) (s : Int) : rejL (crossN n p q) s ls = rejL n s ls := by
 unfold rejL
 congr 1
 funext v
 exact h.acc s v.toNat
theorem hidX_of {n : Net} {ls : List Int} {p q : Int × Int} (h : crossOk n ls p.1 p.2 q.1 q.2 = true) (h2 : hidB n.ends ls p q = true) : HidX n ls p q := by
 unfold crossOk at h
 unfold hidB at h2
 simp only [Bool.and_eq_true, beq_iff_eq] at h h2
 obtain ⟨⟨⟨h3, h4⟩, h5⟩, h6⟩ := h
 obtain ⟨⟨⟨⟨h7, h8⟩, h9⟩, h10⟩, h11⟩ := h2
 refine ⟨mayX_of ?_, h8, h9, h10, h11⟩
 unfold crossEOk
 simp only [Bool.and_eq_true]
 exact ⟨⟨⟨h3, h4⟩, h5⟩, h7⟩
end Go.Proofs.YtgmdpppljkmabaaGreat
namespace Go.Proofs.YtgmdpppljkmabaaGreat
open Go.RowKit
/-! lists of lists of integers: read, sized, copied, compared, marked, held -/
def IntSS (w : World) (v : Value) (xss : List (List Int)) : Prop :=
 ∃ (A : Option Addr) (c : Nat), v = .slice A xss.length c ∧ xss.length ≤ c ∧ c ≤ maxLen ∧
  (∀ k xs, xss[k]? = some xs → ∃ b off u, A = some ⟨b, off, none⟩ ∧ w.cell? ⟨b, off + k, none⟩ = some u ∧ IntS w u xs)
theorem IntSS.keep {w w' : World} {v : Value} {xs : List (List Int)} (h : IntSS w v xs) (hb : Below w.heap.size w w') : IntSS w' v xs := by
 obtain ⟨A, c, hv, hc, hm, hA⟩ := h
 refine ⟨A, c, hv, hc, hm, fun k x hk => ?_⟩
 obtain ⟨b, off, u, hA', h1, h2⟩ := hA k x hk
 exact ⟨b, off, u, hA', bc hb h1, h2.keep hb⟩
def OwnII : World → Nat → Value → List (List Int) → List Nat → Prop := OwnRows 25 OwnI
theorem lawII : RowLaw OwnII := rows_law _ lawI
theorem OwnI.read {w : World} {base : Nat} {v : Value} {xs : List Int} {S : List Nat} (h : OwnI w base v xs S) : IntS w v xs := h.1.ints
theorem OwnII.read {w : World} {base : Nat} {v : Value} {ess : List (List Int)} {S : List Nat} (h : OwnII w base v ess S) : IntSS w v ess := by
 obtain ⟨vs, Ss, h1, h2, h3, h4, h5⟩ := h
 rcases ownsRow_cases h1 with ⟨rfl, h0⟩ | ⟨g, c, rfl, hb, hg, hc, hm⟩
 ·obtain rfl : ess = [] := List.eq_nil_of_length_eq_zero h0
  exact ⟨none, 0, rfl, Nat.le_refl _, Nat.zero_le _, fun k x hk => by simp at hk⟩
 ·have hvl : vs.length = ess.length := by simpa using h1.1
  refine ⟨_, c, rfl, hc, hm, fun k x hk => ?_⟩
  have hlt := lt_of_get hk
  obtain ⟨u, hu⟩ := getx vs k (by omega)
  obtain ⟨T, hT⟩ := getx Ss k (by omega)
  exact ⟨g, 0, u, rfl, by rw [Nat.zero_add, h1.cellAt (cap := c) _ (by omega)]; exact hu, OwnI.read (h3 k u x T hu hk hT)⟩
section
variable {ops : Array Oper} {rest : List Oper} {o : Oper} {a : Act} {Q : Exit → Act → World → Prop}
end
end Go.Proofs.YtgmdpppljkmabaaGreat
