/- Parts of the proof: walks of functions and plain laws. -/
import Derived.Test.YthgbobikbdklhaaP6
import Derived.Lib.SliceRun
import Derived.Test.YthgbobikbdklhaaP3
import Derived.Test.YthgbobikbdklhaaP5
import Derived.WalkSpells
import Derived.Test.YthgbobikbdklhaaP0
namespace Go.Proofs.Ythgbobikbdklhaa
open Go.RowKit
/-- the end at a port -/
def endAt (ess : List (List (Int × Int))) (v i : Int) : Int × Int := (ess.getD v.toNat []).getD i.toNat (0, 0)
theorem port_at {w : World} {v : Value} {ess : List (List (Int × Int))} {x y : Int} (h : EndSS w v ess) (hp : hasPortB ess x y = true) :
    ∃ (k j b off c b1 off1 z : Nat) (es : List (Int × Int)) (y1 y2 : Int), x = (k : Int) ∧ y = (j : Int) ∧ v = .slice (some ⟨b, off, none⟩) ess.length c ∧ k < ess.length ∧ ess[k]? = some es ∧ j < es.length ∧ es[j]? = some (y1, y2) ∧ endAt ess x y = (y1, y2) ∧
      es.length ≤ z ∧ z ≤ 9223372036854775807 ∧ w.cell? ⟨b, off + k, none⟩ = some (.slice (some ⟨b1, off1, none⟩) es.length z) ∧ w.cell? ⟨b1, off1 + j * 2, none⟩ = some (.int .i64 y1) ∧ w.cell? ⟨b1, off1 + j * 2 + 1, none⟩ = some (.int .i64 y2) := by
  obtain ⟨A, c, rfl, hlc, hm, hA⟩ := h
  unfold hasPortB at hp
  rw [Bool.and_eq_true] at hp
  obtain ⟨p1, p2⟩ := hp
  obtain ⟨p3, p4⟩ := inB_iff.1 p1
  obtain ⟨k, rfl⟩ := Int.eq_ofNat_of_zero_le p3
  have hk : k < ess.length := by omega
  obtain ⟨es, hes⟩ := getx ess k hk
  rw [Int.toNat_natCast, getD_of hes] at p2
  obtain ⟨p5, p6⟩ := inB_iff.1 p2
  obtain ⟨j, rfl⟩ := Int.eq_ofNat_of_zero_le p5
  have hj : j < es.length := by omega
  obtain ⟨⟨y1, y2⟩, hy⟩ := getx es j hj
  obtain ⟨b, off, u, rfl, hc, hrow⟩ := hA k es hes
  obtain ⟨A1, z, rfl, hz1, hz2, hA1⟩ := hrow
  obtain ⟨b1, off1, rfl, hc1, hc2⟩ := hA1 j _ hy
  unfold maxLen at hz2
  exact ⟨k, j, b, off, c, b1, off1, z, es, y1, y2, rfl, rfl, rfl, hk, hes, hj, hy, by simp [endAt, hes, hy], hz1, by omega, hc, hc1, hc2⟩
/-- in a network the end at a port is a port, and leads back -/
theorem netOk_end {n : Net} (h : netOk n = true) {v i : Int} (hp : hasPortB n.ends v i = true) :
    hasPortB n.ends (endAt n.ends v i).1 (endAt n.ends v i).2 = true ∧ endAt n.ends (endAt n.ends v i).1 (endAt n.ends v i).2 = (v, i) := by
  unfold hasPortB at hp
  rw [Bool.and_eq_true] at hp
  obtain ⟨p1, p2⟩ := hp
  obtain ⟨p3, p4⟩ := inB_iff.1 p1
  obtain ⟨k, rfl⟩ := Int.eq_ofNat_of_zero_le p3
  have hk : k < n.ends.length := by omega
  obtain ⟨es, hes⟩ := getx n.ends k hk
  rw [Int.toNat_natCast, getD_of hes] at p2
  obtain ⟨p5, p6⟩ := inB_iff.1 p2
  obtain ⟨j, rfl⟩ := Int.eq_ofNat_of_zero_le p5
  have hj : j < es.length := by omega
  obtain ⟨⟨y1, y2⟩, hy⟩ := getx es j hj
  have e : endAt n.ends (k : Int) (j : Int) = (y1, y2) := by simp [endAt, hes, hy]
  rw [e]
  unfold netOk at h
  rw [Bool.and_eq_true, List.all_eq_true] at h
  have := h.2 k (List.mem_range.2 hk)
  rw [getD_of hes] at this
  unfold rowOkB at this
  rw [Bool.and_eq_true, List.all_eq_true] at this
  have := this.2 j (List.mem_range.2 hj)
  rw [getD_of hy] at this
  unfold endOkB at this
  rw [Bool.and_eq_true] at this
  exact ⟨this.1, by simpa [eqE, endAt] using this.2⟩
theorem netOk_len {n : Net} (h : netOk n = true) : 1 ≤ n.ends.length ∧ n.ends.length ≤ 40 := by
  unfold netOk at h
  simp only [Bool.and_eq_true] at h
  have := inB_iff.1 h.1.1.1
  omega
theorem hasPort_lt {ess : List (List (Int × Int))} {v i : Int} (hp : hasPortB ess v i = true) : 0 ≤ v ∧ v < ess.length := by
  unfold hasPortB at hp
  rw [Bool.and_eq_true] at hp
  have := inB_iff.1 hp.1
  omega
/-- can two edges be crossed? -/
def mayB (ess : List (List (Int × Int))) (p q : Int × Int) : Bool := !eqE p q && !eqE (endAt ess p.1 p.2) q && !eqE (endAt ess p.1 p.2) p && !eqE (endAt ess q.1 q.2) q
end Go.Proofs.Ythgbobikbdklhaa
namespace Go.Proofs.Ythgbobikbdklhaa
open Go.RowKit
set_option maxHeartbeats 2000000 in
theorem nePort_any (ve vi vn : Value) (n : Net) (v i : Int) (w : World) (h : NetIn w ve vi vn n) :
    Calls Try.prog 39 #[.agg #[ve, vi, vn], .int .i64 v, .int .i64 i] w fun e w' => e = .returned (.bool (netOk n && hasPortB n.ends v i)) ∧ Below w.heap.size w w' := by
  obtain ⟨w0, hw0⟩ : ∃ w0, w0 = (w).alloc (.cells #[ve, vi, vn] 32) := ⟨_, rfl⟩
  have hb0 : Below w.heap.size w w0 := by rw [hw0]; exact ((Below.refl _ _).alloc (by simp) _)
  have H := Lib.hid (h.keep hb0)
  obtain ⟨h1, h2, h3⟩ := h.keep hb0
  obtain ⟨A, c, rfl, hlc, hm, hA⟩ := h1
  obtain ⟨A2, c2, rfl, _, hm2, _⟩ := h2
  obtain ⟨A3, c3, rfl, _, hm3, _⟩ := h3
  unfold maxLen at hm hm2 hm3
  have p00 : ∀ W, Since w0 W → W.cell? ⟨w.heap.size, 0, none⟩ = some (.slice A n.ends.length c) := have_cell (by rw [hw0]; simp)
  have p01 : ∀ W, Since w0 W → W.cell? ⟨w.heap.size, 1, none⟩ = some (.slice A2 n.ids.length c2) := have_cell (by rw [hw0]; simp)
  have p02 : ∀ W, Since w0 W → W.cell? ⟨w.heap.size, 2, none⟩ = some (.slice A3 n.inputs.length c3) := have_cell (by rw [hw0]; simp)
  have Hb0 := Lib.hid hb0
  have Hw0 := Lib.hid hw0
  have HA := Lib.hid hA
  clear hA h
  clear hb0 hw0
  cases hv : inB 0 ((n.ends.length : Int) - 1) v
  · have hr := Lib.hid (show (netOk n && hasPortB n.ends v i) = false by simp [hasPortB, hv])
    have m1 : IntKind.i64.wrap ((n.ends.length : Int) - 1) = n.ends.length - 1 := wr64 _ (by omega) (by omega)
    go_enter Try.func39, Try.ntmps39
    go_upto_region 1 with (fail)
    rw [← Hw0.out]
    refine wp_region_flow0 22 (Since w0) (since_refl _) ?_
    simp only [List.take_succ_cons, List.take_zero, List.drop_succ_cons, List.drop_zero]
    refine flow_val (v := ?_) rfl ?_ ?_; rotate_left; (intro W hW; go_simp; with_reducible rfl)
    simp only [Act.put, List.setIfInBounds_toArray, List.set_cons_succ, List.set_cons_zero]
    refine flow_op ?_ rfl ?_ ?_; rotate_left; (intro W hW; unfold Gives; go_simp; (with_reducible refine (neGood_any _ _ _ n W (H.out.keep hW.below)).mono ?_); rintro e W' ⟨rfl, hb3⟩; first | (refine ⟨?_, Since.trans hW hb3⟩; with_reducible rfl) | (subst hb3; refine ⟨?_, hW⟩; with_reducible rfl))
    simp only [Act.put, List.setIfInBounds_toArray, List.set_cons_succ, List.set_cons_zero]
    refine flow_val (v := ?_) rfl ?_ ?_; rotate_left; (intro W hW; go_simp; with_reducible rfl)
    simp only [Act.put, List.setIfInBounds_toArray, List.set_cons_succ, List.set_cons_zero]
    refine flow_gval (v := ?_) rfl rfl ?_ ?_; rotate_left; (intro hb; intro W hW; go_simp; with_reducible rfl)
    simp only [Act.put, List.setIfInBounds_toArray, List.set_cons_succ, List.set_cons_zero]
    refine flow_gval (v := ?_) rfl rfl ?_ ?_; rotate_left; (intro hb; intro W hW; go_simp; with_reducible rfl)
    simp only [Act.put, List.setIfInBounds_toArray, List.set_cons_succ, List.set_cons_zero]
    refine flow_gval (v := ?_) rfl rfl ?_ ?_; rotate_left; (intro hb; intro W hW; go_simp; with_reducible rfl)
    simp only [Act.put, List.setIfInBounds_toArray, List.set_cons_succ, List.set_cons_zero]
    refine flow_gval (v := ?_) rfl rfl ?_ ?_; rotate_left; (intro hb; intro W hW; go_simp; with_reducible rfl)
    simp only [Act.put, List.setIfInBounds_toArray, List.set_cons_succ, List.set_cons_zero]
    refine flow_gval (v := ?_) rfl rfl ?_ ?_; rotate_left; (intro hb; intro W hW; go_simp; with_reducible rfl)
    simp only [Act.put, List.setIfInBounds_toArray, List.set_cons_succ, List.set_cons_zero]
    refine flow_gop (v := ?_) rfl rfl ?_ ?_; rotate_left; (intro hb; intro W hW; unfold Gives; go_simp; (with_reducible refine (l1In_b _ _ _ W).mono ?_); rintro e W' ⟨rfl, hb3⟩; first | (refine ⟨?_, Since.trans hW hb3⟩; with_reducible rfl) | (subst hb3; refine ⟨?_, hW⟩; with_reducible rfl))
    simp only [Act.put, List.setIfInBounds_toArray, List.set_cons_succ, List.set_cons_zero]
    first | refine flow_and rfl rfl ?_ | (refine flow_val (v := ?_) rfl ?_ ?_; rotate_left; (intro W hW; go_simp; with_reducible rfl))
    simp only [Act.put, List.setIfInBounds_toArray, List.set_cons_succ, List.set_cons_zero]
    refine flow_val (v := ?_) rfl ?_ ?_; rotate_left; (intro W hW; go_simp; with_reducible rfl)
    simp only [Act.put, List.setIfInBounds_toArray, List.set_cons_succ, List.set_cons_zero]
    refine flow_dead rfl rfl (by simp [*]) ?_
    simp only [Act.put, List.setIfInBounds_toArray, List.set_cons_succ, List.set_cons_zero]
    refine flow_dead rfl rfl (by simp [*]) ?_
    simp only [Act.put, List.setIfInBounds_toArray, List.set_cons_succ, List.set_cons_zero]
    refine flow_dead rfl rfl (by simp [*]) ?_
    simp only [Act.put, List.setIfInBounds_toArray, List.set_cons_succ, List.set_cons_zero]
    refine flow_dead rfl rfl (by simp [*]) ?_
    simp only [Act.put, List.setIfInBounds_toArray, List.set_cons_succ, List.set_cons_zero]
    refine flow_dead rfl rfl (by simp [*]) ?_
    simp only [Act.put, List.setIfInBounds_toArray, List.set_cons_succ, List.set_cons_zero]
    refine flow_dead rfl rfl (by simp [*]) ?_
    simp only [Act.put, List.setIfInBounds_toArray, List.set_cons_succ, List.set_cons_zero]
    refine flow_dead rfl rfl (by simp [*]) ?_
    simp only [Act.put, List.setIfInBounds_toArray, List.set_cons_succ, List.set_cons_zero]
    refine flow_dead rfl rfl (by simp [*]) ?_
    simp only [Act.put, List.setIfInBounds_toArray, List.set_cons_succ, List.set_cons_zero]
    refine flow_dead rfl rfl (by simp [*]) ?_
    simp only [Act.put, List.setIfInBounds_toArray, List.set_cons_succ, List.set_cons_zero]
    first | refine flow_and rfl rfl ?_ | (refine flow_val (v := ?_) rfl ?_ ?_; rotate_left; (intro W hW; go_simp; with_reducible rfl))
    simp only [Act.put, List.setIfInBounds_toArray, List.set_cons_succ, List.set_cons_zero]
    refine flow_val (v := ?_) rfl ?_ ?_; rotate_left; (intro W hW; go_simp; with_reducible rfl)
    simp only [Act.put, List.setIfInBounds_toArray, List.set_cons_succ, List.set_cons_zero]
    intro W hW
    have HW := Lib.hid hW
    clear hW m1
    go_wp2
    go_ret
    exact ⟨ret_bool (by rw [hr.out]), Since.after Hb0.out HW.out⟩
  · obtain ⟨p3, p4⟩ := inB_iff.1 hv
    obtain ⟨k, rfl⟩ := Int.eq_ofNat_of_zero_le p3
    have hk : k < n.ends.length := by omega
    obtain ⟨es, hes⟩ := getx n.ends k hk
    obtain ⟨b, off, u, rfl, hc3, hrow⟩ := HA.out k es hes
    obtain ⟨A1, z1, rfl, hz1, hz2, _⟩ := hrow
    unfold maxLen at hz2
    have r5 := have_cell hc3
    have hr := Lib.hid (show (netOk n && hasPortB n.ends k i) = (netOk n && inB 0 ((n.ends.length : Int) - 1) k && inB 0 ((es.length : Int) - 1) i) by simp [hasPortB, hes, Bool.and_assoc])
    have m1 : IntKind.i64.wrap ((n.ends.length : Int) - 1) = n.ends.length - 1 := wr64 _ (by omega) (by omega)
    have m2 : IntKind.i64.wrap ((es.length : Int) - 1) = es.length - 1 := wr64 _ (by omega) (by omega)
    have Hv := Lib.hid hv
    clear hes hc3 hv
    go_enter Try.func39, Try.ntmps39
    go_upto_region 1 with (fail)
    rw [← Hw0.out]
    refine wp_region_flow0 22 (Since w0) (since_refl _) ?_
    simp only [List.take_succ_cons, List.take_zero, List.drop_succ_cons, List.drop_zero]
    refine flow_val (v := ?_) rfl ?_ ?_; rotate_left; (intro W hW; go_simp; with_reducible rfl)
    simp only [Act.put, List.setIfInBounds_toArray, List.set_cons_succ, List.set_cons_zero]
    refine flow_op ?_ rfl ?_ ?_; rotate_left; (intro W hW; unfold Gives; go_simp; (with_reducible refine (neGood_any _ _ _ n W (H.out.keep hW.below)).mono ?_); rintro e W' ⟨rfl, hb3⟩; first | (refine ⟨?_, Since.trans hW hb3⟩; with_reducible rfl) | (subst hb3; refine ⟨?_, hW⟩; with_reducible rfl))
    simp only [Act.put, List.setIfInBounds_toArray, List.set_cons_succ, List.set_cons_zero]
    refine flow_val (v := ?_) rfl ?_ ?_; rotate_left; (intro W hW; go_simp; with_reducible rfl)
    simp only [Act.put, List.setIfInBounds_toArray, List.set_cons_succ, List.set_cons_zero]
    refine flow_gval (v := ?_) rfl rfl ?_ ?_; rotate_left; (intro hb; intro W hW; go_simp; with_reducible rfl)
    simp only [Act.put, List.setIfInBounds_toArray, List.set_cons_succ, List.set_cons_zero]
    refine flow_gval (v := ?_) rfl rfl ?_ ?_; rotate_left; (intro hb; intro W hW; go_simp; with_reducible rfl)
    simp only [Act.put, List.setIfInBounds_toArray, List.set_cons_succ, List.set_cons_zero]
    refine flow_gval (v := ?_) rfl rfl ?_ ?_; rotate_left; (intro hb; intro W hW; go_simp; with_reducible rfl)
    simp only [Act.put, List.setIfInBounds_toArray, List.set_cons_succ, List.set_cons_zero]
    refine flow_gval (v := ?_) rfl rfl ?_ ?_; rotate_left; (intro hb; intro W hW; go_simp; with_reducible rfl)
    simp only [Act.put, List.setIfInBounds_toArray, List.set_cons_succ, List.set_cons_zero]
    refine flow_gval (v := ?_) rfl rfl ?_ ?_; rotate_left; (intro hb; intro W hW; go_simp; with_reducible rfl)
    simp only [Act.put, List.setIfInBounds_toArray, List.set_cons_succ, List.set_cons_zero]
    refine flow_gop (v := ?_) rfl rfl ?_ ?_; rotate_left; (intro hb; intro W hW; unfold Gives; go_simp; (with_reducible refine (l1In_b _ _ _ W).mono ?_); rintro e W' ⟨rfl, hb3⟩; first | (refine ⟨?_, Since.trans hW hb3⟩; with_reducible rfl) | (subst hb3; refine ⟨?_, hW⟩; with_reducible rfl))
    simp only [Act.put, List.setIfInBounds_toArray, List.set_cons_succ, List.set_cons_zero]
    first | refine flow_and rfl rfl ?_ | (refine flow_val (v := ?_) rfl ?_ ?_; rotate_left; (intro W hW; go_simp; with_reducible rfl))
    simp only [Act.put, List.setIfInBounds_toArray, List.set_cons_succ, List.set_cons_zero]
    refine flow_val (v := ?_) rfl ?_ ?_; rotate_left; (intro W hW; go_simp; with_reducible rfl)
    simp only [Act.put, List.setIfInBounds_toArray, List.set_cons_succ, List.set_cons_zero]
    refine flow_gval (v := ?_) rfl rfl ?_ ?_; rotate_left; (intro hb; intro W hW; go_simp; with_reducible rfl)
    simp only [Act.put, List.setIfInBounds_toArray, List.set_cons_succ, List.set_cons_zero]
    refine flow_gval (v := ?_) rfl rfl ?_ ?_; rotate_left; (intro hb; intro W hW; go_simp; with_reducible rfl)
    simp only [Act.put, List.setIfInBounds_toArray, List.set_cons_succ, List.set_cons_zero]
    refine flow_gval (v := ?_) rfl rfl ?_ ?_; rotate_left; (intro hb; intro W hW; go_simp; with_reducible rfl)
    simp only [Act.put, List.setIfInBounds_toArray, List.set_cons_succ, List.set_cons_zero]
    refine flow_gval (v := ?_) rfl rfl ?_ ?_; rotate_left; (intro hb; intro W hW; go_simp; with_reducible rfl)
    simp only [Act.put, List.setIfInBounds_toArray, List.set_cons_succ, List.set_cons_zero]
    refine flow_gval (v := ?_) rfl rfl ?_ ?_; rotate_left; (intro hb; intro W hW; go_simp; with_reducible rfl)
    simp only [Act.put, List.setIfInBounds_toArray, List.set_cons_succ, List.set_cons_zero]
    refine flow_gval (v := ?_) rfl rfl ?_ ?_; rotate_left; (intro hb; intro W hW; go_simp; with_reducible rfl)
    simp only [Act.put, List.setIfInBounds_toArray, List.set_cons_succ, List.set_cons_zero]
    refine flow_gval (v := ?_) rfl rfl ?_ ?_; rotate_left; (intro hb; intro W hW; go_simp; with_reducible rfl)
    simp only [Act.put, List.setIfInBounds_toArray, List.set_cons_succ, List.set_cons_zero]
    refine flow_gval (v := ?_) rfl rfl ?_ ?_; rotate_left; (intro hb; intro W hW; go_simp; with_reducible rfl)
    simp only [Act.put, List.setIfInBounds_toArray, List.set_cons_succ, List.set_cons_zero]
    refine flow_gop (v := ?_) rfl rfl ?_ ?_; rotate_left; (intro hb; intro W hW; unfold Gives; go_simp; (with_reducible refine (l1In_b _ _ _ W).mono ?_); rintro e W' ⟨rfl, hb3⟩; first | (refine ⟨?_, Since.trans hW hb3⟩; with_reducible rfl) | (subst hb3; refine ⟨?_, hW⟩; with_reducible rfl))
    simp only [Act.put, List.setIfInBounds_toArray, List.set_cons_succ, List.set_cons_zero]
    first | refine flow_and rfl rfl ?_ | (refine flow_val (v := ?_) rfl ?_ ?_; rotate_left; (intro W hW; go_simp; with_reducible rfl))
    simp only [Act.put, List.setIfInBounds_toArray, List.set_cons_succ, List.set_cons_zero]
    refine flow_val (v := ?_) rfl ?_ ?_; rotate_left; (intro W hW; go_simp; with_reducible rfl)
    simp only [Act.put, List.setIfInBounds_toArray, List.set_cons_succ, List.set_cons_zero]
    intro W hW
    have HW := Lib.hid hW
    clear hW m1 m2
    go_wp2
    go_ret
    exact ⟨ret_bool (by rw [hr.out]), Since.after Hb0.out HW.out⟩
def nePortB (n : Net) (v i : Int) : Bool := netOk n && hasPortB n.ends v i
theorem nePort_b (ve vi vn : Value) (n : Net) (v i : Int) (w : World) (h : NetIn w ve vi vn n) :
    Calls Try.prog 39 #[.agg #[ve, vi, vn], .int .i64 v, .int .i64 i] w fun e w' => e = .returned (.bool (nePortB n v i)) ∧ Below w.heap.size w w' := nePort_any ve vi vn n v i w h
end Go.Proofs.Ythgbobikbdklhaa
namespace Go.Proofs.Ythgbobikbdklhaa
open Go.RowKit
theorem Own.since {w w' : World} {base : Nat} {v : Value} {xs : List Int} (h : Own w base v xs) (hs : Since w w') : Own w' base v xs := h.keep hs
theorem row_at {w : World} {v : Value} {ess : List (List (Int × Int))} {k : Nat} {es : List (Int × Int)} (h : EndSS w v ess) (hes : ess[k]? = some es) :
    ∃ (b off c : Nat) (u : Value), v = .slice (some ⟨b, off, none⟩) ess.length c ∧ k < ess.length ∧ w.cell? ⟨b, off + k, none⟩ = some u ∧ EndS w u es := by
  obtain ⟨A, c, rfl, hlc, hm, hA⟩ := h
  obtain ⟨b, off, u, rfl, hc, hrow⟩ := hA k es hes
  exact ⟨b, off, c, u, rfl, lt_of_get hes, hc, hrow⟩
end Go.Proofs.Ythgbobikbdklhaa
namespace Go.Proofs.Ythgbobikbdklhaa
open Go.RowKit
theorem Own.clear {base g n c : Nat} (m : Nat) : ∀ {w : World} {xs : List Int} (o : Nat), Own w base (.slice (some ⟨g, 0, none⟩) n c) xs → ∃ ys, Own (w.setCells g o (List.replicate m (.int .i64 0))) base (.slice (some ⟨g, 0, none⟩) n c) ys ∧ ys.take o = xs.take o := by
  induction m with
  | zero => intro w xs o h; exact ⟨xs, h, rfl⟩
  | succ m ih =>
    intro w xs o h
    obtain ⟨ys, h1, h2⟩ := ih (o + 1) (h.set (k := o) 0)
    refine ⟨ys, h1, ?_⟩
    have := congrArg (List.take o) h2
    rw [List.take_take, List.take_take, Nat.min_eq_left (by omega)] at this
    rw [this]
    apply List.ext_getElem?
    intro j
    rw [List.getElem?_take, List.getElem?_take]
    split
    · rw [List.getElem?_set_ne (by omega)]
    · rfl
end Go.Proofs.Ythgbobikbdklhaa
namespace Go.Proofs.Ythgbobikbdklhaa
open Go.RowKit
theorem Own.grown {w w' : World} {base : Nat} {v : Value} {xs : List Int} {row : Option Nat} (h : Own w base v xs) (hg : w.grownBy w' row) (hd : ∀ q, v.ownBlock = some q → row ≠ some q) : Own w' base v xs :=
  ownsRow_stable h fun q hq => hg.block q (World.ownsRow.lt h q (by simpa using hq)).2 (fun e => hd q (by simpa using hq) e.symm)
/-- append of a whole row of integers -/
theorem app_ints {w : World} {ops : Array Oper} {rest : List Oper} {o : Oper} {a : Act} {Q : Exit → Act → World → Prop} (hgd : o.guard = none) (s x : Operand)
    (ho : o.op = .call { callee := .builtin .append, args := #[s, x], argTypes := #[23, 23] }) {base : Nat} {v : Value} {xs : List Int} (hs : a.eval s = v) (h : Own w base v xs) (b off c : Nat) (ys : List Int)
    (hx : a.eval x = .slice (some ⟨b, off, none⟩) ys.length c) (hc : ∀ j y, ys[j]? = some y → w.cell? ⟨b, off + j, none⟩ = some (.int .i64 y)) (hy : 0 < ys.length) (hl : xs.length + ys.length ≤ 17592186044416) (hbase : base ≤ w.heap.size)
    (k : ∀ g cap w', Own w' base (.slice (some ⟨g, 0, none⟩) (xs.length + ys.length) cap) (xs ++ ys) → w.grownBy w' v.ownBlock → (v.ownBlock = some g ∨ g = w.heap.size) → g < w'.heap.size → wpList Try.prog ops Q rest (a.put o.dst (.slice (some ⟨g, 0, none⟩) (xs.length + ys.length) cap)) w') : wpList Try.prog ops Q (o :: rest) a w := by
  obtain ⟨i0, hi, hz0, hz1, hz2⟩ := info_parts int_info
  refine wpList_append_lies w hgd s x 23 ho base 3 i0 (.int .i64 0) 1 8 Try.underlying23 hi hz0 hz1 hz2 rfl (by decide) v xs.length (xs.map (Value.int .i64)) hs h ⟨b, off, none⟩ ys.length c (ys.map (Value.int .i64)) hx (by simp)
    (by
      intro j u hj
      rw [List.getElem?_map] at hj
      cases hyj : ys[j]? with
      | none => rw [hyj] at hj; simp at hj
      | some y =>
        rw [hyj] at hj
        simp at hj
        subst hj
        rw [Go.Addr.add_lit]
        exact hc j y hyj) (by simp [Value.oneCell']) hy (by unfold maxLen; omega) (by omega) hbase w.heap.size rfl ?_
  intro g cap w' h1 h2 h3 h4
  refine k g cap w' ?_ h2 h3 h4
  unfold Own
  simpa using h1
set_option maxHeartbeats 2000000 in
theorem l1Own_any (v : Value) (xs : List Int) (w : World) (h : IntS w v xs) (h0' : 0 < xs.length) (hl : xs.length ≤ 17592186044416) :
    Calls Try.prog 67 #[v] w fun e w' => ∃ u, e = .returned u ∧ Own w' w.heap.size u xs ∧ Below w.heap.size w w' := by
  obtain ⟨A, c, rfl, hlc, hm, hA⟩ := h
  unfold maxLen at hm
  have ho := own_lit w [] (by simp [maxLen])
  simp only [List.map_nil, List.length_nil] at ho
  obtain ⟨y0, hy0⟩ := getx xs 0 (by omega)
  obtain ⟨b, off, rfl, _⟩ := hA 0 y0 hy0
  have HA : Hid (∀ j y, xs[j]? = some y → w.cell? ⟨b, off + j, none⟩ = some (.int .i64 y)) := fun j y hj => by
    obtain ⟨b', off', e, hc⟩ := hA j y hj
    cases e
    exact hc
  have Ho := Lib.hid ho
  clear hA hy0 ho
  go_enter Try.func67, Try.ntmps67
  go_wp2_with (at_builtin; refine app_ints rfl _ _ rfl rfl Ho.out b off c xs rfl (fun j y hj => bc (below_alloc _ _) (HA.out j y hj)) h0' (by simpa using hl) (by simp) ?_; intro g cc w2 ho2 hg2 _ _)
  simp only [List.length_nil, Nat.zero_add, List.nil_append] at ho2 ⊢
  have Ho2 := Lib.hid ho2
  have Hb2 : Hid (Below w.heap.size w w2) := (below_alloc w _).grown hg2 (by simp) (fun j hj => (World.ownsRow.lt Ho.out j hj).1)
  clear ho2 hg2
  go_wp2
  go_ret
  exact ⟨_, rfl, Ho2.out, Hb2.out⟩
end Go.Proofs.Ythgbobikbdklhaa
namespace Go.Proofs.Ythgbobikbdklhaa
open Go.RowKit
/-! what copies of networks need -/
theorem tflow_alloc {P : Program} {ops : Array Oper} {w0 : World} {fin : Act → World → Prop} {o : Oper} {rest : List Oper} {A : Act} {W : World} {ob : Obj} {v : Value} (hw : Region.wanted o (yielded ops A.tmps) = true) (h : (execOp A.eval o).run P W = .ok (.value v) (W.alloc ob)) (hS : Since w0 W)
    (hr : ∀ W', W' = W.alloc ob → Since w0 W' → TFlow P ops (Since w0) fin rest (A.put o.dst v) W') : TFlow P ops (Since w0) fin (o :: rest) A W :=
  tflow_new hw h (since_alloc _ hS) (hr _ rfl (since_alloc _ hS))
/-- the first k blocks of a world -/
def trunc (w : World) (k : Nat) : World := { w with heap := w.heap.extract 0 k }
theorem trunc_size (w : World) {k : Nat} (hk : k ≤ w.heap.size) : (trunc w k).heap.size = k := by simp [trunc]; omega
theorem trunc_since (w : World) {k : Nat} (hk : k ≤ w.heap.size) : Since (trunc w k) w := by
  refine ⟨rfl, rfl, rfl, by rw [trunc_size w hk]; exact hk, fun i hi => ?_⟩
  rw [trunc_size w hk] at hi
  simp [trunc, Array.getElem?_extract, hi]
  omega
theorem since_trunc {w0 w : World} {k : Nat} (h : Since w0 w) (hk : k ≤ w.heap.size) (h0 : w0.heap.size ≤ k) : Since w0 (trunc w k) := by
  refine ⟨h.os, h.tape, h.output, by rw [trunc_size w hk]; exact h0, fun i hi => ?_⟩
  have := h.block i hi
  simp only [trunc, Array.getElem?_extract]
  rw [if_pos (by omega)]
  simpa using this
/-- a box of a network, its type too -/
def BoxN (W : World) (b : Nat) (x y z : Value) : Prop := W.heap[b]? = some (.cells #[x, y, z] 32)
theorem BoxN.box {W : World} {b : Nat} {x y z : Value} (h : BoxN W b x y z) : Box3 W b x y z := ⟨_, h⟩
theorem BoxN.lt {W : World} {b : Nat} {x y z : Value} (h : BoxN W b x y z) : b < W.heap.size := (Array.getElem?_eq_some_iff.1 h).1
theorem BoxN.since {W W' : World} {b : Nat} {x y z : Value} (h : BoxN W b x y z) (hs : Since W W') : BoxN W' b x y z := (hs.block b h.lt).trans h
def NewB (W : World) (B : Nat) (u : Value) : Prop := ∃ b, u = .pointer (some ⟨b, 0, none⟩) ∧ B ≤ b ∧ BoxN W b (.slice none 0 0) (.slice none 0 0) (.slice none 0 0)
theorem NewB.keep {W W' : World} {B : Nat} {u : Value} (h : NewB W B u) (hs : Since W W') : NewB W' B u := by
  obtain ⟨b, h1, h2, h3⟩ := h
  exact ⟨b, h1, h2, h3.since hs⟩
theorem NewB.new (W : World) {B : Nat} (h : B ≤ W.heap.size) : NewB (W.alloc (.cells #[.slice none 0 0, .slice none 0 0, .slice none 0 0] 32)) B (.pointer (some ⟨W.heap.size, 0, none⟩)) :=
  ⟨_, rfl, h, by show (W.heap.push _)[W.heap.size]? = _; rw [Array.getElem?_push_size]⟩
def NewRows (W : World) (B n : Nat) (u : Value) : Prop := ∃ g, u = .slice (some ⟨g, 0, none⟩) n n ∧ B ≤ g ∧ OwnEE W B (.slice (some ⟨g, 0, none⟩) n n) (List.replicate n []) [g]
theorem NewRows.keep {W W' : World} {B n : Nat} {u : Value} (h : NewRows W B n u) (hs : Since W W') : NewRows W' B n u := by
  obtain ⟨g, h1, h2, h3⟩ := h
  exact ⟨g, h1, h2, lawEE.keep h3 hs.below⟩
theorem own_neN {W : World} {base b : Nat} {v x y z : Value} {xs : List Int} (h : Own W base v xs) (hb : BoxN W b x y z) : v.ownBlock ≠ some b := by
  rcases h.2 with ⟨rfl, _⟩ | ⟨g, cap, cur, rfl, _, hc, _⟩
  · simp [Value.ownBlock]
  · intro e
    simp [Value.ownBlock] at e
    subst e
    unfold BoxN at hb
    rw [hb] at hc
    simp at hc
theorem own_neR {W : World} {base base' g : Nat} {v : Value} {n c : Nat} {xs : List Int} {ess : List (List (Int × Int))} {S : List Nat} (h : Own W base v xs) (hg : OwnEE W base' (.slice (some ⟨g, 0, none⟩) n c) ess S) : v.ownBlock ≠ some g := by
  rcases h.2 with ⟨rfl, _⟩ | ⟨q, cap, cur, rfl, _, hc, _⟩
  · simp [Value.ownBlock]
  · intro e
    simp [Value.ownBlock] at e
    subst e
    obtain ⟨vs, Ss, h1, _⟩ := hg
    rcases h1.2 with ⟨h0, _⟩ | ⟨q', cap', cur', h0, _, hc', _⟩
    · cases h0
    · cases h0
      rw [hc] at hc'
      simp at hc'
theorem boxN_neR {W : World} {base' g b : Nat} {x y z : Value} {n c : Nat} {ess : List (List (Int × Int))} {S : List Nat} (h : BoxN W b x y z) (hg : OwnEE W base' (.slice (some ⟨g, 0, none⟩) n c) ess S) : b ≠ g := by
  intro e
  subst e
  obtain ⟨vs, Ss, h1, _⟩ := hg
  rcases h1.2 with ⟨h0, _⟩ | ⟨q', cap', cur', h0, _, hc', _⟩
  · cases h0
  · cases h0
    unfold BoxN at h
    rw [h] at hc'
    simp at hc'
/-- append of a row of ends, empty or not -/
theorem app_endsE {w w0 : World} {ops : Array Oper} {rest : List Oper} {o : Oper} {a : Act} {Q : Exit → Act → World → Prop} (hgd : o.guard = none) (s x : Operand)
    (ho : o.op = .call { callee := .builtin .append, args := #[s, x], argTypes := #[53, 53] }) {v u : Value} {xs ys : List (Int × Int)} {T : List Nat} (hs : a.eval s = v) (h : OwnE w w0.heap.size v xs T) (hy : EndS w u ys)
    (hx : a.eval x = u) (hl : xs.length + ys.length ≤ 1000000) (hsn : Since w0 w)
    (k : ∀ v' w' T', OwnE w' w0.heap.size v' (xs ++ ys) T' → (∀ j ∈ T', j ∈ T ∨ j = w.heap.size) → Only T w w' → Since w0 w' → wpList Try.prog ops Q rest (a.put o.dst v') w') : wpList Try.prog ops Q (o :: rest) a w := by
  obtain ⟨i0, hi, hz0, hz1, hz2⟩ := info_parts end_info
  obtain ⟨A, c, rfl, _, _, hA⟩ := hy
  have hlt := fun q hq => World.ownsRow.lt h.1 q hq
  rcases Nat.eq_zero_or_pos ys.length with h0 | h0
  · have hys : ys = [] := List.eq_nil_of_length_eq_zero h0
    subst hys
    refine wpList_plain hgd fun K hK => ?_
    have hrun : (Builtin.append_ #[53, 53] o.type #[v, .slice A 0 c]).run Try.prog w = .ok v w := by
      rcases h.1.2 with ⟨rfl, hx0⟩ | ⟨g, cap, cur, rfl, _, _, hnc, _⟩
      · cases A <;> simp [Builtin.append_, run_underlying Try.underlying53, sizeOf, typeInfo, hi, Builtin.lenOf, Builtin.firstCells, loadCells, loadCellsFrom, Result.andThen]
      · cases A <;> simp [Builtin.append_, run_underlying Try.underlying53, sizeOf, typeInfo, hi, Builtin.lenOf, Builtin.firstCells, hnc, storeCells, loadCells, loadCellsFrom, Result.andThen]
    simp only [List.length_nil] at hx
    unfold Oper.wp
    simp [execOp, ho, resolve, invoke, builtin, hs, hx, hrun, Result.andThen]
    exact hK _ _ (k v w T (by simpa using h) (fun j hj => .inl hj) (Only.refl _ _) hsn)
  · obtain ⟨y0, hy0⟩ := getx ys 0 h0
    obtain ⟨b, off, rfl, _⟩ := hA 0 y0 hy0
    refine wpList_append_lies w hgd s x 53 ho w0.heap.size 57 i0 _ 2 16 Try.underlying53 hi hz0 hz1 hz2 rfl (by decide) v xs.length (xs.flatMap encE) hs h.1 ⟨b, off, none⟩ ys.length c (ys.flatMap encE) hx (encE_len ys)
      (by
        intro j u hj
        have hj2 := lt_of_get hj
        rw [encE_len] at hj2
        obtain ⟨e, he⟩ := getx ys (j / 2) (by omega)
        obtain ⟨b', off', e', c1, c2⟩ := hA (j / 2) e he
        cases e'
        obtain ⟨g1, g2⟩ := encE_get he
        rw [Go.Addr.add_lit]
        rcases Nat.mod_two_eq_zero_or_one j with hm | hm
        · have e1 : j / 2 * 2 = j := by omega
          rw [e1] at c1 g1
          rw [g1] at hj
          rw [c1]; exact hj
        · have e1 : j / 2 * 2 + 1 = j := by omega
          rw [e1] at g2
          rw [show off + j / 2 * 2 + 1 = off + j by omega] at c2
          rw [g2] at hj
          rw [c2]; exact hj) (by intro u hu; obtain ⟨x, _, hx⟩ := List.mem_flatMap.1 hu; simp [encE] at hx; rcases hx with rfl | rfl <;> rfl) h0 (by unfold maxLen; omega) (by omega) hsn.below.size w.heap.size rfl ?_
    intro g cap w' q1 q2 q3 q4
    have hT := h.2
    refine k _ w' _ ⟨?_, rfl⟩ ?_ (by rw [hT]; exact Only.of_grown q2) (Below.grown hsn q2 hsn.below.size (fun q hq => (hlt q hq).1))
    · rw [List.flatMap_append, List.length_append]
      exact q1
    · intro j hj
      simp [Value.ownBlock] at hj
      subst hj
      rcases q3 with q3 | q3
      · left; rw [hT, q3]; simp
      · exact .inr q3
/-- a row of rows, one row more -/
theorem OwnRows.snoc {β : Type} {R : World → Nat → Value → β → List Nat → Prop} {e : TypeId} (L : RowLaw R) {w w' : World} {base g cap : Nat} {v u : Value} {xs : List β} {x : β} {S T : List Nat} (h : OwnRows e R w base v xs S) (hu : R w base u x T) (hd : ∀ j ∈ T, j ∉ S)
    (vs : List Value) (Ss : List (List Nat)) (h1 : w.ownsRow base e 1 v xs.length vs) (h2 : Ss.length = xs.length) (h3 : ∀ (k : Nat) u x T, vs[k]? = some u → xs[k]? = some x → Ss[k]? = some T → R w base u x T) (h4 : S = v.ownBlock.toList ++ Ss.flatten) (h5 : S.Nodup)
    (q1 : w'.ownsRow base e 1 (.slice (some ⟨g, 0, none⟩) (xs.length + 1) cap) (xs.length + 1) (vs ++ [u])) (q2 : w.grownBy w' v.ownBlock) (q3 : v.ownBlock = some g ∨ g = w.heap.size) :
    ∃ S', OwnRows e R w' base (.slice (some ⟨g, 0, none⟩) (xs.length + 1) cap) (xs ++ [x]) S' ∧ (∀ j ∈ S', j ∈ S ∨ j ∈ T ∨ j = w.heap.size) := by
  have hS := (rows_law e L).range h
  have hTr := L.range hu
  have hvl : vs.length = xs.length := by simpa using h1.1
  have h5' := h5
  rw [h4, List.nodup_append] at h5'
  have hin : ∀ j ∈ Ss.flatten, j ∈ S := fun j hj => by rw [h4]; exact List.mem_append_right _ hj
  have hon := Only.of_grown q2
  have hnv : ∀ j ∈ Ss.flatten, j ∉ v.ownBlock.toList := fun j hj hv => h5'.2.2 j hv j hj rfl
  have hTv : ∀ j ∈ T, j ∉ v.ownBlock.toList := fun j hj hv => hd j hj (by rw [h4]; exact List.mem_append_left _ hv)
  have hg : g ∉ Ss.flatten := fun hg => by
    rcases q3 with q3 | q3
    · exact hnv g hg (by rw [q3]; simp)
    · have := (hS g (hin g hg)).2; omega
  have hgT : g ∉ T := fun hg => by
    rcases q3 with q3 | q3
    · exact hTv g hg (by rw [q3]; simp)
    · have := (hTr g hg).2; omega
  refine ⟨[g] ++ (Ss ++ [T]).flatten, ⟨vs ++ [u], Ss ++ [T], ?_, by simp [h2], ?_, by simp [Value.ownBlock], ?_⟩, ?_⟩
  · rw [List.length_append]; exact q1
  · intro k u' x' T' hu' hx' hT'
    rcases Nat.lt_or_ge k xs.length with hk | hk
    · rw [List.getElem?_append_left (by omega)] at hu' hx' hT'
      exact L.only (h3 k u' x' T' hu' hx' hT') hon (fun j hj => hnv j (List.mem_flatten.2 ⟨T', List.mem_of_getElem? hT', hj⟩))
    · have hk1 : k = xs.length := by
        have := lt_of_get hx'
        simp at this; omega
      subst hk1
      rw [List.getElem?_append_right (Nat.le_refl _), Nat.sub_self] at hx'
      rw [← hvl, List.getElem?_append_right (Nat.le_refl _), Nat.sub_self] at hu'
      rw [← h2, List.getElem?_append_right (Nat.le_refl _), Nat.sub_self] at hT'
      simp at hu' hx' hT'
      subst hu' hx' hT'
      exact L.only hu hon hTv
  · rw [List.flatten_append, List.nodup_append]
    refine ⟨by simp, ?_, ?_⟩
    · rw [List.nodup_append]
      refine ⟨h5'.2.1, by simpa using L.nodup hu, ?_⟩
      intro a ha b hb e
      simp at hb
      subst e
      exact hd a hb (hin a ha)
    · intro a ha b hb e
      simp at ha
      subst e ha
      rcases List.mem_append.1 hb with hb | hb
      · exact hg hb
      · simp at hb; exact hgT hb
  · intro j hj
    rw [List.flatten_append] at hj
    rcases List.mem_append.1 hj with hj | hj
    · simp at hj
      subst hj
      rcases q3 with q3 | q3
      · left; rw [h4, q3]; simp
      · exact .inr (.inr q3)
    · rcases List.mem_append.1 hj with hj | hj
      · exact .inl (hin j hj)
      · simp at hj; exact .inr (.inl hj)
/-- append of a row to a network's ends -/
theorem app_rowN {w wT : World} {ops : Array Oper} {rest : List Oper} {o : Oper} {a : Act} {Q : Exit → Act → World → Prop} (hgd : o.guard = none) (s x : Operand)
    (ho : o.op = .call { callee := .builtin .append, args := #[s, x], argTypes := #[30, 30] }) {base : Nat} {v ui un u : Value} {N : Net} {S T : List Nat} {es : List (Int × Int)} (hs : a.eval s = v) (h : OwnNet w base v ui un N S)
    (b : Nat) (hx : a.eval x = .slice (some ⟨b, 0, none⟩) 1 1) (hc : w.cell? ⟨b, 0, none⟩ = some u) (hu : OwnE w base u es T) (hd : ∀ j ∈ T, j ∉ S) (hl : N.ends.length + 1 ≤ 1000000) (hsn : Since wT w) (hbs : base ≤ w.heap.size) (hvT : ∀ q, v.ownBlock = some q → wT.heap.size ≤ q)
    (k : ∀ v' w' S', (∀ q, v'.ownBlock = some q → v.ownBlock = some q ∨ q = w.heap.size) → OwnNet w' base v' ui un { N with ends := N.ends ++ [es] } S' → (∀ j ∈ S', j ∈ S ∨ j ∈ T ∨ j = w.heap.size) → Only S w w' → Since wT w' → wpList Try.prog ops Q rest (a.put o.dst v') w') : wpList Try.prog ops Q (o :: rest) a w := by
  obtain ⟨i0, hi, hz0, hz1, hz2⟩ := info_parts es_info
  have hrg := h.range
  obtain ⟨S1, S2, S3, h1, h2, h3, h4, h5⟩ := h
  have h1b := h1
  obtain ⟨vs, Ss, r1, r2, r3, r4, r5⟩ := h1
  obtain ⟨A, m, c, rfl⟩ := lawE.one hu
  refine wpList_append_lies w hgd s x 30 ho base 53 i0 _ 1 24 Try.underlying30 hi hz0 hz1 hz2 rfl (by decide) v N.ends.length vs hs r1 ⟨b, 0, none⟩ 1 1 [.slice A m c] hx rfl
    (by intro j u hj; match j, hj with | 0, hj => (simp at hj; subst hj; simpa [Addr.add] using hc) | j + 1, hj => simp at hj) (by simp [Value.oneCell']) (by omega) (by unfold maxLen; omega) (by omega) hbs w.heap.size rfl ?_
  intro g cap w' q1 q2 q3 q4
  rw [h4, List.nodup_append] at h5
  obtain ⟨n1, n2, n3⟩ := h5
  have hd1 : ∀ j ∈ T, j ∉ S1 := fun j hj hS => hd j hj (by rw [h4]; exact List.mem_append_left _ hS)
  obtain ⟨S1', o1, hS1⟩ := OwnRows.snoc lawE h1b hu hd1 vs Ss r1 r2 r3 r4 r5 q1 q2 q3
  have hon := Only.of_grown q2
  have hvS : ∀ j ∈ v.ownBlock.toList, j ∈ S1 := fun j hj => by rw [r4]; exact List.mem_append_left _ hj
  have d : ∀ j ∈ S2 ++ S3, j ∉ v.ownBlock.toList := fun j hj hv => n3 j (hvS j hv) j hj rfl
  refine k _ w' (S1' ++ (S2 ++ S3)) (fun q hq => by simp [Value.ownBlock] at hq; subst hq; exact q3) ⟨S1', S2, S3, ?_, lawI.only h2 hon (fun j hj => d j (List.mem_append_left _ hj)), lawI.only h3 hon (fun j hj => d j (List.mem_append_right _ hj)), rfl, ?_⟩ ?_ (hon.mono fun j hj => by rw [h4]; exact List.mem_append_left _ (hvS j hj)) (Below.grown hsn q2 hsn.below.size hvT)
  · exact o1
  · rw [List.nodup_append]
    refine ⟨lawEE.nodup o1, n2, fun a ha b hb hab => ?_⟩
    subst hab
    rcases hS1 a ha with h | h | h
    · exact n3 a h a hb rfl
    · exact hd a h (by rw [h4]; exact List.mem_append_right _ hb)
    · have := (hrg a (by rw [h4]; exact List.mem_append_right _ hb)).2
      omega
  · intro j hj
    rcases List.mem_append.1 hj with hj | hj
    · rcases hS1 j hj with h | h | h
      · exact .inl (by rw [h4]; exact List.mem_append_left _ h)
      · exact .inr (.inl h)
      · exact .inr (.inr h)
    · exact .inl (by rw [h4]; exact List.mem_append_right _ hj)
/-- ends stored in the row of a network -/
theorem OwnNet.setEnd {w : World} {base g c n : Nat} {vi vn : Value} {N : Net} {S : List Nat} (h : OwnNet w base (.slice (some ⟨g, 0, none⟩) n c) vi vn N S) {k j : Nat} {es : List (Int × Int)} (hx : N.ends[k]? = some es) (hj : j < es.length) :
    ∃ gr cr, w.cell? ⟨g, k, none⟩ = some (.slice (some ⟨gr, 0, none⟩) es.length cr) ∧ es.length ≤ cr ∧ cr ≤ maxLen ∧ g ∈ S ∧ gr ∈ S ∧ g ≠ gr ∧ (w.frozen? ⟨gr, j * 2, none⟩ = false ∧ w.frozen? ⟨gr, j * 2 + 1, none⟩ = false) ∧ (∃ z, w.cell? ⟨gr, j * 2, none⟩ = some z) ∧ (∃ z, w.cell? ⟨gr, j * 2 + 1, none⟩ = some z) ∧
      ∀ y : Int × Int, OwnNet ((w.setCell ⟨gr, j * 2, none⟩ (.int .i64 y.1)).setCell ⟨gr, j * 2 + 1, none⟩ (.int .i64 y.2)) base (.slice (some ⟨g, 0, none⟩) n c) vi vn { N with ends := N.ends.set k (es.set j y) } S := by
  obtain ⟨S1, S2, S3, h1, h2, h3, h4, h5⟩ := h
  obtain ⟨u, T, hu, hR, hT, hup⟩ := OwnRows.touch lawE h1 hx
  have hnd := (rows_law _ lawE).nodup h1
  obtain ⟨_, _, _, _, _, hdis, _, hg1⟩ := OwnRows.at_ h1 hx
  rw [h4, List.nodup_append] at h5
  obtain ⟨n1, n2, n3⟩ := h5
  have hR' := hR.1
  rcases ownsRow_cases hR.1 with ⟨rfl, h0⟩ | ⟨gr, cr, rfl, hb1, hb2, hb3, hb4⟩
  · omega
  · have hgrT : gr ∈ T := by rw [hR.2]; simp [Value.ownBlock]
    obtain ⟨y0, hy0⟩ := getx es j hj
    obtain ⟨c1, c2, ff⟩ := OwnE.cells hR hy0
    have hne : g ≠ gr := fun e => by
      subst e
      obtain ⟨vs, Ss, e1, _⟩ := h1
      rcases e1.2 with ⟨h0, _⟩ | ⟨q', cap', cur', h0, _, hc', _⟩
      · cases h0
      · cases h0
        rcases hR'.2 with ⟨h0, _⟩ | ⟨q'', cap'', cur'', h0, _, hc'', _⟩
        · cases h0
        · cases h0
          rw [hc'] at hc''
          simp at hc''
    refine ⟨gr, cr, hu, hb3, hb4, by rw [h4]; exact List.mem_append_left _ hg1, by rw [h4]; exact List.mem_append_left _ (hT gr hgrT), hne, ff, ⟨_, c1⟩, ⟨_, c2⟩, fun y => ?_⟩
    have hon : Only T w ((w.setCell ⟨gr, j * 2, none⟩ (.int .i64 y.1)).setCell ⟨gr, j * 2 + 1, none⟩ (.int .i64 y.2)) := ((Only.refl _ _).setCell (.inl hgrT) _).setCell (.inl hgrT) _
    have d : ∀ q ∈ S2 ++ S3, q ∉ T := fun q hq hqT => n3 q (hT q hqT) q hq rfl
    exact ⟨S1, S2, S3, hup _ _ (OwnE.set hR hj y) hon, lawI.only h2 hon (fun q hq => d q (List.mem_append_left _ hq)), lawI.only h3 hon (fun q hq => d q (List.mem_append_right _ hq)), h4, by rw [h4, List.nodup_append]; exact ⟨n1, n2, n3⟩⟩
theorem trunc_box {w : World} {b : Nat} {x y z : Value} (h : BoxN w b x y z) : BoxN (trunc w (b + 1)) b x y z := by
  have := h.lt
  unfold BoxN at h ⊢
  simp only [trunc, Array.getElem?_extract]
  rw [if_pos (by omega)]
  simpa using h
theorem BoxN.only {S : List Nat} {W W' : World} {b : Nat} {x y z : Value} (h : BoxN W b x y z) (ho : Only S W W') (hb : b ∉ S) : BoxN W' b x y z := (ho.block b h.lt hb).trans h
theorem BoxN.put0 {W : World} {b : Nat} {x y z : Value} (h : BoxN W b x y z) (u : Value) : BoxN (W.setCell ⟨b, 0, none⟩ u) b u y z := by
  unfold BoxN at h ⊢
  simp [World.setCell, Array.getElem?_modify, h]
theorem BoxN.put1 {W : World} {b : Nat} {x y z : Value} (h : BoxN W b x y z) (u : Value) : BoxN (W.setCell ⟨b, 1, none⟩ u) b x u z := by
  unfold BoxN at h ⊢
  simp [World.setCell, Array.getElem?_modify, h]
theorem BoxN.put2 {W : World} {b : Nat} {x y z : Value} (h : BoxN W b x y z) (u : Value) : BoxN (W.setCell ⟨b, 2, none⟩ u) b x y u := by
  unfold BoxN at h ⊢
  simp [World.setCell, Array.getElem?_modify, h]
theorem BoxN.other {W : World} {b : Nat} {x y z u : Value} {a : Addr} (h : BoxN W b x y z) (ha : b ≠ a.block) : BoxN (W.setCell a u) b x y z := (Below.heap_setCell W a u b ha).trans h
theorem ownNet_of {w : World} {base : Nat} {v ui un : Value} {ess : List (List (Int × Int))} {ids ins : List Int} {S1 : List Nat} (hE : OwnEE w base v ess S1) (h1 : Own w base ui ids) (h2 : Own w base un ins)
    (d1 : ∀ j ∈ S1, ui.ownBlock ≠ some j) (d2 : ∀ j ∈ S1, un.ownBlock ≠ some j) (d3 : ∀ j, ui.ownBlock = some j → un.ownBlock ≠ some j) :
    OwnNet w base v ui un ⟨ess, ids, ins⟩ (S1 ++ (ui.ownBlock.toList ++ un.ownBlock.toList)) := by
  refine ⟨S1, _, _, hE, ⟨h1, rfl⟩, ⟨h2, rfl⟩, rfl, ?_⟩
  rw [List.nodup_append, List.nodup_append]
  refine ⟨lawEE.nodup hE, ⟨by cases ui.ownBlock <;> simp, by cases un.ownBlock <;> simp, ?_⟩, ?_⟩
  · intro a ha b hb e
    subst e
    exact d3 a (by simpa using ha) (by simpa using hb)
  · intro a ha b hb e
    subst e
    rcases List.mem_append.1 hb with hb | hb
    · exact d1 a ha (by simpa using hb)
    · exact d2 a ha (by simpa using hb)
theorem app_zeroI {w : World} {ops : Array Oper} {rest : List Oper} {o : Oper} {a : Act} {Q : Exit → Act → World → Prop} (hgd : o.guard = none) (s x : Operand)
    (ho : o.op = .call { callee := .builtin .append, args := #[s, x], argTypes := #[23, 23] }) {base : Nat} {v : Value} {xs : List Int} (hs : a.eval s = v) (h : Own w base v xs) (A : Option Addr) (c : Nat) (hx : a.eval x = .slice A 0 c)
    (k : wpList Try.prog ops Q rest (a.put o.dst v) w) : wpList Try.prog ops Q (o :: rest) a w := by
  obtain ⟨i0, hi, hz0, hz1, hz2⟩ := info_parts int_info
  refine wpList_plain hgd fun K hK => ?_
  have hrun : (Builtin.append_ #[23, 23] o.type #[v, .slice A 0 c]).run Try.prog w = .ok v w := by
    rcases h.2 with ⟨rfl, hx0⟩ | ⟨g, cap, cur, rfl, _, _, hnc, _⟩
    · cases A <;> simp [Builtin.append_, run_underlying Try.underlying23, sizeOf, typeInfo, hi, Builtin.lenOf, Builtin.firstCells, loadCells, loadCellsFrom, Result.andThen]
    · cases A <;> simp [Builtin.append_, run_underlying Try.underlying23, sizeOf, typeInfo, hi, Builtin.lenOf, Builtin.firstCells, hnc, storeCells, loadCells, loadCellsFrom, Result.andThen]
  unfold Oper.wp
  simp [execOp, ho, resolve, invoke, builtin, hs, hx, hrun, Result.andThen]
  exact hK _ _ k
theorem ownE_lit0 (w : World) : OwnE (w.alloc (.cells #[] 57)) w.heap.size (.slice (some ⟨w.heap.size, 0, none⟩) 0 0) [] [w.heap.size] := by
  have := World.ownsRow_lit (base := w.heap.size) (e := 57) (size := 2) w #[] 0 (Nat.le_refl _) (by simp [maxLen]) (by simp)
  exact ⟨this, rfl⟩
set_option maxHeartbeats 1000000 in
theorem l1Own_all (v : Value) (xs : List Int) (w : World) (h : IntS w v xs) (hl : xs.length ≤ 17592186044416) :
    Calls Try.prog 67 #[v] w fun e w' => ∃ u, e = .returned u ∧ Own w' w.heap.size u xs ∧ Below w.heap.size w w' := by
  rcases Nat.eq_zero_or_pos xs.length with h0 | h0
  · obtain rfl : xs = [] := List.eq_nil_of_length_eq_zero h0
    obtain ⟨A, c, rfl, hlc, hm, _⟩ := h
    have ho := own_lit w [] (by simp [maxLen])
    simp only [List.map_nil, List.length_nil] at ho
    have Ho := Lib.hid ho
    clear ho
    go_enter Try.func67, Try.ntmps67
    go_wp2_with (at_builtin; refine app_zeroI rfl _ _ rfl rfl Ho.out A c rfl ?_)
    go_wp2
    go_ret
    exact ⟨_, rfl, Ho.out, below_alloc _ _⟩
  · exact l1Own_any v xs w h h0 hl
set_option maxRecDepth 100000 in
set_option maxHeartbeats 1000000 in
theorem cloneE_any (v : Value) (es : List (Int × Int)) (w : World) (h : EndS w v es) (hl : es.length ≤ 1000000) :
    Calls Try.prog 59 #[v] w fun e w' => ∃ u T, e = .returned u ∧ OwnE w' w.heap.size u es T ∧ Below w.heap.size w w' := by
  have hE := h
  have q53 : ∀ (w : World) (a : Option Addr) (n c n' c' : Nat), (binOp .eql 53 (.slice a n c) (.slice none n' c')).run Try.prog w = .ok (.bool a.isNone) w := fun w a n c n' c' => Lib.run_eql_slice_nil w _ _ a n c n' c' Try.underlying53
  obtain ⟨A, c, rfl, hlc, hm, hA⟩ := h
  cases A with
  | none =>
    have h0 : es = [] := by
      cases es with
      | nil => rfl
      | cons e es =>
        obtain ⟨_, _, h, _⟩ := hA 0 e rfl
        cases h
    subst h0
    go_enter Try.func59, Try.ntmps59
    go_wp2
    go_ret
    exact ⟨_, _, rfl, ⟨World.ownsRow_nil _ _ _ _, rfl⟩, Below.refl _ _⟩
  | some A =>
    have Ho := Lib.hid (ownE_lit0 w)
    have HE := Lib.hid (hE.keep (below_alloc w (.cells #[] 57)))
    clear hE hA
    go_enter Try.func59, Try.ntmps59
    go_wp2_with (at_builtin; refine app_endsE (w0 := w) rfl _ _ rfl rfl Ho.out HE.out rfl (by simpa using hl) (since_alloc _ (since_refl _)) ?_; intro v9 w9 T9 ho9 _ _ hs9)
    have Ho9 := Lib.hid ho9
    have Hs9 := Lib.hid hs9
    clear ho9 hs9
    go_wp2
    go_ret
    exact ⟨_, _, rfl, by simpa using Ho9.out, Hs9.out.below⟩
end Go.Proofs.Ythgbobikbdklhaa
namespace Go.Proofs.Ythgbobikbdklhaa
end Go.Proofs.Ythgbobikbdklhaa
namespace Go.Proofs.Ythgbobikbdklhaa
open Go.RowKit
theorem netOk_row {n : Net} (h : netOk n = true) {k : Nat} {es : List (Int × Int)} (hes : n.ends[k]? = some es) : es.length ≤ 6 ∧ ∀ e ∈ es, 0 ≤ e.1 ∧ e.1 < n.ends.length := by
  have hk := lt_of_get hes
  have h' := h
  unfold netOk at h
  rw [Bool.and_eq_true, List.all_eq_true] at h
  have := h.2 k (List.mem_range.2 hk)
  rw [getD_of hes] at this
  unfold rowOkB at this
  rw [Bool.and_eq_true, List.all_eq_true] at this
  refine ⟨by simpa using this.1, fun e he => ?_⟩
  obtain ⟨j, hj⟩ := List.getElem?_of_mem he
  have := this.2 j (List.mem_range.2 (lt_of_get hj))
  rw [getD_of hj] at this
  unfold endOkB at this
  rw [Bool.and_eq_true] at this
  exact hasPort_lt this.1
end Go.Proofs.Ythgbobikbdklhaa
