/- Parts of the proof: walks of functions and plain laws. -/
import Derived.Test.YtlfehdikgbgloaaGreatP17
import Derived.Test.YtlfehdikgbgloaaGreatP12
import Derived.Test.YtlfehdikgbgloaaGreatP11
import Derived.Test.YtlfehdikgbgloaaGreatP3
namespace Go.Proofs.YtlfehdikgbgloaaGreat
open Go.RowKit
set_option maxRecDepth 100000 in
set_option maxHeartbeats 8000000 in
theorem fnExactFirstAsyncFault_spec (ma mb mc md ve vi vn xa xb xc xd xf : Value) (m : Mac) (n : Net) (x : ASt) (w : World) (hMa : MacIn w ma mb mc md m) (h : NetIn w ve vi vn n) (hx : AsIn w xa xb xc xd xf x) (_ : szMac m ≤ 1048576) (hn : szNet n ≤ 1048576) (_ : szAs x ≤ 1048576) :
    Calls Tryz.prog 45 #[.agg #[.int .i64 m.degree, .int .i64 m.states, .int .i64 m.messages, ma, mb, mc, md], .agg #[ve, vi, vn], .agg #[xa, xb, xc, xd, xf]] w fun e w' => e = .returned (.tuple #[.int .i64 (fnExactFirstAsyncFault_r0 m n x), .bool (fnExactFirstAsyncFault_r1 m n x)]) ∧ Below w.heap.size w w' := by
  have Hil : Hid (n.ids.length ≤ 17592186044416) := by show _ ≤ _; unfold szNet at hn; omega
  clear hn
  obtain ⟨w0, hw0⟩ : ∃ w0, w0 = (((w).alloc (.cells #[.int .i64 m.degree, .int .i64 m.states, .int .i64 m.messages, ma, mb, mc, md] 62)).alloc (.cells #[ve, vi, vn] 31)).alloc (.cells #[xa, xb, xc, xd, xf] 66) := ⟨_, rfl⟩
  have hb0 : Below w.heap.size w w0 := by rw [hw0]; exact ((((Below.refl _ _).alloc (by simp <;> omega) _).alloc (by simp <;> omega) _).alloc (by simp <;> omega) _)
  have H := Lib.hid (h.keep hb0)
  obtain ⟨h1, h2, h3⟩ := h.keep hb0
  obtain ⟨A, c, rfl, hlc, hm, hA⟩ := h1
  obtain ⟨A2, c2, rfl, _, hm2, _⟩ := h2
  obtain ⟨A3, c3, rfl, _, hm3, _⟩ := h3
  unfold maxLen at hm hm2 hm3
  have hkM := hMa.keep hb0
  have HM := Lib.hid hkM
  obtain ⟨M0, mz0, rfl, hlM0, hmM0, hMe0⟩ := id hkM.1
  unfold maxLen at hmM0
  have HMe0 := Lib.hid hMe0
  clear hMe0
  obtain ⟨M1, mz1, rfl, hlM1, hmM1, hMe1⟩ := id hkM.2.1
  unfold maxLen at hmM1
  have HMe1 := Lib.hid hMe1
  clear hMe1
  obtain ⟨M2, mz2, rfl, hlM2, hmM2, hMe2⟩ := id hkM.2.2.1
  unfold maxLen at hmM2
  have HMe2 := Lib.hid hMe2
  clear hMe2
  obtain ⟨M3, mz3, rfl, hlM3, hmM3, hMe3⟩ := id hkM.2.2.2
  unfold maxLen at hmM3
  have HMe3 := Lib.hid hMe3
  clear hMe3
  clear hkM hMa
  have hkX := hx.keep hb0
  have HX := Lib.hid hkX
  obtain ⟨X0, xz0, rfl, hlX0, hmX0, hXe0⟩ := id hkX.1
  unfold maxLen at hmX0
  have HXe0 := Lib.hid hXe0
  clear hXe0
  obtain ⟨X1, xz1, rfl, hlX1, hmX1, hXe1⟩ := id hkX.2.1
  unfold maxLen at hmX1
  have HXe1 := Lib.hid hXe1
  clear hXe1
  obtain ⟨X2, xz2, rfl, hlX2, hmX2, hXe2⟩ := id hkX.2.2.1
  unfold maxLen at hmX2
  have HXe2 := Lib.hid hXe2
  clear hXe2
  obtain ⟨X3, xz3, rfl, hlX3, hmX3, hXe3⟩ := id hkX.2.2.2.1
  unfold maxLen at hmX3
  have HXe3 := Lib.hid hXe3
  clear hXe3
  obtain ⟨X4, xz4, rfl, hlX4, hmX4, hXe4⟩ := id hkX.2.2.2.2
  unfold maxLen at hmX4
  have HXe4 := Lib.hid hXe4
  clear hXe4
  clear hkX hx
  have p00 : ∀ W, Since w0 W → W.cell? ⟨w.heap.size, 0, none⟩ = some (.int .i64 m.degree) := have_cell (by rw [hw0]; simp [go_sem])
  have p01 : ∀ W, Since w0 W → W.cell? ⟨w.heap.size, 1, none⟩ = some (.int .i64 m.states) := have_cell (by rw [hw0]; simp [go_sem])
  have p02 : ∀ W, Since w0 W → W.cell? ⟨w.heap.size, 2, none⟩ = some (.int .i64 m.messages) := have_cell (by rw [hw0]; simp [go_sem])
  have p03 : ∀ W, Since w0 W → W.cell? ⟨w.heap.size, 3, none⟩ = some (.slice M0 m.start.length mz0) := have_cell (by rw [hw0]; simp [go_sem])
  have p04 : ∀ W, Since w0 W → W.cell? ⟨w.heap.size, 4, none⟩ = some (.slice M1 m.send.length mz1) := have_cell (by rw [hw0]; simp [go_sem])
  have p05 : ∀ W, Since w0 W → W.cell? ⟨w.heap.size, 5, none⟩ = some (.slice M2 m.clauses.length mz2) := have_cell (by rw [hw0]; simp [go_sem])
  have p06 : ∀ W, Since w0 W → W.cell? ⟨w.heap.size, 6, none⟩ = some (.slice M3 m.output.length mz3) := have_cell (by rw [hw0]; simp [go_sem])
  have p10 : ∀ W, Since w0 W → W.cell? ⟨w.heap.size + 1, 0, none⟩ = some (.slice A n.ends.length c) := have_cell (by rw [hw0]; simp [go_sem])
  have p11 : ∀ W, Since w0 W → W.cell? ⟨w.heap.size + 1, 1, none⟩ = some (.slice A2 n.ids.length c2) := have_cell (by rw [hw0]; simp [go_sem])
  have p12 : ∀ W, Since w0 W → W.cell? ⟨w.heap.size + 1, 2, none⟩ = some (.slice A3 n.inputs.length c3) := have_cell (by rw [hw0]; simp [go_sem])
  have p20 : ∀ W, Since w0 W → W.cell? ⟨w.heap.size + 1 + 1, 0, none⟩ = some (.slice X0 x.rounds.length xz0) := have_cell (by rw [hw0]; simp [go_sem])
  have p21 : ∀ W, Since w0 W → W.cell? ⟨w.heap.size + 1 + 1, 1, none⟩ = some (.slice X1 x.before.length xz1) := have_cell (by rw [hw0]; simp [go_sem])
  have p22 : ∀ W, Since w0 W → W.cell? ⟨w.heap.size + 1 + 1, 2, none⟩ = some (.slice X2 x.now.length xz2) := have_cell (by rw [hw0]; simp [go_sem])
  have p23 : ∀ W, Since w0 W → W.cell? ⟨w.heap.size + 1 + 1, 3, none⟩ = some (.slice X3 x.slots.length xz3) := have_cell (by rw [hw0]; simp [go_sem])
  have p24 : ∀ W, Since w0 W → W.cell? ⟨w.heap.size + 1 + 1, 4, none⟩ = some (.slice X4 x.flight.length xz4) := have_cell (by rw [hw0]; simp [go_sem])
  have Hb0 := Lib.hid hb0
  have Hw0 := Lib.hid hw0
  have HA := Lib.hid hA
  clear hA h
  clear hb0 hw0
  have hs0 : Since w0 w0 := since_refl _
  go_enter Tryz.func45, Tryz.ntmps45
  go_upto_region 1 with (fail)
  rw [← Hw0.out]
  go_wp2_with fail
  refine (syGood_any _ _ _ _ _ _ _ _ _ _ _ _ m n x w0 HM.out H.out HX.out Hil.out).mono ?_
  rintro e w1 ⟨rfl, hb1⟩
  have hs1 : Since w0 w1 := hb1
  clear hb1 hs0
  cases hg : syGoodB m n x
  · have Hr := Lib.hid (ff_false hg)
    have HS := Lib.hid hs1
    clear hg hs1
    go_wp2
    go_ret2
    exact ⟨congrArg Ending.returned Hr.out, Since.after Hb0.out HS.out⟩
  · have Hg := Lib.hid hg
    have G := Lib.hid (good3 hg)
    clear hg
    go_wp2_with fail
    refine (maRun_any _ _ _ _ _ _ _ m n 40 w1 (HM.out.keep hs1.below) (H.out.keep hs1.below) G.out.asked (by omega)).mono ?_
    rintro e w2 ⟨u, S, rfl, ho, hb2⟩
    obtain ⟨AR, cR, rfl, hRl, hRm, _⟩ := id (OwnII.read ho)
    have Hss := Lib.hid (OwnII.read ho)
    have hrl : (runL m n (40 + 1)).length = 41 := by rw [runL_len]
    rw [hrl] at hRl ⊢
    unfold maxLen at hRm
    have hs2 : Since w0 w2 := hs1.trans hb2
    have hz2 : Since w2 w2 := since_refl _
    have t20 := lift_cell p20 hs2
    have t22 := lift_cell p22 hs2
    clear hs1 hb2 ho hrl p00 p01 p02 p03 p04 p05 p06 p10 p11 p12 p20 p21 p22 p23 p24
    go_wp2
    go_loopw [22] (fun i wr => ∃ k : Nat, k ≤ x.rounds.length ∧ i = .int .i64 k ∧ (List.range k).any (badA m n x) = false ∧ Since w2 wr) (fun i _ => x.rounds.length - (intOf i).toNat)
    case atStart => exact ⟨0, Nat.zero_le _, rfl, rfl, hz2⟩
    case round =>
      obtain ⟨k, hk, rfl, hal, hsr⟩ := hrel
      have Hal := Lib.hid hal
      clear hal hz2
      by_cases hlt : k < x.rounds.length
      · obtain ⟨r, hrx⟩ := getx x.rounds k hlt
        obtain ⟨r1, r2⟩ := G.out.rb r (List.mem_of_getElem? hrx)
        obtain ⟨rN, rfl⟩ := Int.eq_ofNat_of_zero_le r1
        have hkn : k < n.ends.length := by have := G.out.rl; omega
        obtain ⟨nw, hnw⟩ := getx x.now k (by have := G.out.nl; omega)
        have hrow := runL_get (m := m) (n := n) (k := 40 + 1) (j := rN) (by omega)
        have hro := run_ok G.out.asked rN
        obtain ⟨y, hy⟩ := getx (runA m n rN) k (by rw [hro.1]; exact hkn)
        obtain ⟨b1, off1, hA1, hc1⟩ := HXe0.out k _ hrx
        obtain ⟨b2, off2, hA2, hc2⟩ := HXe2.out k _ hnw
        obtain ⟨b3, off3, b4, off4, z4, hA3, hc3, hz3, hz4, hc4⟩ := tab_at Hss.out hrow hy
        subst hA1 hA2 hA3
        have q1 := have_cell (hs2.cell hc1)
        have q2 := have_cell (hs2.cell hc2)
        have q3 := have_cell hc3
        have q4 := have_cell hc4
        have hkr : k < (runA m n rN).length := lt_of_get hy
        have hkw : k < x.now.length := lt_of_get hnw
        have hr41 : (rN : Int) < 41 := by omega
        have Hb := Lib.hid (show badA m n x k = (nw != y) by unfold badA; rw [getD_of hnw, getD_of hrx, Int.toNat_natCast, getD_of hy])
        clear hrx r1 r2 hnw hrow hro hy hc1 hc2 hc3 hc4
        go_upto_region 7 with (fail)
        refine wp_region_flow 13 (Since w2) (by kernel_rfl) (by kernel_rfl) (by simp) (since_drew hsr) ?_
        simp only [List.take_succ_cons, List.take_zero, List.drop_succ_cons, List.drop_zero]
        refine flow_val (v := ?_) rfl ?_ ?_; rotate_left; (intro W hW; go_simp; with_reducible rfl)
        simp only [Act.put, List.setIfInBounds_toArray, List.set_cons_succ, List.set_cons_zero]
        refine flow_val (v := ?_) rfl ?_ ?_; rotate_left; (intro W hW; go_simp; with_reducible rfl)
        simp only [Act.put, List.setIfInBounds_toArray, List.set_cons_succ, List.set_cons_zero]
        refine flow_val (v := ?_) rfl ?_ ?_; rotate_left; (intro W hW; go_simp; with_reducible rfl)
        simp only [Act.put, List.setIfInBounds_toArray, List.set_cons_succ, List.set_cons_zero]
        refine flow_val (v := ?_) rfl ?_ ?_; rotate_left; (intro W hW; go_simp; with_reducible rfl)
        simp only [Act.put, List.setIfInBounds_toArray, List.set_cons_succ, List.set_cons_zero]
        refine flow_val (v := ?_) rfl ?_ ?_; rotate_left; (intro W hW; go_simp; with_reducible rfl)
        simp only [Act.put, List.setIfInBounds_toArray, List.set_cons_succ, List.set_cons_zero]
        refine flow_val (v := ?_) rfl ?_ ?_; rotate_left; (intro W hW; go_simp; with_reducible rfl)
        simp only [Act.put, List.setIfInBounds_toArray, List.set_cons_succ, List.set_cons_zero]
        refine flow_val (v := ?_) rfl ?_ ?_; rotate_left; (intro W hW; go_simp; with_reducible rfl)
        simp only [Act.put, List.setIfInBounds_toArray, List.set_cons_succ, List.set_cons_zero]
        refine flow_val (v := ?_) rfl ?_ ?_; rotate_left; (intro W hW; go_simp; with_reducible rfl)
        simp only [Act.put, List.setIfInBounds_toArray, List.set_cons_succ, List.set_cons_zero]
        refine flow_val (v := ?_) rfl ?_ ?_; rotate_left; (intro W hW; go_simp; with_reducible rfl)
        simp only [Act.put, List.setIfInBounds_toArray, List.set_cons_succ, List.set_cons_zero]
        refine flow_val (v := ?_) rfl ?_ ?_; rotate_left; (intro W hW; go_simp; with_reducible rfl)
        simp only [Act.put, List.setIfInBounds_toArray, List.set_cons_succ, List.set_cons_zero]
        refine flow_val (v := ?_) rfl ?_ ?_; rotate_left; (intro W hW; go_simp; with_reducible rfl)
        simp only [Act.put, List.setIfInBounds_toArray, List.set_cons_succ, List.set_cons_zero]
        refine flow_val (v := ?_) rfl ?_ ?_; rotate_left; (intro W hW; go_simp; with_reducible rfl)
        simp only [Act.put, List.setIfInBounds_toArray, List.set_cons_succ, List.set_cons_zero]
        refine flow_val (v := ?_) rfl ?_ ?_; rotate_left; (intro W hW; go_simp; with_reducible rfl)
        simp only [Act.put, List.setIfInBounds_toArray, List.set_cons_succ, List.set_cons_zero]
        intro W hW
        cases hne : (nw != y)
        · have Hn := Lib.hid (any_range_snoc Hal.out (by rw [Hb.out]; exact hne))
          clear hne hsr q1 q2 q3 q4
          go_wp2
          go_roundw
          case rel => exact ⟨k + 1, by omega, by go_num, Hn.out, hW⟩
          case measure => simp [intOf]; omega
        · have Hr := Lib.hid (ff_found Hg.out hkn (by rw [Hb.out]; exact hne) Hal.out)
          have HS := Lib.hid (hs2.after hW)
          clear hne hsr hW hs2 q1 q2 q3 q4
          go_wp2
          go_ret2
          exact ⟨congrArg Ending.returned Hr.out, Since.after Hb0.out HS.out⟩
      · obtain rfl : k = x.rounds.length := by omega
        have Hr := Lib.hid (ff_none Hg.out (by have := Hal.out; rwa [G.out.rl] at this))
        have HS := Lib.hid (hs2.after hsr)
        clear hsr hs2
        go_wp2
        go_ret2
        exact ⟨congrArg Ending.returned Hr.out, Since.after Hb0.out HS.out⟩
end Go.Proofs.YtlfehdikgbgloaaGreat
namespace Go.Proofs.YtlfehdikgbgloaaGreat
open Go.RowKit
theorem fit_eq {ib xs : List Int} {k : Nat} {x y : Int} (hx : xs[k]? = some x) (hy : ib[k]? = some y) : fitB ib xs k = !((x != -1) && (x != y)) := by
  unfold fitB
  rw [getD_of hx, getD_of hy]
  cases h1 : (x == -1) <;> cases h2 : (x == y) <;> simp_all
theorem cf1_ent : ∀ args w, (callFunc 241 args).run Tryz.prog w = .ok (.enter 241 args) w := enters_of Tryz.func241 (by kernel_rfl) rfl
set_option maxRecDepth 100000 in
set_option maxHeartbeats 4000000 in
theorem cf1_any (c : Cl) (vb : Value) (s : Int) (D : Option Addr) (cD : Nat) (ib : List Int) (bs bi : Nat) (w : World) (hb : IntS w vb c.inbox) (hs : IntS w (.slice D ib.length cD) ib) (h1 : w.cell? ⟨bs, 0, none⟩ = some (.int .i64 s)) (h2 : w.cell? ⟨bi, 0, none⟩ = some (.slice D ib.length cD)) :
    Calls Tryz.prog 241 #[.agg #[.int .i64 c.state, vb, .int .i64 c.next], .pointer (some ⟨bs, 0, none⟩), .pointer (some ⟨bi, 0, none⟩)] w fun e w' => e = .returned (.bool (fitsB s ib c)) ∧ Below w.heap.size w w' := by
  obtain ⟨B, cB, rfl, hBl, hBm, _⟩ := id hb
  obtain ⟨D', cD', e, hDl, hDm, _⟩ := id hs
  cases e
  unfold maxLen at hBm hDm
  obtain ⟨w0, hw0⟩ : ∃ w0, w0 = w.alloc (.cells #[.int .i64 c.state, .slice B c.inbox.length cB, .int .i64 c.next] 144) := ⟨_, rfl⟩
  have hb0 : Since w w0 := by rw [hw0]; exact since_alloc _ (since_refl _)
  have HB := Lib.hid (hb.keep hb0.below)
  have HD := Lib.hid (hs.keep hb0.below)
  have p0 : ∀ X, Since w0 X → X.cell? ⟨w.heap.size, 0, none⟩ = some (.int .i64 c.state) := have_cell (by rw [hw0]; simp)
  have p1 : ∀ X, Since w0 X → X.cell? ⟨w.heap.size, 1, none⟩ = some (.slice B c.inbox.length cB) := have_cell (by rw [hw0]; simp)
  have r1 := lift_cell (have_cell h1) hb0
  have r2 := lift_cell (have_cell h2) hb0
  have Hw0 := Lib.hid hw0
  have Hb0 := Lib.hid hb0
  clear hw0 hb0 hb hs h1 h2
  go_enter Tryz.func241, Tryz.ntmps241
  go_upto_region 1 with (fail)
  rw [← Hw0.out]
  refine wp_region_flow0 12 (Since w0) (since_refl _) ?_
  simp only [List.take_succ_cons, List.take_zero, List.drop_succ_cons, List.drop_zero]
  refine flow_val (v := ?_) rfl ?_ ?_; rotate_left; (intro W hW; go_simp; with_reducible rfl)
  simp only [Act.put, List.setIfInBounds_toArray, List.set_cons_succ, List.set_cons_zero]
  refine flow_val (v := ?_) rfl ?_ ?_; rotate_left; (intro W hW; go_simp; with_reducible rfl)
  simp only [Act.put, List.setIfInBounds_toArray, List.set_cons_succ, List.set_cons_zero]
  refine flow_val (v := ?_) rfl ?_ ?_; rotate_left; (intro W hW; go_simp; with_reducible rfl)
  simp only [Act.put, List.setIfInBounds_toArray, List.set_cons_succ, List.set_cons_zero]
  refine flow_val (v := ?_) rfl ?_ ?_; rotate_left; (intro W hW; go_simp; with_reducible rfl)
  simp only [Act.put, List.setIfInBounds_toArray, List.set_cons_succ, List.set_cons_zero]
  refine flow_val (v := ?_) rfl ?_ ?_; rotate_left; (intro W hW; go_simp; with_reducible rfl)
  simp only [Act.put, List.setIfInBounds_toArray, List.set_cons_succ, List.set_cons_zero]
  refine flow_gval (v := ?_) rfl rfl ?_ ?_; rotate_left; (intro hb; intro W hW; go_simp; with_reducible rfl)
  simp only [Act.put, List.setIfInBounds_toArray, List.set_cons_succ, List.set_cons_zero]
  refine flow_gval (v := ?_) rfl rfl ?_ ?_; rotate_left; (intro hb; intro W hW; go_simp; with_reducible rfl)
  simp only [Act.put, List.setIfInBounds_toArray, List.set_cons_succ, List.set_cons_zero]
  refine flow_gval (v := ?_) rfl rfl ?_ ?_; rotate_left; (intro hb; intro W hW; go_simp; with_reducible rfl)
  simp only [Act.put, List.setIfInBounds_toArray, List.set_cons_succ, List.set_cons_zero]
  refine flow_gval (v := ?_) rfl rfl ?_ ?_; rotate_left; (intro hb; intro W hW; go_simp; with_reducible rfl)
  simp only [Act.put, List.setIfInBounds_toArray, List.set_cons_succ, List.set_cons_zero]
  refine flow_gval (v := ?_) rfl rfl ?_ ?_; rotate_left; (intro hb; intro W hW; go_simp; with_reducible rfl)
  simp only [Act.put, List.setIfInBounds_toArray, List.set_cons_succ, List.set_cons_zero]
  refine flow_gval (v := ?_) rfl rfl ?_ ?_; rotate_left; (intro hb; intro W hW; go_simp; with_reducible rfl)
  simp only [Act.put, List.setIfInBounds_toArray, List.set_cons_succ, List.set_cons_zero]
  first | refine flow_or rfl rfl ?_ | (refine flow_val (v := ?_) rfl ?_ ?_; rotate_left; (intro W hW; go_simp; with_reducible rfl))
  simp only [Act.put, List.setIfInBounds_toArray, List.set_cons_succ, List.set_cons_zero]
  intro W hW
  cases hg : (c.state != s || ((c.inbox.length : Int) != (ib.length : Int)))
  · obtain ⟨hf, hll⟩ := fits_eq hg
    have Hf := Lib.hid hf
    have Hll := Lib.hid hll
    clear hf hll hg
    go_wp2
    clear p0 p1
    go_loopw [22] (fun i wr => ∃ k : Nat, k ≤ c.inbox.length ∧ i = .int .i64 k ∧ (List.range k).all (fitB ib c.inbox) = true ∧ Since w0 wr) (fun i _ => c.inbox.length - (intOf i).toNat)
    case atStart => exact ⟨0, Nat.zero_le _, rfl, rfl, hW⟩
    case round =>
      obtain ⟨k, hk, rfl, hal, hsr⟩ := hrel
      have Hal := Lib.hid hal
      clear hal hW
      by_cases hlt : k < c.inbox.length
      · obtain ⟨x, hx⟩ := getx c.inbox k hlt
        obtain ⟨y, hy⟩ := getx ib k (by have := Hll.out; omega)
        obtain ⟨b1, off1, hA1, hc1⟩ := ints_at HB.out hx
        obtain ⟨b2, off2, hA2, hc2⟩ := ints_at HD.out hy
        subst hA1 hA2
        have q1 := lift_cell (have_cell hc1) hsr
        have q2 := lift_cell (have_cell hc2) hsr
        have t2 := lift_cell r2 hsr
        have hkd : k < ib.length := lt_of_get hy
        have Hfit := Lib.hid (fit_eq hx hy)
        have hrr : Since wr wr := since_refl _
        have Hsr := Lib.hid hsr
        clear hx hy hc1 hc2 hsr
        go_upto_region 6 with (fail)
        refine wp_region_flow0 10 (Since wr) (hrr) ?_
        simp only [List.take_succ_cons, List.take_zero, List.drop_succ_cons, List.drop_zero]
        refine flow_val (v := ?_) rfl ?_ ?_; rotate_left; (intro W hW; go_simp; with_reducible rfl)
        simp only [Act.put, List.setIfInBounds_toArray, List.set_cons_succ, List.set_cons_zero]
        refine flow_val (v := ?_) rfl ?_ ?_; rotate_left; (intro W hW; go_simp; with_reducible rfl)
        simp only [Act.put, List.setIfInBounds_toArray, List.set_cons_succ, List.set_cons_zero]
        refine flow_val (v := ?_) rfl ?_ ?_; rotate_left; (intro W hW; go_simp; with_reducible rfl)
        simp only [Act.put, List.setIfInBounds_toArray, List.set_cons_succ, List.set_cons_zero]
        refine flow_gval (v := ?_) rfl rfl ?_ ?_; rotate_left; (intro hb; intro W hW; go_simp; with_reducible rfl)
        simp only [Act.put, List.setIfInBounds_toArray, List.set_cons_succ, List.set_cons_zero]
        refine flow_gval (v := ?_) rfl rfl ?_ ?_; rotate_left; (intro hb; intro W hW; go_simp; with_reducible rfl)
        simp only [Act.put, List.setIfInBounds_toArray, List.set_cons_succ, List.set_cons_zero]
        refine flow_gval (v := ?_) rfl rfl ?_ ?_; rotate_left; (intro hb; intro W hW; go_simp; with_reducible rfl)
        simp only [Act.put, List.setIfInBounds_toArray, List.set_cons_succ, List.set_cons_zero]
        refine flow_gval (v := ?_) rfl rfl ?_ ?_; rotate_left; (intro hb; intro W hW; go_simp; with_reducible rfl)
        simp only [Act.put, List.setIfInBounds_toArray, List.set_cons_succ, List.set_cons_zero]
        refine flow_gval (v := ?_) rfl rfl ?_ ?_; rotate_left; (intro hb; intro W hW; go_simp; with_reducible rfl)
        simp only [Act.put, List.setIfInBounds_toArray, List.set_cons_succ, List.set_cons_zero]
        refine flow_gval (v := ?_) rfl rfl ?_ ?_; rotate_left; (intro hb; intro W hW; go_simp; with_reducible rfl)
        simp only [Act.put, List.setIfInBounds_toArray, List.set_cons_succ, List.set_cons_zero]
        first | refine flow_and rfl rfl ?_ | (refine flow_val (v := ?_) rfl ?_ ?_; rotate_left; (intro W hW; go_simp; with_reducible rfl))
        simp only [Act.put, List.setIfInBounds_toArray, List.set_cons_succ, List.set_cons_zero]
        intro W3 hW3
        cases hm : ((x != -1) && (x != y))
        · have Hn : Hid ((List.range (k + 1)).all (fitB ib c.inbox) = true) := range_snoc Hal.out (by rw [Hfit.out, hm]; rfl)
          have HS := Lib.hid (Hsr.out.after hW3)
          clear hm hW3 hrr q1 q2 t2
          go_wp2
          go_roundw
          case rel => exact ⟨k + 1, by omega, by go_num, Hn.out, HS.out⟩
          case measure => simp [intOf]; omega
        · have Hr : Hid (fitsB s ib c = false) := by show _ = _; rw [Hf.out]; exact range_stop hlt (by rw [Hfit.out, hm]; rfl)
          have HS := Lib.hid (Hsr.out.after hW3)
          clear hm hW3 hrr q1 q2 t2
          go_wp2
          go_ret
          exact ⟨ret_false Hr.out, (Hb0.out.after HS.out).below⟩
      · obtain rfl : k = c.inbox.length := by omega
        have Hr : Hid (fitsB s ib c = true) := by show _ = _; rw [Hf.out]; exact Hal.out
        have HS := Lib.hid hsr
        clear hsr
        go_wp2
        go_ret
        exact ⟨ret_true Hr.out, (Hb0.out.after HS.out).below⟩
  · have Hr := Lib.hid (fits_ne hg)
    have HS := Lib.hid hW
    clear hg hW
    go_wp2
    go_ret
    exact ⟨ret_false Hr.out, (Hb0.out.after HS.out).below⟩
def cidx (p : Cl → Bool) (cs : List Cl) : Int := match cs.findIdx? p with | some k => (k : Int) | none => -1
def PredC (w0 : World) (fid : FuncId) (caps : Array Value) (p : Cl → Bool) (cs : List Cl) : Prop :=
  ∀ c ∈ cs, ∀ u w, Since w0 w → IntS w u c.inbox → Calls Tryz.prog fid (#[.agg #[.int .i64 c.state, u, .int .i64 c.next]] ++ caps) w fun e w' => e = .returned (.bool (p c)) ∧ Below w.heap.size w w'
set_option maxHeartbeats 4000000 in
theorem indexFuncC_any (v : Value) (cs : List Cl) (fid : FuncId) (caps : Array Value) (p : Cl → Bool) (w : World) (h : ClauseS w v cs) (henter : ∀ args w, (callFunc fid args).run Tryz.prog w = .ok (.enter fid args) w) (hp : PredC w fid caps p cs) :
    Calls Tryz.prog 240 #[v, .func (.func fid) #[] caps] w fun e w' => e = .returned (.int .i64 (cidx p cs)) ∧ Below w.heap.size w w' := by
  obtain ⟨A, c, rfl, hlc, hm, hA⟩ := h
  unfold maxLen at hm
  have HA := Lib.hid hA
  clear hA
  have Hp := Lib.hid hp
  have eg := henter
  clear hp
  go_enter Tryz.func240, Tryz.ntmps240
  go_wp2
  go_loopw [8] (fun i wr => ∃ k : Nat, k ≤ cs.length ∧ i = .int .i64 k ∧ (cs.take k).any p = false ∧ Since w wr) (fun i _ => cs.length - (intOf i).toNat)
  case atStart => exact ⟨0, Nat.zero_le _, rfl, rfl, since_refl _⟩
  case round =>
    obtain ⟨k, hk, rfl, hany, hb⟩ := hrel
    have Hany := Lib.hid hany
    have Hb := Lib.hid hb
    clear hany hb
    by_cases hlt : k < cs.length
    · obtain ⟨x, hx⟩ := getx cs k hlt
      obtain ⟨b, off, u, rfl, hc0, hc1, hc2, hin⟩ := HA.out k x hx
      obtain ⟨B, cB, rfl, hBl, hBm, _⟩ := id hin
      have d0 := Hb.out.cell hc0
      have d1 := Hb.out.cell hc1
      have d2 := Hb.out.cell hc2
      have Hx := Lib.hid hx
      have hcall := Hp.out x (List.mem_of_getElem? hx) _ wr Hb.out (hin.keep Hb.out.below)
      obtain ⟨y, hy⟩ : ∃ y, y = p x := ⟨_, rfl⟩
      have Hy := Lib.hid hy
      rw [← hy] at hcall
      have Hcall := Lib.hid hcall
      clear hy hcall hx hc0 hc1 hc2 hin
      go_wp2_with fail
      refine Hcall.out.mono ?_
      rintro e w1 ⟨rfl, hb1⟩
      have Hb1 := Lib.hid (Hb.out.trans hb1)
      clear hb1
      cases y
      · go_wp2
        go_roundw
        case rel => exact ⟨k + 1, by omega, by go_num, any_snoc' Hx.out Hany.out Hy.out.symm, Hb1.out⟩
        case measure => simp [intOf]; omega
      · have Hr : Hid (cidx p cs = k) := by show _ = _; unfold cidx; rw [fi_found Hx.out Hy.out.symm Hany.out]
        go_wp2
        go_ret
        exact ⟨congrArg (fun i => Ending.returned (.int .i64 i)) Hr.out.symm, Hb1.out⟩
    · obtain rfl : k = cs.length := by omega
      have Hr : Hid (cidx p cs = -1) := by show _ = _; unfold cidx; rw [fi_none (by have := Hany.out; rwa [List.take_length] at this)]
      go_wp2
      go_ret
      exact ⟨congrArg (fun i => Ending.returned (.int .i64 i)) Hr.out.symm, Hb.out⟩
set_option maxRecDepth 100000 in
set_option maxHeartbeats 4000000 in
theorem clauseFor_any (ma mb mc md vs : Value) (m : Mac) (s : Int) (ib : List Int) (w : World) (hMa : MacIn w ma mb mc md m) (hs : IntS w vs ib) :
    Calls Tryz.prog 211 #[.agg #[.int .i64 m.degree, .int .i64 m.states, .int .i64 m.messages, ma, mb, mc, md], .int .i64 s, vs] w fun e w' => e = .returned (.int .i64 (clauseB m s ib)) ∧ Below w.heap.size w w' := by
  have HV0 := Lib.hid hs
  obtain ⟨D, cD, rfl, hDl, hDm, _⟩ := hs
  obtain ⟨w0, hw0⟩ : ∃ w0, w0 = (((w).alloc (.cells #[.int .i64 m.degree, .int .i64 m.states, .int .i64 m.messages, ma, mb, mc, md] 62)).alloc (.cells #[.int .i64 s] 3)).alloc (.cells #[.slice D ib.length cD] 23) := ⟨_, rfl⟩
  have hb0 : Below w.heap.size w w0 := by rw [hw0]; exact ((((Below.refl _ _).alloc (by simp <;> omega) _).alloc (by simp <;> omega) _).alloc (by simp <;> omega) _)
  have hkM := hMa.keep hb0
  have HM := Lib.hid hkM
  obtain ⟨M0, mz0, rfl, hlM0, hmM0, hMe0⟩ := id hkM.1
  unfold maxLen at hmM0
  have HMe0 := Lib.hid hMe0
  clear hMe0
  obtain ⟨M1, mz1, rfl, hlM1, hmM1, hMe1⟩ := id hkM.2.1
  unfold maxLen at hmM1
  have HMe1 := Lib.hid hMe1
  clear hMe1
  obtain ⟨M2, mz2, rfl, hlM2, hmM2, hMe2⟩ := id hkM.2.2.1
  unfold maxLen at hmM2
  have HMe2 := Lib.hid hMe2
  clear hMe2
  obtain ⟨M3, mz3, rfl, hlM3, hmM3, hMe3⟩ := id hkM.2.2.2
  unfold maxLen at hmM3
  have HMe3 := Lib.hid hMe3
  clear hMe3
  clear hkM hMa
  have p00 : ∀ W, Since w0 W → W.cell? ⟨w.heap.size, 0, none⟩ = some (.int .i64 m.degree) := have_cell (by rw [hw0]; simp [go_sem])
  have p01 : ∀ W, Since w0 W → W.cell? ⟨w.heap.size, 1, none⟩ = some (.int .i64 m.states) := have_cell (by rw [hw0]; simp [go_sem])
  have p02 : ∀ W, Since w0 W → W.cell? ⟨w.heap.size, 2, none⟩ = some (.int .i64 m.messages) := have_cell (by rw [hw0]; simp [go_sem])
  have p03 : ∀ W, Since w0 W → W.cell? ⟨w.heap.size, 3, none⟩ = some (.slice M0 m.start.length mz0) := have_cell (by rw [hw0]; simp [go_sem])
  have p04 : ∀ W, Since w0 W → W.cell? ⟨w.heap.size, 4, none⟩ = some (.slice M1 m.send.length mz1) := have_cell (by rw [hw0]; simp [go_sem])
  have p05 : ∀ W, Since w0 W → W.cell? ⟨w.heap.size, 5, none⟩ = some (.slice M2 m.clauses.length mz2) := have_cell (by rw [hw0]; simp [go_sem])
  have p06 : ∀ W, Since w0 W → W.cell? ⟨w.heap.size, 6, none⟩ = some (.slice M3 m.output.length mz3) := have_cell (by rw [hw0]; simp [go_sem])
  have p10 : ∀ W, Since w0 W → W.cell? ⟨w.heap.size + 1, 0, none⟩ = some (.int .i64 s) := have_cell (by rw [hw0]; simp [go_sem])
  have p20 : ∀ W, Since w0 W → W.cell? ⟨w.heap.size + 1 + 1, 0, none⟩ = some (.slice D ib.length cD) := have_cell (by rw [hw0]; simp [go_sem])
  have Hb0 := Lib.hid hb0
  have Hw0 := Lib.hid hw0
  clear hb0 hw0
  have HV := Lib.hid (HV0.out.keep Hb0.out)
  have hs0 : Since w0 w0 := since_refl _
  have hcall := indexFuncC_any _ m.clauses 241 #[.pointer (some ⟨w.heap.size + 1, 0, none⟩), .pointer (some ⟨w.heap.size + 1 + 1, 0, none⟩)] (fitsB s ib) w0 HM.out.2.2.1 cf1_ent (fun c _ u W hW hu => cf1_any c u s D cD ib _ _ W hu (HV.out.keep hW.below) (p10 W hW) (p20 W hW))
  have Hcall := Lib.hid hcall
  clear hcall
  go_enter Tryz.func211, Tryz.ntmps211
  go_upto_region 1 with (fail)
  rw [← Hw0.out]
  go_wp2_with fail
  refine Hcall.out.mono ?_
  rintro e w1 ⟨rfl, hb1⟩
  have HS := Lib.hid (hs0.trans hb1)
  clear hb1 hs0
  go_wp2
  go_ret
  exact ⟨rfl, Since.after Hb0.out HS.out⟩
end Go.Proofs.YtlfehdikgbgloaaGreat
namespace Go.Proofs.YtlfehdikgbgloaaGreat
open Go.RowKit
def inboxL (m : Mac) (n : Net) (st : List Int) : List (List Int) := (List.range n.ends.length).map (inboxB m n st)
theorem inboxL_len (m : Mac) (n : Net) (st : List Int) : (inboxL m n st).length = n.ends.length := by simp [inboxL]
theorem inboxL_get {m : Mac} {n : Net} {st : List Int} {k : Nat} (h : k < n.ends.length) : (inboxL m n st)[k]? = some (inboxB m n st k) := by simp [inboxL, h]
/-- the rows up to k, a part of row k, and empty ones -/
def midR (R : List (List Int)) (k : Nat) (row : List Int) : List (List Int) := R.take k ++ row :: List.replicate (R.length - (k + 1)) []
theorem midR_get {R : List (List Int)} {k : Nat} {row : List Int} (h : k < R.length) : (midR R k row)[k]? = some row := by
  have hl : (R.take k).length = k := by rw [List.length_take]; omega
  unfold midR
  rw [List.getElem?_append_right (by omega), hl, Nat.sub_self]
  rfl
theorem midR_set {R : List (List Int)} {k : Nat} {row row' : List Int} (h : k < R.length) : (midR R k row).set k row' = midR R k row' := by
  have hl : (R.take k).length = k := by rw [List.length_take]; omega
  unfold midR
  rw [List.set_append_right _ _ (by omega), hl, Nat.sub_self]
  rfl
theorem midR_zero {R : List (List Int)} {k : Nat} (h : k < R.length) : R.take k ++ List.replicate (R.length - k) [] = midR R k [] := by
  unfold midR
  rw [show R.length - k = (R.length - (k + 1)) + 1 by omega, List.replicate_succ]
theorem midR_full {R : List (List Int)} {k : Nat} {row : List Int} (h : R[k]? = some row) : midR R k row = R.take (k + 1) ++ List.replicate (R.length - (k + 1)) [] := by
  unfold midR
  rw [take_snoc h, List.append_assoc]
  rfl
set_option maxRecDepth 100000 in
set_option maxHeartbeats 8000000 in
theorem inboxes_any (ma mb mc md ve vi vn vs : Value) (m : Mac) (n : Net) (st : List Int) (w : World) (hMa : MacIn w ma mb mc md m) (h : NetIn w ve vi vn n) (hs : IntS w vs st) (hAs : Asked m n) (hSt : StOk m n st) :
    Calls Tryz.prog 210 #[.agg #[.int .i64 m.degree, .int .i64 m.states, .int .i64 m.messages, ma, mb, mc, md], .agg #[ve, vi, vn], vs] w fun e w' => ∃ u S, e = .returned u ∧ OwnII w' w.heap.size u (inboxL m n st) S ∧ Below w.heap.size w w' := by
  have hn40 := (netOk_len hAs.net).2
  have HAs := Lib.hid hAs
  have HSt := Lib.hid hSt
  clear hAs hSt
  obtain ⟨w0, hw0⟩ : ∃ w0, w0 = ((w).alloc (.cells #[.int .i64 m.degree, .int .i64 m.states, .int .i64 m.messages, ma, mb, mc, md] 62)).alloc (.cells #[ve, vi, vn] 31) := ⟨_, rfl⟩
  have hb0 : Below w.heap.size w w0 := by rw [hw0]; exact (((Below.refl _ _).alloc (by simp <;> omega) _).alloc (by simp <;> omega) _)
  have H := Lib.hid (h.keep hb0)
  obtain ⟨h1, h2, h3⟩ := h.keep hb0
  obtain ⟨A, c, rfl, hlc, hm, hA⟩ := h1
  obtain ⟨A2, c2, rfl, _, hm2, _⟩ := h2
  obtain ⟨A3, c3, rfl, _, hm3, _⟩ := h3
  unfold maxLen at hm hm2 hm3
  have hkM := hMa.keep hb0
  have HM := Lib.hid hkM
  obtain ⟨M0, mz0, rfl, hlM0, hmM0, hMe0⟩ := id hkM.1
  unfold maxLen at hmM0
  have HMe0 := Lib.hid hMe0
  clear hMe0
  obtain ⟨M1, mz1, rfl, hlM1, hmM1, hMe1⟩ := id hkM.2.1
  unfold maxLen at hmM1
  have HMe1 := Lib.hid hMe1
  clear hMe1
  obtain ⟨M2, mz2, rfl, hlM2, hmM2, hMe2⟩ := id hkM.2.2.1
  unfold maxLen at hmM2
  have HMe2 := Lib.hid hMe2
  clear hMe2
  obtain ⟨M3, mz3, rfl, hlM3, hmM3, hMe3⟩ := id hkM.2.2.2
  unfold maxLen at hmM3
  have HMe3 := Lib.hid hMe3
  clear hMe3
  clear hkM hMa
  have p00 : ∀ W, Since w0 W → W.cell? ⟨w.heap.size, 0, none⟩ = some (.int .i64 m.degree) := have_cell (by rw [hw0]; simp)
  have p01 : ∀ W, Since w0 W → W.cell? ⟨w.heap.size, 1, none⟩ = some (.int .i64 m.states) := have_cell (by rw [hw0]; simp)
  have p02 : ∀ W, Since w0 W → W.cell? ⟨w.heap.size, 2, none⟩ = some (.int .i64 m.messages) := have_cell (by rw [hw0]; simp)
  have p03 : ∀ W, Since w0 W → W.cell? ⟨w.heap.size, 3, none⟩ = some (.slice M0 m.start.length mz0) := have_cell (by rw [hw0]; simp)
  have p04 : ∀ W, Since w0 W → W.cell? ⟨w.heap.size, 4, none⟩ = some (.slice M1 m.send.length mz1) := have_cell (by rw [hw0]; simp)
  have p05 : ∀ W, Since w0 W → W.cell? ⟨w.heap.size, 5, none⟩ = some (.slice M2 m.clauses.length mz2) := have_cell (by rw [hw0]; simp)
  have p06 : ∀ W, Since w0 W → W.cell? ⟨w.heap.size, 6, none⟩ = some (.slice M3 m.output.length mz3) := have_cell (by rw [hw0]; simp)
  have p10 : ∀ W, Since w0 W → W.cell? ⟨w.heap.size + 1, 0, none⟩ = some (.slice A n.ends.length c) := have_cell (by rw [hw0]; simp)
  have p11 : ∀ W, Since w0 W → W.cell? ⟨w.heap.size + 1, 1, none⟩ = some (.slice A2 n.ids.length c2) := have_cell (by rw [hw0]; simp)
  have p12 : ∀ W, Since w0 W → W.cell? ⟨w.heap.size + 1, 2, none⟩ = some (.slice A3 n.inputs.length c3) := have_cell (by rw [hw0]; simp)
  have Hb0 := Lib.hid hb0
  have Hw0 := Lib.hid hw0
  have HA := Lib.hid hA
  clear hA h
  clear hb0 hw0
  have HV := Lib.hid (hs.keep Hb0.out)
  obtain ⟨VAS, cS, rfl, hSl, hSm, -⟩ := hs
  unfold maxLen at hSm
  have hs0 : Since w0 w0 := since_refl _
  obtain ⟨R, hR⟩ : ∃ R, R = inboxL m n st := ⟨_, rfl⟩
  have HRl : Hid (R.length = n.ends.length) := by show _ = _; rw [hR, inboxL_len]
  have HR := Lib.hid hR
  clear hR
  go_enter Tryz.func210, Tryz.ntmps210
  go_upto_region 1 with (fail)
  rw [← Hw0.out]
  go_upto_region 2 with (at_make; refine mk_rowsI _ rfl _ _ rfl n.ends.length rfl rfl (by omega) ?_; intro w1 ho1 hb1; have hs1 : Since w0 w1 := hb1)
  obtain ⟨g, hg⟩ : ∃ g, g = w0.heap.size := ⟨_, rfl⟩
  rw [← hg] at ho1 ⊢
  have HO1 := Lib.hid ho1
  have HS1 := Lib.hid hs1
  have HgL := Lib.hid hg
  clear ho1 hb1 hs0 hg
  go_wp2
  clear hs1
  go_loopw [19] (fun i wr => ∃ (k : Nat) (S : List Nat), k ≤ n.ends.length ∧ i = .int .i64 k ∧ OwnII wr w0.heap.size (.slice (some ⟨g, 0, none⟩) n.ends.length n.ends.length) (R.take k ++ List.replicate (R.length - k) []) S ∧ Since w0 wr) (fun i _ => n.ends.length - (intOf i).toNat)
  case atStart => exact ⟨0, [g], Nat.zero_le _, rfl, by have := lawII.mono HO1.out (show w0.heap.size ≤ g from Nat.le_of_eq HgL.out.symm); simpa [HRl.out] using this, HS1.out⟩
  case round =>
    obtain ⟨k, S, hk, rfl, ho, hsr⟩ := hrel
    have Ho := Lib.hid ho
    clear ho
    by_cases hlt : k < n.ends.length
    · obtain ⟨es, hes⟩ := getx n.ends k hlt
      obtain ⟨b, offr, cr, ur, hA1, hkr, hc1, hrow⟩ := row_at H.out.es hes
      cases hA1
      obtain ⟨A1, z1, rfl, hz1, hz2, hA1⟩ := hrow
      have HA1 := Lib.hid hA1
      have q1 := have_cell hc1
      have Hes := Lib.hid hes
      have Hib := Lib.hid (show R[k]? = some (inboxB m n st k) by rw [HR.out]; exact inboxL_get hlt)
      have Hlen := Lib.hid (show (inboxB m n st k).length = es.length by rw [inbox_len]; unfold degA; rw [getD_of hes])
      have He6 := Lib.hid (show (es.length : Int) ≤ 6 from by have := HAs.out.ndeg es (List.mem_of_getElem? hes); have := HAs.out.deg; omega)
      have HkR : Hid (k < R.length) := by show _ < _; rw [HRl.out]; exact hlt
      have Hk := Lib.hid (And.intro hk hlt)
      unfold maxLen at hz2
      clear hc1 hA1 hes hk
      go_wp2
      clear q1
      go_loopw [26] (fun i wr => ∃ (j : Nat) (S : List Nat), j ≤ es.length ∧ i = .int .i64 j ∧ OwnII wr w0.heap.size (.slice (some ⟨g, 0, none⟩) n.ends.length n.ends.length) (midR R k ((inboxB m n st k).take j)) S ∧ Since w0 wr) (fun i _ => es.length - (intOf i).toNat)
      case atStart => exact ⟨0, S, Nat.zero_le _, rfl, by have := Ho.out; rw [midR_zero HkR.out] at this; exact this, hsr⟩
      case round =>
        obtain ⟨j, S2, hj, rfl, ho, hsr⟩ := hrel
        by_cases hlt2 : j < es.length
        · obtain ⟨e, he⟩ := getx es j hlt2
          obtain ⟨s, l, he1, hss, hs1, hl, he2, hltl, hibj⟩ := inbox_cell HAs.out HSt.out Hes.out he
          obtain ⟨x1, x2⟩ := e
          simp only at he1 hss hl he2 hltl hibj
          obtain ⟨a1, rfl⟩ := Int.eq_ofNat_of_zero_le he1
          obtain ⟨a2, rfl⟩ := Int.eq_ofNat_of_zero_le he2
          obtain ⟨sN, rfl⟩ := Int.eq_ofNat_of_zero_le hs1
          rw [Int.toNat_natCast] at hss hl hltl hibj
          obtain ⟨y, hy⟩ := getx l a2 hltl
          rw [getD_of hy] at hibj
          obtain ⟨b1, off1, rfl, hd1, hd2⟩ := HA1.out j _ he
          obtain ⟨b3, off3, hA3, hc3⟩ := ints_at HV.out hss
          obtain ⟨b4, off4, b5, off5, z5, hA4, hc4, hz5, hz6, hc5⟩ := tab_at HM.out.2.1 hl hy
          subst hA3 hA4
          have q1 := have_cell hd1
          have q2 := have_cell hd2
          have q3 := have_cell hc3
          have q4 := have_cell hc4
          have q5 := have_cell hc5
          have hsl := lt_of_get hl
          have hil2 := lt_of_get hss
          have Hibj := Lib.hid hibj
          have hgx := midR_get (R := R) (row := (inboxB m n st k).take j) HkR.out
          obtain ⟨_, _, -, hfz, -, -, -, -⟩ := OwnRows.at_ ho hgx
          obtain ⟨ur, T, hcr, hRo, hTS, hgT, hgrow⟩ := OwnRows.grow lawI ho hgx
          obtain ⟨AU, cU, rfl, hUl, hUm, _⟩ := id hRo.1.ints
          obtain ⟨LL, hLL⟩ : ∃ LL, LL = (inboxB m n st k).take j := ⟨_, rfl⟩
          rw [← hLL] at hRo hcr hUl
          have Hln : Hid (LL.length + 1 ≤ 17592186044416) := by show _ ≤ _; rw [hLL, List.length_take]; have := He6.out; have := Hlen.out; omega
          have HLL := Lib.hid hLL
          unfold maxLen at hUm
          have HTS := Lib.hid hTS
          have HgT := Lib.hid hgT
          have Hgrow := Lib.hid hgrow
          have Hro := Lib.hid hRo
          have Hrg := Lib.hid (lawII.range ho)
          have Hcr := Lib.hid hcr
          have Hfz := Lib.hid hfz
          have Hsr := Lib.hid hsr
          clear hss hl he1 he2 hs1 hibj hy hd1 hd2 hc3 hc4 hc5 hLL he ho hgx hTS hgT hgrow hRo hfz
          go_upto_region 8 with (fail)
          obtain ⟨wc, hwc⟩ : ∃ wc, wc = wr.alloc (.cells #[.int .i64 (a1 : Int), .int .i64 (a2 : Int)] 96) := ⟨_, rfl⟩
          rw [← hwc]
          have hwrc : Since wr wc := by rw [hwc]; exact since_alloc _ (since_refl _)
          have k0 : wc.cell? ⟨wr.heap.size, 0, none⟩ = some (.int .i64 (a1 : Int)) := by rw [hwc]; simp
          have k1 : wc.cell? ⟨wr.heap.size, 1, none⟩ = some (.int .i64 (a2 : Int)) := by rw [hwc]; simp
          obtain ⟨eb, heb⟩ : ∃ eb, eb = wr.heap.size := ⟨_, rfl⟩
          rw [← heb] at k0 k1 ⊢
          have hS0 : Since w0 wc ∧ wc.cell? ⟨eb, 0, none⟩ = some (.int .i64 (a1 : Int)) ∧ wc.cell? ⟨eb, 1, none⟩ = some (.int .i64 (a2 : Int)) ∧ wc.cell? ⟨g, k, none⟩ = some (.slice AU LL.length cU) := ⟨hsr.after hwrc, k0, k1, hwrc.cell hcr⟩
          have HebT : Hid (eb ∉ T) := fun hm => by have := (Hrg.out eb (HTS.out eb hm)).2; omega
          have Hwrc := Lib.hid hwrc
          clear hwc k0 k1 heb hsr hcr hwrc
          refine wp_region_chainS (fun W => Since w0 W ∧ W.cell? ⟨eb, 0, none⟩ = some (.int .i64 (a1 : Int)) ∧ W.cell? ⟨eb, 1, none⟩ = some (.int .i64 (a2 : Int)) ∧ W.cell? ⟨g, k, none⟩ = some (.slice AU LL.length cU)) 21 [false, false, false, false, false, false, false, false, false, false, false, false, false, false, false, false, false, false, false, true, true] (by kernel_rfl) (by kernel_rfl) (show Since w0 (World.drew wc) ∧ (World.drew wc).cell? ⟨eb, 0, none⟩ = some (.int .i64 (a1 : Int)) ∧ (World.drew wc).cell? ⟨eb, 1, none⟩ = some (.int .i64 (a2 : Int)) ∧ (World.drew wc).cell? ⟨g, k, none⟩ = some (.slice AU LL.length cU) from ⟨since_drew hS0.1, hS0.2.1, hS0.2.2.1, hS0.2.2.2⟩) ?_
          simp only [selF, selT, List.take_succ_cons, List.take_zero, List.drop_succ_cons, List.drop_zero]
          refine pflowS_val (v := ?_) rfl ?_ ?_; rotate_left; (intro W hW; (obtain ⟨hW, k0, k1, k2⟩ := hW); go_simp; with_reducible rfl)
          simp only [Act.put, List.setIfInBounds_toArray, List.set_cons_succ, List.set_cons_zero]
          refine pflowS_val (v := ?_) rfl ?_ ?_; rotate_left; (intro W hW; (obtain ⟨hW, k0, k1, k2⟩ := hW); go_simp; with_reducible rfl)
          simp only [Act.put, List.setIfInBounds_toArray, List.set_cons_succ, List.set_cons_zero]
          refine pflowS_val (v := ?_) rfl ?_ ?_; rotate_left; (intro W hW; (obtain ⟨hW, k0, k1, k2⟩ := hW); go_simp; with_reducible rfl)
          simp only [Act.put, List.setIfInBounds_toArray, List.set_cons_succ, List.set_cons_zero]
          refine pflowS_val (v := ?_) rfl ?_ ?_; rotate_left; (intro W hW; (obtain ⟨hW, k0, k1, k2⟩ := hW); go_simp; with_reducible rfl)
          simp only [Act.put, List.setIfInBounds_toArray, List.set_cons_succ, List.set_cons_zero]
          refine pflowS_val (v := ?_) rfl ?_ ?_; rotate_left; (intro W hW; (obtain ⟨hW, k0, k1, k2⟩ := hW); go_simp; with_reducible rfl)
          simp only [Act.put, List.setIfInBounds_toArray, List.set_cons_succ, List.set_cons_zero]
          refine pflowS_val (v := ?_) rfl ?_ ?_; rotate_left; (intro W hW; (obtain ⟨hW, k0, k1, k2⟩ := hW); go_simp; with_reducible rfl)
          simp only [Act.put, List.setIfInBounds_toArray, List.set_cons_succ, List.set_cons_zero]
          refine pflowS_val (v := ?_) rfl ?_ ?_; rotate_left; (intro W hW; (obtain ⟨hW, k0, k1, k2⟩ := hW); go_simp; with_reducible rfl)
          simp only [Act.put, List.setIfInBounds_toArray, List.set_cons_succ, List.set_cons_zero]
          refine pflowS_val (v := ?_) rfl ?_ ?_; rotate_left; (intro W hW; (obtain ⟨hW, k0, k1, k2⟩ := hW); go_simp; with_reducible rfl)
          simp only [Act.put, List.setIfInBounds_toArray, List.set_cons_succ, List.set_cons_zero]
          refine pflowS_val (v := ?_) rfl ?_ ?_; rotate_left; (intro W hW; (obtain ⟨hW, k0, k1, k2⟩ := hW); go_simp; with_reducible rfl)
          simp only [Act.put, List.setIfInBounds_toArray, List.set_cons_succ, List.set_cons_zero]
          refine pflowS_val (v := ?_) rfl ?_ ?_; rotate_left; (intro W hW; (obtain ⟨hW, k0, k1, k2⟩ := hW); go_simp; with_reducible rfl)
          simp only [Act.put, List.setIfInBounds_toArray, List.set_cons_succ, List.set_cons_zero]
          refine pflowS_val (v := ?_) rfl ?_ ?_; rotate_left; (intro W hW; (obtain ⟨hW, k0, k1, k2⟩ := hW); go_simp; with_reducible rfl)
          simp only [Act.put, List.setIfInBounds_toArray, List.set_cons_succ, List.set_cons_zero]
          refine pflowS_val (v := ?_) rfl ?_ ?_; rotate_left; (intro W hW; (obtain ⟨hW, k0, k1, k2⟩ := hW); go_simp; with_reducible rfl)
          simp only [Act.put, List.setIfInBounds_toArray, List.set_cons_succ, List.set_cons_zero]
          refine pflowS_val (v := ?_) rfl ?_ ?_; rotate_left; (intro W hW; (obtain ⟨hW, k0, k1, k2⟩ := hW); go_simp; with_reducible rfl)
          simp only [Act.put, List.setIfInBounds_toArray, List.set_cons_succ, List.set_cons_zero]
          refine pflowS_val (v := ?_) rfl ?_ ?_; rotate_left; (intro W hW; (obtain ⟨hW, k0, k1, k2⟩ := hW); go_simp; with_reducible rfl)
          simp only [Act.put, List.setIfInBounds_toArray, List.set_cons_succ, List.set_cons_zero]
          refine pflowS_val (v := ?_) rfl ?_ ?_; rotate_left; (intro W hW; (obtain ⟨hW, k0, k1, k2⟩ := hW); go_simp; with_reducible rfl)
          simp only [Act.put, List.setIfInBounds_toArray, List.set_cons_succ, List.set_cons_zero]
          refine pflowS_val (v := ?_) rfl ?_ ?_; rotate_left; (intro W hW; (obtain ⟨hW, k0, k1, k2⟩ := hW); go_simp; with_reducible rfl)
          simp only [Act.put, List.setIfInBounds_toArray, List.set_cons_succ, List.set_cons_zero]
          refine pflowS_val (v := ?_) rfl ?_ ?_; rotate_left; (intro W hW; (obtain ⟨hW, k0, k1, k2⟩ := hW); go_simp; with_reducible rfl)
          simp only [Act.put, List.setIfInBounds_toArray, List.set_cons_succ, List.set_cons_zero]
          refine pflowS_val (v := ?_) rfl ?_ ?_; rotate_left; (intro W hW; (obtain ⟨hW, k0, k1, k2⟩ := hW); go_simp; with_reducible rfl)
          simp only [Act.put, List.setIfInBounds_toArray, List.set_cons_succ, List.set_cons_zero]
          refine pflowS_val (v := ?_) rfl ?_ ?_; rotate_left; (intro W hW; (obtain ⟨hW, k0, k1, k2⟩ := hW); go_simp; with_reducible rfl)
          simp only [Act.put, List.setIfInBounds_toArray, List.set_cons_succ, List.set_cons_zero]
          obtain ⟨W, hWd⟩ : ∃ W, W = World.drew wc := ⟨_, rfl⟩
          rw [← hWd]
          have hW := (show Since w0 (World.drew wc) ∧ (World.drew wc).cell? ⟨eb, 0, none⟩ = some (.int .i64 (a1 : Int)) ∧ (World.drew wc).cell? ⟨eb, 1, none⟩ = some (.int .i64 (a2 : Int)) ∧ (World.drew wc).cell? ⟨g, k, none⟩ = some (.slice AU LL.length cU) from ⟨since_drew hS0.1, hS0.2.1, hS0.2.2.1, hS0.2.2.2⟩)
          rw [← hWd] at hW
          have HWd := Lib.hid hWd
          clear hWd
          refine tflow_allocS (v := ?_) (ob := ?_) rfl ?_ ?_ ?_; rotate_left 2
          (go_simp; first | with_reducible rfl | (refine ⟨?_, ?_⟩ <;> with_reducible rfl))
          exact ⟨since_alloc _ hW.1, bc (below_alloc _ _) hW.2.1, bc (below_alloc _ _) hW.2.2.1, bc (below_alloc _ _) hW.2.2.2⟩
          intro w8 hw8d hw8s
          replace hW := hw8s
          clear hw8s
          have Hw8 : Hid (Since wr w8) := by show Since _ _; rw [hw8d, HWd.out]; exact since_alloc _ (since_drew Hwrc.out)
          have Hc8 : Hid (w8.cell? ⟨wc.heap.size, 0, none⟩ = some (.int .i64 y)) := by show _ = _; rw [hw8d, HWd.out]; exact cell_new (World.drew wc) _ _
          rw [show W.heap.size = wc.heap.size from by rw [HWd.out]; rfl]
          clear hw8d HWd
          (try simp only [Act.put, List.setIfInBounds_toArray, List.set_cons_succ, List.set_cons_zero])
          refine tflow_of_wp (fun Q' HQ => ?_)
          (refine app_int (base := w0.heap.size) (v := .slice AU LL.length cU) (xs := LL) rfl _ _ rfl rfl (Own.since Hro.out.1 Hw8.out) wc.heap.size y rfl Hc8.out Hln.out hW.1.below.size ?_); intro g9 cc9 w9 ho9 hg9 hg9' hg9''; have hs9 : Since w0 w9 := (Below.grown hW.1 hg9 hW.1.below.size (fun q hq => (World.ownsRow.lt Hro.out.1 q hq).1)); have hon9 := Only.of_grown hg9; have hen : (⟨eb, 0, none⟩ : Addr).block ∉ (Value.slice AU LL.length cU).ownBlock.toList := (fun hq => HebT.out (by rw [Hro.out.2]; exact hq)); have hgn : (⟨g, k, none⟩ : Addr).block ∉ (Value.slice AU LL.length cU).ownBlock.toList := (fun hq => HgT.out (by rw [Hro.out.2]; exact hq)); refine HQ _ _ ⟨hs9, hon9.cell hen hW.2.1, hon9.cell (p := ⟨eb, 1, none⟩) hen hW.2.2.1, hon9.cell hgn hW.2.2.2⟩ ?_; have Ho9 := Lib.hid ho9; have Hs9 := Lib.hid hs9; have Hon9 := Lib.hid hon9; have Hg9 := Lib.hid hg9'; have Hcg := Lib.hid (hon9.cell hgn hW.2.2.2); have Hfg : Hid (w9.frozen? ⟨g, k, none⟩ = false) := (hon9.fz hgn hW.2.2.2 (bf Hw8.out.below Hcr.out Hfz.out)); clear ho9 hs9 hg9 hg9' hg9'' hon9 hen hgn hW
          (try simp only [Act.put, List.setIfInBounds_toArray, List.set_cons_succ, List.set_cons_zero])
          simp only [TFlow]
          have cz := Hcg.out
          have fz := Hfg.out
          clear q1 q2 q3 q4 q5 hS0
          go_wp2
          go_roundw
          case rel =>
            have hon : Only T wr w9 := (Only.of_below (S := T) Hw8.out.below).trans (by have := Hon9.out; rw [← Hro.out.2] at this; exact this)
            obtain ⟨S', hS', -⟩ := Hgrow.out (.slice (some ⟨g9, 0, none⟩) (LL.length + 1) cc9) (LL ++ [y]) [g9] w9 ⟨Ho9.out, by simp [Value.ownBlock]⟩ hon (fun q hq => by
              have e : q = g9 := List.mem_singleton.1 hq
              subst e
              rcases Hg9.out with h | h
              · left; rw [Hro.out.2, h]; simp
              · right; rw [h]; exact Hw8.out.below.size)
            rw [midR_set HkR.out] at hS'
            exact ⟨j + 1, S', by omega, by go_num, by rw [take_snoc Hibj.out, ← HLL.out]; exact hS', Hs9.out.setCell (by rw [HgL.out]; exact Nat.le_refl _) _⟩
          case measure => simp [intOf]; omega
        · obtain rfl : j = es.length := by omega
          have hfull := ho
          rw [List.take_of_length_le (by rw [Hlen.out]; exact Nat.le_refl _), midR_full Hib.out] at hfull
          have Hfull := Lib.hid hfull
          have hk2 := Hk.out.2
          clear ho hfull
          go_wp2
          go_roundw
          case rel => exact ⟨k + 1, S2, by omega, by go_num, Hfull.out, hsr⟩
          case measure => simp [intOf]; omega
    · obtain rfl : k = n.ends.length := by omega
      have HS := Lib.hid hsr
      clear hsr
      go_wp2
      go_ret
      refine ⟨_, S, rfl, ?_, Since.after Hb0.out HS.out⟩
      have h9 := Ho.out
      rw [← HRl.out, List.take_length, Nat.sub_self, List.replicate_zero, List.append_nil, HRl.out] at h9
      rw [← HR.out]
      exact lawII.mono h9 Hb0.out.size
end Go.Proofs.YtlfehdikgbgloaaGreat
