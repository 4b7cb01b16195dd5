/- Parts of the proof: walks of functions and plain laws. -/
import Derived.Test.YtfkmkpamdlhbgaaGreatP17
import Derived.Test.YtfkmkpamdlhbgaaGreatP14
namespace Go.Proofs.YtfkmkpamdlhbgaaGreat
open Go.RowKit
/-! the shortest way round an edge; the girth; forests: the reference -/
theorem ownBB_some {w : World} {base : Nat} {v : Value} {xss : List (List Bool)} {S : List Nat} (h : OwnBB w base v xss S) (hl : 0 < xss.length) : ∃ g c, v = .slice (some ⟨g, 0, none⟩) xss.length c := by
  obtain ⟨vs, Ss, h1, -⟩ := h
  rcases ownsRow_cases h1 with ⟨-, h0⟩ | ⟨g, c, rfl, -⟩
  · omega
  · exact ⟨g, c, rfl⟩
/-- a port is struck -/
def strike (K : List (List Bool)) (v i : Nat) : List (List Bool) := K.set v ((K.getD v []).set i false)
theorem KeepIs.strike {n : Net} {K : List (List Bool)} {kf : Nat → Nat → Bool} (h : KeepIs n K kf) (v i : Nat) : KeepIs n (strike K v i) (fun x j => kf x j && !(x == v && j == i)) where
  len := by unfold Proofs.YtfkmkpamdlhbgaaGreat.strike; rw [List.length_set]; exact h.len
  row := fun x es hes => by
    obtain ⟨row, h1, h2, h3⟩ := h.row x es hes
    unfold Proofs.YtfkmkpamdlhbgaaGreat.strike
    by_cases e : v = x
    · subst e
      refine ⟨row.set i false, by rw [List.getElem?_set_self (lt_of_get h1), List.getD_eq_getElem?_getD, h1]; rfl, by rw [List.length_set]; exact h2, fun j hj => ?_⟩
      rw [List.getElem?_set]
      by_cases e2 : i = j
      · subst e2
        rw [if_pos rfl, if_pos (by omega)]
        simp
      · rw [if_neg e2, h3 j hj]
        have : (v == v && j == i) = false := by simp; exact fun e => e2 e.symm
        rw [this]; simp
    · refine ⟨row, by rw [List.getElem?_set_ne e]; exact h1, h2, fun j hj => ?_⟩
      rw [h3 j hj]
      have : (x == v && j == i) = false := by simp; exact fun e2 => absurd e2.symm e
      rw [this]; simp
theorem keep_all (n : Net) : KeepIs n (allTo n n.ends.length) (fun _ _ => true) where
  len := allTo_len (Nat.le_refl _)
  row := fun v es hes => by
    unfold allTo
    rw [List.take_length]
    exact ⟨List.replicate es.length true, by rw [List.getElem?_map, hes]; rfl, by simp, fun i hi => by rw [List.getElem?_replicate, if_pos hi]⟩
theorem keep_strike {n : Net} {v i : Nat} {f : Int × Int} : KeepIs n (strike (strike (allTo n n.ends.length) v i) f.1.toNat f.2.toNat) (keepX v i f) := by
  have h := ((keep_all n).strike v i).strike f.1.toNat f.2.toNat
  have e : (fun x j => (true && !(x == v && j == i)) && !(x == f.1.toNat && j == f.2.toNat)) = keepX v i f := by
    funext x j
    unfold keepX
    cases (x == v && j == i) <;> cases (x == f.1.toNat && j == f.2.toNat) <;> rfl
  rwa [e] at h
/-- where a cell of the rows lies, and the rows behind a store there -/
theorem strike_cell {w : World} {base g c n : Nat} {K : List (List Bool)} {S : List Nat} (h : OwnBB w base (.slice (some ⟨g, 0, none⟩) n c) K S) {v i : Nat} {row : List Bool} (hr : K[v]? = some row) (hi : i < row.length) :
    ∃ gr cr y, w.cell? ⟨g, v, none⟩ = some (.slice (some ⟨gr, 0, none⟩) row.length cr) ∧ row.length ≤ cr ∧ cr ≤ 9223372036854775807 ∧ w.cell? ⟨gr, i, none⟩ = some (.bool y) ∧ w.frozen? ⟨gr, i, none⟩ = false ∧ base ≤ gr ∧
      OwnBB (w.setCell ⟨gr, i, none⟩ (.bool false)) base (.slice (some ⟨g, 0, none⟩) n c) (strike K v i) S := by
  obtain ⟨u, T, h1, h2, h3, h4⟩ := OwnRows.touch lawB h hr
  rcases ownsRow_cases h2.row with ⟨-, h0⟩ | ⟨gr, cr, rfl, hb, hg, hc, hm⟩
  · omega
  · obtain ⟨y, hy⟩ := getx row i hi
    unfold maxLen at hm
    refine ⟨gr, cr, y, h1, hc, by omega, h2.cell hy, ownsRow_free h2.row i, hb, ?_⟩
    have h5 := h4 (row.set i false) (w.setCell ⟨gr, i, none⟩ (.bool false)) (h2.set i false) ((Only.refl _ _).setCell (.inl (by rw [h2.2]; simp [Value.ownBlock])) _)
    have e : strike K v i = K.set v (row.set i false) := by unfold strike; rw [List.getD_eq_getElem?_getD, hr]; rfl
    rw [e]
    exact h5
theorem avoid_bd {n : Net} (hn : netOk n = true) {v i : Nat} (hv : v < n.ends.length) (hi : i < (n.ends.getD v []).length) : -1 ≤ avoidB n v i ∧ avoidB n v i ≤ 40 := by
  have hp : PortAt n v i (portF n v i) := portAt_iff.2 ⟨hi, rfl⟩
  obtain ⟨p1, p2, p3, p4, p5⟩ := port_in hn hp
  have hc := cut_ok hn (keepX v i (portF n v i)) (keepX_ok hn hp)
  have hcl : (cutB n (keepX v i (portF n v i))).ends.length = n.ends.length := by simp [cutB]
  have h1 := dist_bd hc (v := v) (w := (portF n v i).1.toNat) (by omega) (by omega)
  have h2 := (netOk_len hn).2
  unfold avoidB
  omega
set_option maxRecDepth 100000 in
set_option maxHeartbeats 16000000 in
theorem meAvoid_any (ve vi vn : Value) (n : Net) (v i : Nat) (w : World) (h : NetIn w ve vi vn n) (hn : netOk n = true) (hv : v < n.ends.length) (hi : i < (n.ends.getD v []).length) :
    Calls Tryz.prog 176 #[.agg #[ve, vi, vn], .int .i64 v, .int .i64 i] w fun e w' => e = .returned (.int .i64 (avoidB n v i)) ∧ Below w.heap.size w w' := by
  have hn1 := (netOk_len hn).1
  have hn40 := (netOk_len hn).2
  have Hn := Lib.hid hn
  obtain ⟨es, hes⟩ := getx n.ends v hv
  have hgd : n.ends.getD v [] = es := getD_of hes
  rw [hgd] at hi
  obtain ⟨⟨x1, x2⟩, hx⟩ := getx es i hi
  have hpt : PortAt n v i (x1, x2) := by unfold PortAt; rw [hgd]; exact hx
  have hpf : portF n v i = (x1, x2) := (portAt_iff.1 hpt).2
  obtain ⟨-, p2, p3, p4, p5⟩ := port_in hn hpt
  obtain ⟨a1, rfl⟩ := Int.eq_ofNat_of_zero_le p2
  obtain ⟨a2, rfl⟩ := Int.eq_ofNat_of_zero_le p4
  simp only [Int.toNat_natCast] at p5
  have ha1 : a1 < n.ends.length := by omega
  obtain ⟨es2, hes2⟩ := getx n.ends a1 ha1
  have ha2 : a2 < es2.length := by have := (portAt_iff.1 p5).1; rwa [getD_of hes2] at this
  obtain ⟨C, hC⟩ : ∃ C, cutB n (keepX v i ((a1 : Int), (a2 : Int))) = C := ⟨_, rfl⟩
  have hCok : netOk C = true := by rw [← hC]; exact cut_ok hn _ (keepX_ok hn hpt)
  have hCl : C.ends.length = n.ends.length := by rw [← hC]; simp [cutB]
  obtain ⟨D, hD⟩ : ∃ D, avoidB n v i = D := ⟨_, rfl⟩
  have HD : Hid ((distB C v).getD a1 0 = D) := by show _ = _; rw [← hD, ← hC]; unfold avoidB; rw [hpf]; rfl
  rw [hD]
  have HC := Lib.hid hC
  have HCok := Lib.hid hCok
  have HCl := Lib.hid hCl
  have hes6 := (netOk_row hn hes).1
  obtain ⟨w0, hw0⟩ : ∃ w0, w0 = (w).alloc (.cells #[ve, vi, vn] 27) := ⟨_, rfl⟩
  have hb0 : Below w.heap.size w w0 := by rw [hw0]; exact ((Below.refl _ _).alloc (by simp) _)
  have H := Lib.hid (h.keep hb0)
  obtain ⟨h1, h2, h3⟩ := h.keep hb0
  obtain ⟨A, c, rfl, hlc, hm, hA⟩ := h1
  obtain ⟨A2, c2, rfl, _, hm2, _⟩ := h2
  obtain ⟨A3, c3, rfl, _, hm3, _⟩ := h3
  unfold maxLen at hm hm2 hm3
  have p00 : ∀ W, Since w0 W → W.cell? ⟨w.heap.size, 0, none⟩ = some (.slice A n.ends.length c) := have_cell (by rw [hw0]; simp)
  have p01 : ∀ W, Since w0 W → W.cell? ⟨w.heap.size, 1, none⟩ = some (.slice A2 n.ids.length c2) := have_cell (by rw [hw0]; simp)
  have p02 : ∀ W, Since w0 W → W.cell? ⟨w.heap.size, 2, none⟩ = some (.slice A3 n.inputs.length c3) := have_cell (by rw [hw0]; simp)
  have Hb0 := Lib.hid hb0
  have Hw0 := Lib.hid hw0
  have HA := Lib.hid hA
  clear hA h
  clear hb0 hw0
  obtain ⟨b, offr, cr, ur, hA1, hkr, hc1, hro⟩ := row_at H.out.es hes
  cases hA1
  obtain ⟨A1, z1, rfl, hz1, hz2, hA1⟩ := hro
  unfold maxLen at hz2
  obtain ⟨b1, off1, rfl, hd1, hd2⟩ := hA1 i _ hx
  have t0 := have_cell hc1
  have t1 := have_cell hd1
  have t2 := have_cell hd2
  have hs0 : Since w0 w0 := since_refl _
  have Hes := Lib.hid hes
  have Hes2 := Lib.hid hes2
  obtain ⟨w1, hw1⟩ : ∃ w1, w1 = w0.alloc (.cells #[.int .i64 (a1 : Int), .int .i64 (a2 : Int)] 62) := ⟨_, rfl⟩
  have hs1 : Since w0 w1 := by rw [hw1]; exact since_alloc _ (since_refl _)
  obtain ⟨eb, hebs⟩ : ∃ eb, eb = w0.heap.size := ⟨_, rfl⟩
  have k0 : ∀ W, Since w1 W → W.cell? ⟨eb, 0, none⟩ = some (.int .i64 (a1 : Int)) := have_cell (by rw [hw1, hebs]; simp)
  have k1 : ∀ W, Since w1 W → W.cell? ⟨eb, 1, none⟩ = some (.int .i64 (a2 : Int)) := have_cell (by rw [hw1, hebs]; simp)
  have Hs1 := Lib.hid hs1
  have Hw1 := Lib.hid hw1
  have Heb := Lib.hid hebs
  clear hn hgd hx hpt hpf p2 p3 p4 p5 hC hCok hCl hD hc1 hA1 hd1 hd2 hes hes2 hw1 hebs
  go_enter Tryz.func176, Tryz.ntmps176
  go_upto_region 1 with (fail)
  rw [← Hw0.out]
  go_upto_region 2 with (fail)
  rw [← Hw1.out, ← Heb.out]
  clear hs0
  go_wp2_with fail
  refine (neAll_any _ _ _ n w1 (H.out.keep Hs1.out.below) Hn.out).mono ?_
  rintro e w2 ⟨u2, S2, rfl, ho2, hb2⟩
  obtain ⟨gB, cB, hu2⟩ := ownBB_some ho2 (by rw [allTo_len (Nat.le_refl _)]; omega)
  rw [allTo_len (Nat.le_refl _)] at hu2
  subst hu2
  have hs12 : Since w1 w2 := hb2
  have hr0 : (allTo n n.ends.length)[v]? = some (List.replicate es.length true) := by unfold allTo; rw [List.take_length, List.getElem?_map, Hes.out]; rfl
  obtain ⟨gr, cr0, y0, m1, m2, m3, m4, m5, m6, hst1⟩ := strike_cell ho2 hr0 (i := i) (by simpa using hi)
  rw [List.length_replicate] at m1 m2
  obtain ⟨K1, hK1⟩ : ∃ K1, strike (allTo n n.ends.length) v i = K1 := ⟨_, rfl⟩
  rw [hK1] at hst1
  obtain ⟨row2, hrow2, hrl2, -⟩ := (((keep_all n).strike v i)).row a1 es2 Hes2.out
  rw [hK1] at hrow2
  obtain ⟨w3, hw3⟩ : ∃ w3, w3 = w2.setCell ⟨gr, i, none⟩ (.bool false) := ⟨_, rfl⟩
  have hs13 : Since w1 w3 := by rw [hw3]; exact Below.setCell hs12 m6 _
  rw [← hw3] at hst1
  obtain ⟨gr2, cr2, y2, q1, q2, q3, q4, q5, q6, hst2⟩ := strike_cell hst1 hrow2 (i := a2) (by omega)
  rw [hrl2] at q1 q2
  have Hst1 := Lib.hid hst1
  have Hrow2 := Lib.hid hrow2
  have HKI : Hid (KeepIs n (strike K1 a1 a2) (keepX v i ((a1 : Int), (a2 : Int)))) := by rw [← hK1]; exact keep_strike (f := ((a1 : Int), (a2 : Int)))
  have Hs13 := Lib.hid hs13
  have Hw3 := Lib.hid hw3
  have r1 := have_cell q1
  have e0 := lift_cell k0 hs13
  have e1 := lift_cell k1 hs13
  have h00 := lift_cell p00 Hs1.out
  have h01 := lift_cell p01 Hs1.out
  have h02 := lift_cell p02 Hs1.out
  clear ho2 hb2 hr0 hst1 hst2 hs13 hw3 hK1 hrow2 q1 q4 q5 m6 q6 t0 t1 t2 p00 p01 p02
  go_upto_region 4 with (fail)
  rw [← Hw3.out]
  clear hs12 m1 m4 m5
  refine wp_region_flow 8 (Since w3) (by kernel_rfl) (by kernel_rfl) (by simp) (since_drew (since_refl _)) ?_
  simp only [List.take_succ_cons, List.take_zero, List.drop_succ_cons, List.drop_zero]
  refine flow_val (v := ?_) rfl ?_ ?_; rotate_left; (intro W hW; go_simp; with_reducible rfl)
  simp only [Act.put, List.setIfInBounds_toArray, List.set_cons_succ, List.set_cons_zero]
  refine flow_val (v := ?_) rfl ?_ ?_; rotate_left; (intro W hW; go_simp; with_reducible rfl)
  simp only [Act.put, List.setIfInBounds_toArray, List.set_cons_succ, List.set_cons_zero]
  refine flow_val (v := ?_) rfl ?_ ?_; rotate_left; (intro W hW; go_simp; with_reducible rfl)
  simp only [Act.put, List.setIfInBounds_toArray, List.set_cons_succ, List.set_cons_zero]
  refine flow_val (v := ?_) rfl ?_ ?_; rotate_left; (intro W hW; go_simp; with_reducible rfl)
  simp only [Act.put, List.setIfInBounds_toArray, List.set_cons_succ, List.set_cons_zero]
  refine flow_val (v := ?_) rfl ?_ ?_; rotate_left; (intro W hW; go_simp; with_reducible rfl)
  simp only [Act.put, List.setIfInBounds_toArray, List.set_cons_succ, List.set_cons_zero]
  refine flow_val (v := ?_) rfl ?_ ?_; rotate_left; (intro W hW; go_simp; with_reducible rfl)
  simp only [Act.put, List.setIfInBounds_toArray, List.set_cons_succ, List.set_cons_zero]
  refine flow_val (v := ?_) rfl ?_ ?_; rotate_left; (intro W hW; go_simp; with_reducible rfl)
  simp only [Act.put, List.setIfInBounds_toArray, List.set_cons_succ, List.set_cons_zero]
  refine flow_val (v := ?_) rfl ?_ ?_; rotate_left; (intro W hW; go_simp; with_reducible rfl)
  simp only [Act.put, List.setIfInBounds_toArray, List.set_cons_succ, List.set_cons_zero]
  intro W hW
  have HstW := lawBB.keep Hst1.out hW.below
  obtain ⟨gr3, cr3, y3, n1, n2, n3, n4, n5, n6, hst3⟩ := strike_cell HstW Hrow2.out (i := a2) (by omega)
  have hn := (r1 W hW).symm.trans n1
  simp only [Option.some.injEq, Value.slice.injEq, Addr.mk.injEq, and_true] at hn
  obtain ⟨rfl, -, rfl⟩ := hn
  obtain ⟨w4, hw4⟩ : ∃ w4, w4 = W.setCell ⟨gr2, a2, none⟩ (.bool false) := ⟨_, rfl⟩
  have hs14 : Since w1 w4 := by rw [hw4]; exact Below.setCell (Hs13.out.after hW) n6 _
  rw [← hw4] at hst3
  have HK4 := Lib.hid hst3
  have Hs14 := Lib.hid hs14
  have Hw4 := Lib.hid hw4
  have u0 := lift_cell k0 hs14
  have u1 := lift_cell h00 hs14
  have u2 := lift_cell h01 hs14
  have u3 := lift_cell h02 hs14
  have HKr : Hid (∀ X, Since w4 X → BoolSS X (.slice (some ⟨gB, 0, none⟩) n.ends.length cB) (strike K1 a1 a2)) := fun X hX => (OwnBB.read HK4.out).keep hX.below
  have HNr : Hid (∀ X, Since w4 X → NetIn X (.slice (some ⟨b, offr, none⟩) n.ends.length c) (.slice A2 n.ids.length c2) (.slice A3 n.inputs.length c3) n) := fun X hX => H.out.keep (Hs1.out.after (Hs14.out.after hX)).below
  clear hW r1 e0 e1 n1 n6 hst3 hw4 hs14 HstW k0 k1 h00 h01 h02
  go_upto_region 5 with (fail)
  rw [← Hw4.out]
  clear n4 n5
  refine wp_region_chain (w0 := w4) 9 [false, false, true, false, true, false, false, true, true] (by kernel_rfl) (by kernel_rfl) (since_refl _) ?_
  simp only [selF, selT, List.take_succ_cons, List.take_zero, List.drop_succ_cons, List.drop_zero]
  refine pflow_val (v := ?_) rfl ?_ ?_; rotate_left; (intro W hW; go_simp; with_reducible rfl)
  simp only [Act.put, List.setIfInBounds_toArray, List.set_cons_succ, List.set_cons_zero]
  refine pflow_val (v := ?_) rfl ?_ ?_; rotate_left; (intro W hW; go_simp; with_reducible rfl)
  simp only [Act.put, List.setIfInBounds_toArray, List.set_cons_succ, List.set_cons_zero]
  refine pflow_val (v := ?_) rfl ?_ ?_; rotate_left; (intro W hW; go_simp; with_reducible rfl)
  simp only [Act.put, List.setIfInBounds_toArray, List.set_cons_succ, List.set_cons_zero]
  refine pflow_val (v := ?_) rfl ?_ ?_; rotate_left; (intro W hW; go_simp; with_reducible rfl)
  simp only [Act.put, List.setIfInBounds_toArray, List.set_cons_succ, List.set_cons_zero]
  refine pflow_val (v := ?_) rfl ?_ ?_; rotate_left; (intro W hW; go_simp; with_reducible rfl)
  simp only [Act.put, List.setIfInBounds_toArray, List.set_cons_succ, List.set_cons_zero]
  intro W hW
  refine Or.inl ⟨rfl, ?_⟩
  go_simp
  (with_reducible refine (neCut_any _ _ _ _ n _ _ W (HNr.out W hW) Hn.out (HKr.out W hW) HKI.out).mono ?_)
  rintro e W' ⟨qe, qi, qn, Sq, rfl, hoq, hbq⟩
  refine ⟨_, rfl, hW.trans hbq, ?_⟩
  replace hW := hW.trans hbq
  have HCq : Hid (∀ X, Since W' X → NetIn X qe qi qn C) := (fun X hX => by have h9 := hoq.read; rw [HC.out] at h9; exact h9.keep hX.below)
  clear hoq hbq
  (try simp only [Act.put, List.setIfInBounds_toArray, List.set_cons_succ, List.set_cons_zero])
  refine Or.inl ⟨rfl, ?_⟩
  go_simp
  (with_reducible refine (meFrom_any _ _ _ C v _ (HCq.out _ (since_refl _)) HCok.out (by rw [HCl.out]; exact hv)).mono ?_)
  rintro e W' ⟨ud, rfl, hod, hbd⟩
  refine ⟨_, rfl, hW.trans hbd, ?_⟩
  replace hW := hW.trans hbd
  obtain ⟨gd, cd, dd, rfl, hdd, cdd, hgd⟩ := dist_row HCok.out (by rw [HCl.out]; exact hv) (show a1 < C.ends.length by rw [HCl.out]; exact ha1) hod
  have hddD : dd = D := by rw [← HD.out, getD_of hdd]
  subst hddD
  rw [HCl.out] at *
  clear hod hbd hdd hgd
  (try simp only [Act.put, List.setIfInBounds_toArray, List.set_cons_succ, List.set_cons_zero])
  refine tflow_val (v := ?_) rfl ?_ hW ?_; rotate_left; (go_simp; with_reducible rfl)
  simp only [Act.put, List.setIfInBounds_toArray, List.set_cons_succ, List.set_cons_zero]
  refine tflow_val (v := ?_) rfl ?_ hW ?_; rotate_left; (go_simp; with_reducible rfl)
  simp only [Act.put, List.setIfInBounds_toArray, List.set_cons_succ, List.set_cons_zero]
  simp only [TFlow]
  have HW := Lib.hid (Hs14.out.after hW)
  clear hW
  go_wp2
  go_ret
  exact ⟨rfl, Since.after Hb0.out (Hs1.out.after HW.out)⟩
end Go.Proofs.YtfkmkpamdlhbgaaGreat
namespace Go.Proofs.YtfkmkpamdlhbgaaGreat
open Go.RowKit
/-! the girth; the property: the reference -/
set_option maxRecDepth 100000 in
set_option maxHeartbeats 8000000 in
theorem meGirth_any (ve vi vn : Value) (n : Net) (w : World) (h : NetIn w ve vi vn n) (hn : netOk n = true) :
    Calls Tryz.prog 157 #[.agg #[ve, vi, vn]] w fun e w' => e = .returned (.int .i64 (girthB n)) ∧ Below w.heap.size w w' := by
  have hnl := netOk_len hn
  have hnl1 := hnl.1
  have hnl2 := hnl.2
  have Hn := Lib.hid hn
  obtain ⟨w0, hw0⟩ : ∃ w0, w0 = (w).alloc (.cells #[ve, vi, vn] 27) := ⟨_, rfl⟩
  have hb0 : Below w.heap.size w w0 := by rw [hw0]; exact ((Below.refl _ _).alloc (by simp) _)
  have H := Lib.hid (h.keep hb0)
  obtain ⟨h1, h2, h3⟩ := h.keep hb0
  obtain ⟨A, c, rfl, hlc, hm, hA⟩ := h1
  obtain ⟨A2, c2, rfl, _, hm2, _⟩ := h2
  obtain ⟨A3, c3, rfl, _, hm3, _⟩ := h3
  unfold maxLen at hm hm2 hm3
  have p00 : ∀ W, Since w0 W → W.cell? ⟨w.heap.size, 0, none⟩ = some (.slice A n.ends.length c) := have_cell (by rw [hw0]; simp)
  have p01 : ∀ W, Since w0 W → W.cell? ⟨w.heap.size, 1, none⟩ = some (.slice A2 n.ids.length c2) := have_cell (by rw [hw0]; simp)
  have p02 : ∀ W, Since w0 W → W.cell? ⟨w.heap.size, 2, none⟩ = some (.slice A3 n.inputs.length c3) := have_cell (by rw [hw0]; simp)
  have Hb0 := Lib.hid hb0
  have Hw0 := Lib.hid hw0
  have HA := Lib.hid hA
  clear hA h
  clear hb0 hw0
  have hs0 : Since w0 w0 := since_refl _
  obtain ⟨rb, hrb⟩ : ∃ rb, girthB n = rb := ⟨_, rfl⟩
  have Hrb : Hid (gTo n n.ends.length = rb) := hrb
  rw [hrb]
  clear hn hnl hrb
  go_enter Tryz.func157, Tryz.ntmps157
  go_upto_region 1 with (fail)
  rw [← Hw0.out]
  go_wp2
  go_loopw [3, 11] (fun o i wr => ∃ k : Nat, k ≤ n.ends.length ∧ i = .int .i64 k ∧ o = .int .i64 (gTo n k) ∧ Since w0 wr) (fun _ i _ => n.ends.length - (intOf i).toNat)
  case atStart => exact ⟨0, Nat.zero_le _, rfl, rfl, hs0⟩
  case round =>
    obtain ⟨k, hk, rfl, rfl, hsr⟩ := hrel
    have Hs := Lib.hid hsr
    clear hs0
    obtain ⟨o0, ho0⟩ : ∃ o0, gTo n k = o0 := ⟨_, rfl⟩
    have Ho0 := Lib.hid ho0
    rw [ho0]
    clear ho0
    by_cases hlt : k < n.ends.length
    · obtain ⟨es, hes⟩ := getx n.ends k hlt
      have hrow := netOk_row Hn.out hes
      have hes6 := hrow.1
      have hgd : n.ends.getD k [] = es := getD_of hes
      obtain ⟨b, offr, cr, ur, hA1, hkr, hc1, hro⟩ := row_at H.out.es hes
      cases hA1
      obtain ⟨A1, z1, rfl, hz1, hz2, hA1⟩ := hro
      unfold maxLen at hz2
      have HA1 := Lib.hid hA1
      have r1 := lift_cell (have_cell hc1) Hs.out
      have q5 := r1 wr (since_refl _)
      have Hgd := Lib.hid hgd
      have m4 : IntKind.i64.wrap ((k : Int) + 1) = (k : Int) + 1 := wr64 _ (by omega) (by omega)
      clear hes hrow hc1 hA1 hgd
      go_wp2
      go_loopw [3, 20] (fun o i wq => ∃ j : Nat, j ≤ es.length ∧ i = .int .i64 j ∧ o = .int .i64 (gRow n k j o0) ∧ Since w0 wq) (fun _ i _ => es.length - (intOf i).toNat)
      case atStart => exact ⟨0, Nat.zero_le _, rfl, rfl, Hs.out⟩
      case round =>
        obtain ⟨j, hj, rfl, rfl, hsq⟩ := hrel
        have Hsq := Lib.hid hsq
        obtain ⟨o1, ho1⟩ : ∃ o1, gRow n k j o0 = o1 := ⟨_, rfl⟩
        have Hsu := gRow_succ n k j o0
        rw [ho1] at Hsu ⊢
        have HSu := Lib.hid Hsu
        have Ho1 := Lib.hid ho1
        clear Hsu ho1
        by_cases hlj : j < es.length
        · obtain ⟨⟨x1, x2⟩, hx⟩ := getx es j hlj
          obtain ⟨b1, off1, rfl, hd1, hd2⟩ := HA1.out j _ hx
          have t1 := have_cell hd1 wr Hsq.out
          have t2 := have_cell hd2 wr Hsq.out
          have hpf : portF n k j = (x1, x2) := by unfold portF; rw [Hgd.out]; exact getD_of hx
          have m3 : IntKind.i64.wrap ((j : Int) + 1) = (j : Int) + 1 := wr64 _ (by omega) (by omega)
          obtain ⟨w8, hw8⟩ : ∃ w8, w8 = wr.alloc (.cells #[.int .i64 x1, .int .i64 x2] 62) := ⟨_, rfl⟩
          have hs8 : Since w0 w8 := by rw [hw8]; exact since_alloc _ Hsq.out
          have Hw8 := Lib.hid hw8
          have d00 : w8.cell? ⟨wr.heap.size, 0, none⟩ = some (.int .i64 x1) := by rw [hw8]; simp
          have d11 : w8.cell? ⟨wr.heap.size, 1, none⟩ = some (.int .i64 x2) := by rw [hw8]; simp
          have Hs8 := Lib.hid hs8
          have Hpf := Lib.hid hpf
          have hav := avoid_bd Hn.out hlt (i := j) (by rw [Hgd.out]; exact hlj)
          obtain ⟨d, hd⟩ : ∃ d, avoidB n k j = d := ⟨_, rfl⟩
          rw [hd] at hav
          have Hd := Lib.hid hd
          have Hcall := Lib.hid (meAvoid_any _ _ _ n k j w8 (H.out.keep hs8.below) Hn.out hlt (by rw [Hgd.out]; exact hlj))
          clear hx hd1 hd2 hw8 hpf hd
          go_upto_region 8 with (fail)
          rw [← Hw8.out]
          clear t1 t2
          cases hg : eqE (x1, x2) ((k : Int), (j : Int))
          · have hgp : gPort n k o1 j = gStep o1 d := by unfold gPort; rw [Hpf.out, if_neg (by unfold eqE at hg; exact of_decide_eq_false hg), Hd.out]
            have Hgp := Lib.hid hgp
            have m5 : IntKind.i64.wrap (d + 1) = d + 1 := wr64 _ (by omega) (by omega)
            clear hgp hav
            go_wp2_with fail
            refine Hcall.out.mono ?_
            rw [Hd.out]
            rintro e w9 ⟨rfl, hb9⟩
            have Hs9 := Lib.hid (Hs8.out.after hb9)
            clear hb9 d00 d11 hs8 hsq
            go_upto_region 10 with (fail)
            refine wp_region_flow0 12 (Since w9) (since_refl _) ?_
            simp only [List.take_succ_cons, List.take_zero, List.drop_succ_cons, List.drop_zero]
            refine flow_val (v := ?_) rfl ?_ ?_; rotate_left; (intro W hW; go_simp; with_reducible rfl)
            simp only [Act.put, List.setIfInBounds_toArray, List.set_cons_succ, List.set_cons_zero]
            refine flow_val (v := ?_) rfl ?_ ?_; rotate_left; (intro W hW; go_simp; with_reducible rfl)
            simp only [Act.put, List.setIfInBounds_toArray, List.set_cons_succ, List.set_cons_zero]
            refine flow_val (v := ?_) rfl ?_ ?_; rotate_left; (intro W hW; go_simp; with_reducible rfl)
            simp only [Act.put, List.setIfInBounds_toArray, List.set_cons_succ, List.set_cons_zero]
            refine flow_gval (v := ?_) rfl rfl ?_ ?_; rotate_left; (intro hb; intro W hW; go_simp; with_reducible rfl)
            simp only [Act.put, List.setIfInBounds_toArray, List.set_cons_succ, List.set_cons_zero]
            refine flow_gval (v := ?_) rfl rfl ?_ ?_; rotate_left; (intro hb; intro W hW; go_simp; with_reducible rfl)
            simp only [Act.put, List.setIfInBounds_toArray, List.set_cons_succ, List.set_cons_zero]
            refine flow_gval (v := ?_) rfl rfl ?_ ?_; rotate_left; (intro hb; intro W hW; go_simp; with_reducible rfl)
            simp only [Act.put, List.setIfInBounds_toArray, List.set_cons_succ, List.set_cons_zero]
            refine flow_gval2 (v := ?_) rfl rfl ?_ ?_; rotate_left; (intro hb hb2; intro W hW; go_simp; with_reducible rfl)
            simp only [Act.put, List.setIfInBounds_toArray, List.set_cons_succ, List.set_cons_zero]
            refine flow_gval2 (v := ?_) rfl rfl ?_ ?_; rotate_left; (intro hb hb2; intro W hW; go_simp; with_reducible rfl)
            simp only [Act.put, List.setIfInBounds_toArray, List.set_cons_succ, List.set_cons_zero]
            refine flow_gval2 (v := ?_) rfl rfl ?_ ?_; rotate_left; (intro hb hb2; intro W hW; go_simp; with_reducible rfl)
            simp only [Act.put, List.setIfInBounds_toArray, List.set_cons_succ, List.set_cons_zero]
            refine flow_gval2 (v := ?_) rfl rfl ?_ ?_; rotate_left; (intro hb hb2; intro W hW; go_simp; with_reducible rfl)
            simp only [Act.put, List.setIfInBounds_toArray, List.set_cons_succ, List.set_cons_zero]
            refine flow_gor rfl rfl rfl ?_
            simp only [Act.put, List.setIfInBounds_toArray, List.set_cons_succ, List.set_cons_zero]
            first | refine flow_and rfl rfl ?_ | (refine flow_val (v := ?_) rfl ?_ ?_; rotate_left; (intro W hW; go_simp; with_reducible rfl))
            simp only [Act.put, List.setIfInBounds_toArray, List.set_cons_succ, List.set_cons_zero]
            intro W hW
            have HW := Lib.hid (Hs9.out.after hW)
            clear hW
            cases hgg : (decide (0 ≤ d) && ((o1 == 0) || decide (d + 1 < o1)))
            · have hst : gStep o1 d = o1 := by
                unfold gStep
                rw [if_neg]
                rintro ⟨h1, h2⟩
                rw [Bool.and_eq_false_iff] at hgg
                rcases hgg with h3 | h3
                · exact (of_decide_eq_false h3) h1
                · rw [Bool.or_eq_false_iff] at h3
                  rcases h2 with h4 | h4
                  · rw [h4] at h3; simp at h3
                  · exact (of_decide_eq_false h3.2) h4
              have Hst := Lib.hid hst
              clear hst
              go_wp2
              go_roundw
              case rel => exact ⟨j + 1, by omega, by first | rfl | go_num, by rw [HSu.out, Hgp.out, Hst.out], HW.out⟩
              case measure => simp [intOf]; omega
            · have hst : gStep o1 d = d + 1 := by
                unfold gStep
                rw [if_pos]
                rw [Bool.and_eq_true, Bool.or_eq_true] at hgg
                exact ⟨of_decide_eq_true hgg.1, hgg.2.elim (fun h => .inl (by simpa using h)) (fun h => .inr (of_decide_eq_true h))⟩
              have Hst := Lib.hid hst
              clear hst
              go_wp2
              go_roundw
              case rel => exact ⟨j + 1, by omega, by first | rfl | go_num, by rw [HSu.out, Hgp.out, Hst.out], HW.out⟩
              case measure => simp [intOf]; omega
          · have hgp : gPort n k o1 j = o1 := by unfold gPort; rw [Hpf.out, if_pos (by unfold eqE at hg; exact of_decide_eq_true hg)]
            have Hgp := Lib.hid hgp
            clear hgp hsq
            go_wp2
            go_roundw
            case rel => exact ⟨j + 1, by omega, by first | rfl | go_num, by rw [HSu.out, Hgp.out], Hs8.out⟩
            case measure => simp [intOf]; omega
        · obtain rfl : j = es.length := by omega
          have Hnx : Hid (gTo n (k + 1) = o1) := by show _ = _; rw [gTo_succ, Ho0.out, Hgd.out, Ho1.out]
          clear hsq hsr
          go_wp2
          go_roundw
          case rel => exact ⟨k + 1, by omega, by first | rfl | go_num, by rw [Hnx.out], Hsq.out⟩
          case measure => simp [intOf]; omega
    · obtain rfl : k = n.ends.length := by omega
      have hb : rb = o0 := by rw [← Hrb.out]; exact Ho0.out
      subst hb
      clear hsr
      go_wp2
      go_ret
      exact ⟨rfl, Since.after Hb0.out Hs.out⟩
set_option maxRecDepth 100000 in
set_option maxHeartbeats 4000000 in
theorem meForest_any (ve vi vn : Value) (n : Net) (w : World) (h : NetIn w ve vi vn n) (hn : netOk n = true) :
    Calls Tryz.prog 132 #[.agg #[ve, vi, vn]] w fun e w' => e = .returned (.bool (forB n)) ∧ Below w.heap.size w w' := by
  have Hn := Lib.hid hn
  obtain ⟨w0, hw0⟩ : ∃ w0, w0 = (w).alloc (.cells #[ve, vi, vn] 27) := ⟨_, rfl⟩
  have hb0 : Below w.heap.size w w0 := by rw [hw0]; exact ((Below.refl _ _).alloc (by simp) _)
  have H := Lib.hid (h.keep hb0)
  obtain ⟨h1, h2, h3⟩ := h.keep hb0
  obtain ⟨A, c, rfl, hlc, hm, hA⟩ := h1
  obtain ⟨A2, c2, rfl, _, hm2, _⟩ := h2
  obtain ⟨A3, c3, rfl, _, hm3, _⟩ := h3
  unfold maxLen at hm hm2 hm3
  have p00 : ∀ W, Since w0 W → W.cell? ⟨w.heap.size, 0, none⟩ = some (.slice A n.ends.length c) := have_cell (by rw [hw0]; simp)
  have p01 : ∀ W, Since w0 W → W.cell? ⟨w.heap.size, 1, none⟩ = some (.slice A2 n.ids.length c2) := have_cell (by rw [hw0]; simp)
  have p02 : ∀ W, Since w0 W → W.cell? ⟨w.heap.size, 2, none⟩ = some (.slice A3 n.inputs.length c3) := have_cell (by rw [hw0]; simp)
  have Hb0 := Lib.hid hb0
  have Hw0 := Lib.hid hw0
  have HA := Lib.hid hA
  clear hA h
  clear hb0 hw0
  have HE := Lib.hid (for_eq2 hn)
  clear hn
  go_enter Tryz.func132, Tryz.ntmps132
  go_upto_region 1 with (fail)
  rw [← Hw0.out]
  refine wp_region_flow0 9 (Since w0) (since_refl _) ?_
  simp only [List.take_succ_cons, List.take_zero, List.drop_succ_cons, List.drop_zero]
  refine flow_val (v := ?_) rfl ?_ ?_; rotate_left; (intro W hW; go_simp; with_reducible rfl)
  simp only [Act.put, List.setIfInBounds_toArray, List.set_cons_succ, List.set_cons_zero]
  refine flow_op ?_ rfl ?_ ?_; rotate_left; (intro W hW; unfold Gives; go_simp; (with_reducible refine (meStub_any _ _ _ n W (H.out.keep hW.below) Hn.out).mono ?_); rintro e W' ⟨rfl, hb3⟩; first | (refine ⟨?_, Since.trans hW hb3⟩; with_reducible rfl) | (subst hb3; refine ⟨?_, hW⟩; with_reducible rfl))
  simp only [Act.put, List.setIfInBounds_toArray, List.set_cons_succ, List.set_cons_zero]
  refine flow_val (v := ?_) rfl ?_ ?_; rotate_left; (intro W hW; go_simp; with_reducible rfl)
  simp only [Act.put, List.setIfInBounds_toArray, List.set_cons_succ, List.set_cons_zero]
  refine flow_val (v := ?_) rfl ?_ ?_; rotate_left; (intro W hW; go_simp; with_reducible rfl)
  simp only [Act.put, List.setIfInBounds_toArray, List.set_cons_succ, List.set_cons_zero]
  refine flow_gval (v := ?_) rfl rfl ?_ ?_; rotate_left; (intro hb; intro W hW; go_simp; with_reducible rfl)
  simp only [Act.put, List.setIfInBounds_toArray, List.set_cons_succ, List.set_cons_zero]
  refine flow_gop (v := ?_) rfl rfl ?_ ?_; rotate_left; (intro hb; intro W hW; unfold Gives; go_simp; (with_reducible refine (meGirth_any _ _ _ n W (H.out.keep hW.below) Hn.out).mono ?_); rintro e W' ⟨rfl, hb3⟩; first | (refine ⟨?_, Since.trans hW hb3⟩; with_reducible rfl) | (subst hb3; refine ⟨?_, hW⟩; with_reducible rfl))
  simp only [Act.put, List.setIfInBounds_toArray, List.set_cons_succ, List.set_cons_zero]
  refine flow_gval (v := ?_) rfl rfl ?_ ?_; rotate_left; (intro hb; intro W hW; go_simp; with_reducible rfl)
  simp only [Act.put, List.setIfInBounds_toArray, List.set_cons_succ, List.set_cons_zero]
  first | refine flow_and rfl rfl ?_ | (refine flow_val (v := ?_) rfl ?_ ?_; rotate_left; (intro W hW; go_simp; with_reducible rfl))
  simp only [Act.put, List.setIfInBounds_toArray, List.set_cons_succ, List.set_cons_zero]
  refine flow_val (v := ?_) rfl ?_ ?_; rotate_left; (intro W hW; go_simp; with_reducible rfl)
  simp only [Act.put, List.setIfInBounds_toArray, List.set_cons_succ, List.set_cons_zero]
  intro W hW
  go_wp2
  go_ret
  exact ⟨ret_bool HE.out.symm, Since.after Hb0.out hW⟩
def evenTo (n : Net) (k : Nat) : Prop := ∀ v, v < k → evenAt n v = true
theorem evenTo_end {n : Net} (h : evenTo n n.ends.length) : evenAll n = true := by
  unfold evenAll
  rw [List.all_eq_true]
  exact fun v hv => h v (List.mem_range.1 hv)
theorem places_size (n : Net) (p : Nat) : (placesTo (compB n) (p : Int) (compB n).length).length = sizeOf' n p := by
  unfold placesTo sizeOf' sizeTo
  rw [List.length_map, show (compB n).length = n.ends.length by simp [compB]]
  congr 1
  apply List.filter_congr
  intro v hv
  have hv := List.mem_range.1 hv
  rw [show (compB n).getD v 0 = ((leastB n v : Nat) : Int) from getD_of (by unfold compB; rw [List.getElem?_map, List.getElem?_range hv]; rfl)]
  simp only [Int.ofNat_inj]
set_option maxRecDepth 100000 in
set_option maxHeartbeats 8000000 in
theorem plHas_any (ve vi vn : Value) (n : Net) (s : Int) (w : World) (h : NetIn w ve vi vn n) (hn : netOk n = true) (hs : 1 ≤ s ∧ s ≤ 5) :
    Calls Tryz.prog 83 #[.agg #[ve, vi, vn], .int .i64 s] w fun e w' => e = .returned (.tuple #[.bool (hasB2 n s), .bool (knowB n s)]) ∧ Below w.heap.size w w' := by
  have hnl := netOk_len hn
  have hnl1 := hnl.1
  have hnl2 := hnl.2
  have Hn := Lib.hid hn
  obtain ⟨w0, hw0⟩ : ∃ w0, w0 = (w).alloc (.cells #[ve, vi, vn] 27) := ⟨_, rfl⟩
  have hb0 : Below w.heap.size w w0 := by rw [hw0]; exact ((Below.refl _ _).alloc (by simp) _)
  have H := Lib.hid (h.keep hb0)
  obtain ⟨h1, h2, h3⟩ := h.keep hb0
  obtain ⟨A, c, rfl, hlc, hm, hA⟩ := h1
  obtain ⟨A2, c2, rfl, _, hm2, _⟩ := h2
  obtain ⟨A3, c3, rfl, _, hm3, _⟩ := h3
  unfold maxLen at hm hm2 hm3
  have p00 : ∀ W, Since w0 W → W.cell? ⟨w.heap.size, 0, none⟩ = some (.slice A n.ends.length c) := have_cell (by rw [hw0]; simp)
  have p01 : ∀ W, Since w0 W → W.cell? ⟨w.heap.size, 1, none⟩ = some (.slice A2 n.ids.length c2) := have_cell (by rw [hw0]; simp)
  have p02 : ∀ W, Since w0 W → W.cell? ⟨w.heap.size, 2, none⟩ = some (.slice A3 n.inputs.length c3) := have_cell (by rw [hw0]; simp)
  have Hb0 := Lib.hid hb0
  have Hw0 := Lib.hid hw0
  have HA := Lib.hid hA
  clear hA h
  clear hb0 hw0
  have hs0 : Since w0 w0 := since_refl _
  obtain ⟨r0, hr0⟩ : ∃ r, hasB2 n s = r := ⟨_, rfl⟩
  obtain ⟨r1, hr1⟩ : ∃ r, knowB n s = r := ⟨_, rfl⟩
  have Hr0 := Lib.hid hr0
  have Hr1 := Lib.hid hr1
  rw [hr0, hr1]
  clear hn hnl hr0 hr1
  go_enter Tryz.func83, Tryz.ntmps83
  by_cases h1 : s = 1
  · subst h1
    have e0 : r0 = bipB n := by rw [← Hr0.out]; unfold hasB2; rw [if_pos rfl]
    have e1 : r1 = true := by rw [← Hr1.out]; unfold knowB; rw [if_neg (by decide)]
    subst e0 e1
    go_upto_region 1 with (fail)
    rw [← Hw0.out]
    go_wp2_with fail
    refine (meTwo_any _ _ _ n w0 H.out Hn.out).mono ?_
    rintro e w1 ⟨u, rfl, ho, hb⟩
    have Hs1 : Hid (Since w0 w1) := hb
    clear ho hb hs0
    go_wp2
    go_ret2
    exact ⟨rfl, Since.after Hb0.out Hs1.out⟩
  by_cases h2 : s = 2
  · subst h2
    have e0 : r0 = tcHas (tcAll n) := by rw [← Hr0.out]; unfold hasB2; rw [if_neg h1, if_pos rfl]
    have e1 : r1 = (tcAll n).isSome := by rw [← Hr1.out]; unfold knowB; rw [if_pos rfl]
    subst e0 e1
    go_upto_region 1 with (fail)
    rw [← Hw0.out]
    go_wp2_with fail
    refine (plThree_any _ _ _ n w0 H.out Hn.out).mono ?_
    rintro e w1 ⟨u, rfl, ho, hb⟩
    have Hs1 : Hid (Since w0 w1) := hb
    clear ho hb hs0
    go_wp2
    go_ret2
    exact ⟨rfl, Since.after Hb0.out Hs1.out⟩
  have e1 : r1 = true := by rw [← Hr1.out]; unfold knowB; rw [if_neg h2]
  subst e1
  by_cases h3 : s = 3
  · subst h3
    have e0 : r0 = forB n := by rw [← Hr0.out]; unfold hasB2; rw [if_neg h1, if_neg h2, if_pos rfl]
    subst e0
    go_upto_region 1 with (fail)
    rw [← Hw0.out]
    go_wp2_with fail
    refine (meForest_any _ _ _ n w0 H.out Hn.out).mono ?_
    rintro e w1 ⟨rfl, hb⟩
    have Hs1 : Hid (Since w0 w1) := hb
    clear hb hs0
    go_wp2
    go_ret2
    exact ⟨rfl, Since.after Hb0.out Hs1.out⟩
  have b1 : (s == 1) = false := by simpa using h1
  have b2 : (s == 2) = false := by simpa using h2
  have b3 : (s == 3) = false := by simpa using h3
  by_cases hid : n.ids.length = 0
  · have e0 : r0 = false := by rw [← Hr0.out]; unfold hasB2; rw [if_neg h1, if_neg h2, if_neg h3, if_pos hid]
    subst e0
    have hid2 : ((n.ids.length : Int) == 0) = true := by simpa using hid
    clear h1 h2 h3 hid
    go_upto_region 1 with (fail)
    rw [← Hw0.out]
    go_wp2
    go_ret2
    exact ⟨rfl, Hb0.out⟩
  have hid2 : ((n.ids.length : Int) == 0) = false := by simpa using hid
  have hid3 : ¬ n.ids = [] := fun e => hid (by rw [e]; rfl)
  by_cases h4 : s = 4
  · subst h4
    have e0 : r0 = leadAll n := by rw [← Hr0.out]; unfold hasB2; rw [if_neg h1, if_neg h2, if_neg h3, if_neg hid, if_pos rfl]
    subst e0
    clear h1 h2 h3 b1 b2 b3 hid
    go_upto_region 1 with (fail)
    rw [← Hw0.out]
    go_wp2_with fail
    refine (plOnce_any _ _ _ n w0 H.out Hn.out).mono ?_
    rintro e w1 ⟨u, rfl, ho, hb⟩
    have Hs1 : Hid (Since w0 w1) := hb
    clear ho hb hs0
    go_wp2
    go_ret2
    exact ⟨rfl, Since.after Hb0.out Hs1.out⟩
  have b4 : (s == 4) = false := by simpa using h4
  have e0 : r0 = evenAll n := by rw [← Hr0.out]; unfold hasB2; rw [if_neg h1, if_neg h2, if_neg h3, if_neg hid, if_neg h4]
  have He0 : Hid (evenAll n = r0) := e0.symm
  clear e0 h1 h2 h3 h4 hid
  go_upto_region 1 with (fail)
  rw [← Hw0.out]
  go_wp2_with fail
  refine (meParts_any _ _ _ n w0 H.out Hn.out).mono ?_
  rintro e w2 ⟨u2, rfl, ho2, hb2⟩
  have hcl : (compB n).length = n.ends.length := by simp [compB]
  obtain ⟨gc, cc, rfl⟩ : ∃ gc cc, u2 = .slice (some ⟨gc, 0, none⟩) n.ends.length cc := by
    obtain ⟨x, hx⟩ := getx (compB n) 0 (by omega)
    obtain ⟨g, c, h1, -⟩ := own_row ho2 hx
    exact ⟨g, c, by rw [h1, hcl]⟩
  have Ho2 := Lib.hid ho2
  have Hs2 : Hid (Since w0 w2) := hb2
  have Hcl := Lib.hid hcl
  clear ho2 hb2 hs0 hcl
  go_wp2
  go_loopw [55] (fun i wr => ∃ k : Nat, k ≤ n.ends.length ∧ i = .int .i64 k ∧ evenTo n k ∧ Since w2 wr) (fun i _ => n.ends.length - (intOf i).toNat)
  case atStart => exact ⟨0, Nat.zero_le _, rfl, fun v hv => by omega, since_refl _⟩
  case round =>
    obtain ⟨k, hk, rfl, hev, hsr⟩ := hrel
    have Hev := Lib.hid hev
    have Hs := Lib.hid hsr
    clear hev hsr
    by_cases hlt : k < n.ends.length
    · have m3 : IntKind.i64.wrap ((k : Int) + 1) = (k : Int) + 1 := wr64 _ (by omega) (by omega)
      obtain ⟨p, hp⟩ : ∃ p, leastB n k = p := ⟨_, rfl⟩
      have HoW := Lib.hid (Ho2.out.since Hs.out)
      have c1 := HoW.out.cell (show (compB n)[k]? = some (p : Int) by rw [← hp]; unfold compB; rw [List.getElem?_map, List.getElem?_range hlt]; rfl)
      have Hp := Lib.hid hp
      have HI : Hid (IntS wr (.slice (some ⟨gc, 0, none⟩) n.ends.length cc) (compB n)) := HoW.out.ints
      have Hsz := places_size n p
      rw [Hcl.out] at Hsz
      obtain ⟨z, hz⟩ : ∃ z, sizeOf' n p = z := ⟨_, rfl⟩
      have hzl : z ≤ n.ends.length := by rw [← hz]; exact sizeTo_le n p _
      rw [hz] at Hsz
      have HSz := Lib.hid Hsz
      have Hz := Lib.hid hz
      clear hp Hsz hz
      go_wp2_with fail
      refine (deNodes_any _ (compB n) (p : Int) wr HI.out (by rw [Hcl.out]; omega)).mono ?_
      rintro e w3 ⟨u3, rfl, ho3, hb3⟩
      rw [Hcl.out] at ho3
      obtain ⟨A3', c3', rfl⟩ : ∃ A c, u3 = .slice A z c := by
        rcases ho3.cases with ⟨rfl, e1⟩ | ⟨g, c, rfl, -, -⟩
        · have := congrArg List.length e1; rw [HSz.out, List.length_nil] at this; exact ⟨none, 0, by rw [this]⟩
        · exact ⟨_, c, by rw [HSz.out]⟩
      have Hs3 := Lib.hid (Hs.out.after hb3)
      clear ho3 hb3 c1
      by_cases hod : z % 2 = 1
      · have t1 : Int.tmod (z : Int) 2 = 1 := by rw [Int.tmod_eq_emod_of_nonneg (by omega)]; omega
        have t2 : (z : Int) % 2 = 1 := by omega
        have hno : evenAll n = false := all_range_no hlt (by unfold evenAt; rw [Hp.out, Hz.out, hod]; rfl)
        rw [He0.out] at hno
        subst hno
        go_wp2
        go_ret2
        exact ⟨rfl, Since.after Hb0.out (Hs2.out.after Hs3.out)⟩
      · have t1 : Int.tmod (z : Int) 2 = 0 := by rw [Int.tmod_eq_emod_of_nonneg (by omega)]; omega
        have t2 : (z : Int) % 2 = 0 := by omega
        have Hev2 : Hid (evenTo n (k + 1)) := fun v hv => by
          rcases Nat.lt_or_ge v k with h1 | h1
          · exact Hev.out v h1
          · rw [show v = k by omega]
            unfold evenAt
            rw [Hp.out, Hz.out]
            have : (z % 2 == 1) = false := by simpa using hod
            rw [this]; rfl
        clear hod
        go_wp2
        go_roundw
        case rel => exact ⟨k + 1, by omega, by first | rfl | go_num, Hev2.out, Hs3.out⟩
        case measure => simp [intOf]; omega
    · obtain rfl : k = n.ends.length := by omega
      have hbt := evenTo_end Hev.out
      rw [He0.out] at hbt
      subst hbt
      go_wp2
      go_ret2
      exact ⟨rfl, Since.after Hb0.out (Hs2.out.after Hs.out)⟩
end Go.Proofs.YtfkmkpamdlhbgaaGreat
