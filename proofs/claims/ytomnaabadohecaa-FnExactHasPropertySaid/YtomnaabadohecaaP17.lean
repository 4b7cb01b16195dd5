/- Parts of the proof: walks of functions and plain laws. -/
import Derived.Test.YtomnaabadohecaaP16
import Derived.Test.YtomnaabadohecaaP11
import Derived.Test.YtomnaabadohecaaP12
namespace Go.Proofs.Ytomnaabadohecaa
open Go.RowKit
/-! the shortest way round an edge; the girth; forests: the reference -/
theorem ownBB_some {w : World} {base : Nat} {v : Value} {xss : List (List Bool)} {S : List Nat} (h : OwnBB w base v xss S) (hl : 0 < xss.length) : ∃ g c, v = .slice (some ⟨g, 0, none⟩) xss.length c := by
  obtain ⟨vs, Ss, h1, -⟩ := h
  rcases ownsRow_cases h1 with ⟨-, h0⟩ | ⟨g, c, rfl, -⟩
  · omega
  · exact ⟨g, c, rfl⟩
/-- a port is struck -/
def strike (K : List (List Bool)) (v i : Nat) : List (List Bool) := K.set v ((K.getD v []).set i false)
theorem KeepIs.strike {n : Net} {K : List (List Bool)} {kf : Nat → Nat → Bool} (h : KeepIs n K kf) (v i : Nat) : KeepIs n (strike K v i) (fun x j => kf x j && !(x == v && j == i)) where
  len := by unfold Proofs.Ytomnaabadohecaa.strike; rw [List.length_set]; exact h.len
  row := fun x es hes => by
    obtain ⟨row, h1, h2, h3⟩ := h.row x es hes
    unfold Proofs.Ytomnaabadohecaa.strike
    by_cases e : v = x
    · subst e
      refine ⟨row.set i false, by rw [List.getElem?_set_self (lt_of_get h1), List.getD_eq_getElem?_getD, h1]; rfl, by rw [List.length_set]; exact h2, fun j hj => ?_⟩
      rw [List.getElem?_set]
      by_cases e2 : i = j
      · subst e2
        rw [if_pos rfl, if_pos (by omega)]
        simp
      · rw [if_neg e2, h3 j hj]
        have : (v == v && j == i) = false := by simp; exact fun e => e2 e.symm
        rw [this]; simp
    · refine ⟨row, by rw [List.getElem?_set_ne e]; exact h1, h2, fun j hj => ?_⟩
      rw [h3 j hj]
      have : (x == v && j == i) = false := by simp; exact fun e2 => absurd e2.symm e
      rw [this]; simp
theorem keep_all (n : Net) : KeepIs n (allTo n n.ends.length) (fun _ _ => true) where
  len := allTo_len (Nat.le_refl _)
  row := fun v es hes => by
    unfold allTo
    rw [List.take_length]
    exact ⟨List.replicate es.length true, by rw [List.getElem?_map, hes]; rfl, by simp, fun i hi => by rw [List.getElem?_replicate, if_pos hi]⟩
theorem keep_strike {n : Net} {v i : Nat} {f : Int × Int} : KeepIs n (strike (strike (allTo n n.ends.length) v i) f.1.toNat f.2.toNat) (keepX v i f) := by
  have h := ((keep_all n).strike v i).strike f.1.toNat f.2.toNat
  have e : (fun x j => (true && !(x == v && j == i)) && !(x == f.1.toNat && j == f.2.toNat)) = keepX v i f := by
    funext x j
    unfold keepX
    cases (x == v && j == i) <;> cases (x == f.1.toNat && j == f.2.toNat) <;> rfl
  rwa [e] at h
/-- where a cell of the rows lies, and the rows behind a store there -/
theorem strike_cell {w : World} {base g c n : Nat} {K : List (List Bool)} {S : List Nat} (h : OwnBB w base (.slice (some ⟨g, 0, none⟩) n c) K S) {v i : Nat} {row : List Bool} (hr : K[v]? = some row) (hi : i < row.length) :
    ∃ gr cr y, w.cell? ⟨g, v, none⟩ = some (.slice (some ⟨gr, 0, none⟩) row.length cr) ∧ row.length ≤ cr ∧ cr ≤ 9223372036854775807 ∧ w.cell? ⟨gr, i, none⟩ = some (.bool y) ∧ w.frozen? ⟨gr, i, none⟩ = false ∧ base ≤ gr ∧
      OwnBB (w.setCell ⟨gr, i, none⟩ (.bool false)) base (.slice (some ⟨g, 0, none⟩) n c) (strike K v i) S := by
  obtain ⟨u, T, h1, h2, h3, h4⟩ := OwnRows.touch lawB h hr
  rcases ownsRow_cases h2.row with ⟨-, h0⟩ | ⟨gr, cr, rfl, hb, hg, hc, hm⟩
  · omega
  · obtain ⟨y, hy⟩ := getx row i hi
    unfold maxLen at hm
    refine ⟨gr, cr, y, h1, hc, by omega, h2.cell hy, ownsRow_free h2.row i, hb, ?_⟩
    have h5 := h4 (row.set i false) (w.setCell ⟨gr, i, none⟩ (.bool false)) (h2.set i false) ((Only.refl _ _).setCell (.inl (by rw [h2.2]; simp [Value.ownBlock])) _)
    have e : strike K v i = K.set v (row.set i false) := by unfold strike; rw [List.getD_eq_getElem?_getD, hr]; rfl
    rw [e]
    exact h5
theorem avoid_bd {n : Net} (hn : netOk n = true) {v i : Nat} (hv : v < n.ends.length) (hi : i < (n.ends.getD v []).length) : -1 ≤ avoidB n v i ∧ avoidB n v i ≤ 40 := by
  have hp : PortAt n v i (portF n v i) := portAt_iff.2 ⟨hi, rfl⟩
  obtain ⟨p1, p2, p3, p4, p5⟩ := port_in hn hp
  have hc := cut_ok hn (keepX v i (portF n v i)) (keepX_ok hn hp)
  have hcl : (cutB n (keepX v i (portF n v i))).ends.length = n.ends.length := by simp [cutB]
  have h1 := dist_bd hc (v := v) (w := (portF n v i).1.toNat) (by omega) (by omega)
  have h2 := (netOk_len hn).2
  unfold avoidB
  omega
set_option maxRecDepth 100000 in
set_option maxHeartbeats 16000000 in
theorem meAvoid_any (ve vi vn : Value) (n : Net) (v i : Nat) (w : World) (h : NetIn w ve vi vn n) (hn : netOk n = true) (hv : v < n.ends.length) (hi : i < (n.ends.getD v []).length) :
    Calls Try.prog 66 #[.agg #[ve, vi, vn], .int .i64 v, .int .i64 i] w fun e w' => e = .returned (.int .i64 (avoidB n v i)) ∧ Below w.heap.size w w' := by
  have hn1 := (netOk_len hn).1
  have hn40 := (netOk_len hn).2
  have Hn := Lib.hid hn
  obtain ⟨es, hes⟩ := getx n.ends v hv
  have hgd : n.ends.getD v [] = es := getD_of hes
  rw [hgd] at hi
  obtain ⟨⟨x1, x2⟩, hx⟩ := getx es i hi
  have hpt : PortAt n v i (x1, x2) := by unfold PortAt; rw [hgd]; exact hx
  have hpf : portF n v i = (x1, x2) := (portAt_iff.1 hpt).2
  obtain ⟨-, p2, p3, p4, p5⟩ := port_in hn hpt
  obtain ⟨a1, rfl⟩ := Int.eq_ofNat_of_zero_le p2
  obtain ⟨a2, rfl⟩ := Int.eq_ofNat_of_zero_le p4
  simp only [Int.toNat_natCast] at p5
  have ha1 : a1 < n.ends.length := by omega
  obtain ⟨es2, hes2⟩ := getx n.ends a1 ha1
  have ha2 : a2 < es2.length := by have := (portAt_iff.1 p5).1; rwa [getD_of hes2] at this
  obtain ⟨C, hC⟩ : ∃ C, cutB n (keepX v i ((a1 : Int), (a2 : Int))) = C := ⟨_, rfl⟩
  have hCok : netOk C = true := by rw [← hC]; exact cut_ok hn _ (keepX_ok hn hpt)
  have hCl : C.ends.length = n.ends.length := by rw [← hC]; simp [cutB]
  obtain ⟨D, hD⟩ : ∃ D, avoidB n v i = D := ⟨_, rfl⟩
  have HD : Hid ((distB C v).getD a1 0 = D) := by show _ = _; rw [← hD, ← hC]; unfold avoidB; rw [hpf]; rfl
  rw [hD]
  have HC := Lib.hid hC
  have HCok := Lib.hid hCok
  have HCl := Lib.hid hCl
  have hes6 := (netOk_row hn hes).1
  obtain ⟨w0, hw0⟩ : ∃ w0, w0 = (w).alloc (.cells #[ve, vi, vn] 31) := ⟨_, rfl⟩
  have hb0 : Below w.heap.size w w0 := by rw [hw0]; exact ((Below.refl _ _).alloc (by simp) _)
  have H := Lib.hid (h.keep hb0)
  obtain ⟨h1, h2, h3⟩ := h.keep hb0
  obtain ⟨A, c, rfl, hlc, hm, hA⟩ := h1
  obtain ⟨A2, c2, rfl, _, hm2, _⟩ := h2
  obtain ⟨A3, c3, rfl, _, hm3, _⟩ := h3
  unfold maxLen at hm hm2 hm3
  have p00 : ∀ W, Since w0 W → W.cell? ⟨w.heap.size, 0, none⟩ = some (.slice A n.ends.length c) := have_cell (by rw [hw0]; simp)
  have p01 : ∀ W, Since w0 W → W.cell? ⟨w.heap.size, 1, none⟩ = some (.slice A2 n.ids.length c2) := have_cell (by rw [hw0]; simp)
  have p02 : ∀ W, Since w0 W → W.cell? ⟨w.heap.size, 2, none⟩ = some (.slice A3 n.inputs.length c3) := have_cell (by rw [hw0]; simp)
  have Hb0 := Lib.hid hb0
  have Hw0 := Lib.hid hw0
  have HA := Lib.hid hA
  clear hA h
  clear hb0 hw0
  obtain ⟨b, offr, cr, ur, hA1, hkr, hc1, hro⟩ := row_at H.out.es hes
  cases hA1
  obtain ⟨A1, z1, rfl, hz1, hz2, hA1⟩ := hro
  unfold maxLen at hz2
  obtain ⟨b1, off1, rfl, hd1, hd2⟩ := hA1 i _ hx
  have t0 := have_cell hc1
  have t1 := have_cell hd1
  have t2 := have_cell hd2
  have hs0 : Since w0 w0 := since_refl _
  have Hes := Lib.hid hes
  have Hes2 := Lib.hid hes2
  obtain ⟨w1, hw1⟩ : ∃ w1, w1 = w0.alloc (.cells #[.int .i64 (a1 : Int), .int .i64 (a2 : Int)] 56) := ⟨_, rfl⟩
  have hs1 : Since w0 w1 := by rw [hw1]; exact since_alloc _ (since_refl _)
  obtain ⟨eb, hebs⟩ : ∃ eb, eb = w0.heap.size := ⟨_, rfl⟩
  have k0 : ∀ W, Since w1 W → W.cell? ⟨eb, 0, none⟩ = some (.int .i64 (a1 : Int)) := have_cell (by rw [hw1, hebs]; simp)
  have k1 : ∀ W, Since w1 W → W.cell? ⟨eb, 1, none⟩ = some (.int .i64 (a2 : Int)) := have_cell (by rw [hw1, hebs]; simp)
  have Hs1 := Lib.hid hs1
  have Hw1 := Lib.hid hw1
  have Heb := Lib.hid hebs
  clear hn hgd hx hpt hpf p2 p3 p4 p5 hC hCok hCl hD hc1 hA1 hd1 hd2 hes hes2 hw1 hebs
  go_enter Try.func66, Try.ntmps66
  go_upto_region 1 with (fail)
  rw [← Hw0.out]
  go_upto_region 2 with (fail)
  rw [← Hw1.out, ← Heb.out]
  clear hs0
  go_wp2_with fail
  refine (neAll_any _ _ _ n w1 (H.out.keep Hs1.out.below) Hn.out).mono ?_
  rintro e w2 ⟨u2, S2, rfl, ho2, hb2⟩
  obtain ⟨gB, cB, hu2⟩ := ownBB_some ho2 (by rw [allTo_len (Nat.le_refl _)]; omega)
  rw [allTo_len (Nat.le_refl _)] at hu2
  subst hu2
  have hs12 : Since w1 w2 := hb2
  have hr0 : (allTo n n.ends.length)[v]? = some (List.replicate es.length true) := by unfold allTo; rw [List.take_length, List.getElem?_map, Hes.out]; rfl
  obtain ⟨gr, cr0, y0, m1, m2, m3, m4, m5, m6, hst1⟩ := strike_cell ho2 hr0 (i := i) (by simpa using hi)
  rw [List.length_replicate] at m1 m2
  obtain ⟨K1, hK1⟩ : ∃ K1, strike (allTo n n.ends.length) v i = K1 := ⟨_, rfl⟩
  rw [hK1] at hst1
  obtain ⟨row2, hrow2, hrl2, -⟩ := (((keep_all n).strike v i)).row a1 es2 Hes2.out
  rw [hK1] at hrow2
  obtain ⟨w3, hw3⟩ : ∃ w3, w3 = w2.setCell ⟨gr, i, none⟩ (.bool false) := ⟨_, rfl⟩
  have hs13 : Since w1 w3 := by rw [hw3]; exact Below.setCell hs12 m6 _
  rw [← hw3] at hst1
  obtain ⟨gr2, cr2, y2, q1, q2, q3, q4, q5, q6, hst2⟩ := strike_cell hst1 hrow2 (i := a2) (by omega)
  rw [hrl2] at q1 q2
  have Hst1 := Lib.hid hst1
  have Hrow2 := Lib.hid hrow2
  have HKI : Hid (KeepIs n (strike K1 a1 a2) (keepX v i ((a1 : Int), (a2 : Int)))) := by rw [← hK1]; exact keep_strike (f := ((a1 : Int), (a2 : Int)))
  have Hs13 := Lib.hid hs13
  have Hw3 := Lib.hid hw3
  have r1 := have_cell q1
  have e0 := lift_cell k0 hs13
  have e1 := lift_cell k1 hs13
  have h00 := lift_cell p00 Hs1.out
  have h01 := lift_cell p01 Hs1.out
  have h02 := lift_cell p02 Hs1.out
  clear ho2 hb2 hr0 hst1 hst2 hs13 hw3 hK1 hrow2 q1 q4 q5 m6 q6 t0 t1 t2 p00 p01 p02
  go_upto_region 4 with (fail)
  rw [← Hw3.out]
  clear hs12 m1 m4 m5
  refine wp_region_flow 8 (Since w3) (by kernel_rfl) (by kernel_rfl) (by simp) (since_drew (since_refl _)) ?_
  simp only [List.take_succ_cons, List.take_zero, List.drop_succ_cons, List.drop_zero]
  refine flow_val (v := ?_) rfl ?_ ?_; rotate_left; (intro W hW; go_simp; with_reducible rfl)
  simp only [Act.put, List.setIfInBounds_toArray, List.set_cons_succ, List.set_cons_zero]
  refine flow_val (v := ?_) rfl ?_ ?_; rotate_left; (intro W hW; go_simp; with_reducible rfl)
  simp only [Act.put, List.setIfInBounds_toArray, List.set_cons_succ, List.set_cons_zero]
  refine flow_val (v := ?_) rfl ?_ ?_; rotate_left; (intro W hW; go_simp; with_reducible rfl)
  simp only [Act.put, List.setIfInBounds_toArray, List.set_cons_succ, List.set_cons_zero]
  refine flow_val (v := ?_) rfl ?_ ?_; rotate_left; (intro W hW; go_simp; with_reducible rfl)
  simp only [Act.put, List.setIfInBounds_toArray, List.set_cons_succ, List.set_cons_zero]
  refine flow_val (v := ?_) rfl ?_ ?_; rotate_left; (intro W hW; go_simp; with_reducible rfl)
  simp only [Act.put, List.setIfInBounds_toArray, List.set_cons_succ, List.set_cons_zero]
  refine flow_val (v := ?_) rfl ?_ ?_; rotate_left; (intro W hW; go_simp; with_reducible rfl)
  simp only [Act.put, List.setIfInBounds_toArray, List.set_cons_succ, List.set_cons_zero]
  refine flow_val (v := ?_) rfl ?_ ?_; rotate_left; (intro W hW; go_simp; with_reducible rfl)
  simp only [Act.put, List.setIfInBounds_toArray, List.set_cons_succ, List.set_cons_zero]
  refine flow_val (v := ?_) rfl ?_ ?_; rotate_left; (intro W hW; go_simp; with_reducible rfl)
  simp only [Act.put, List.setIfInBounds_toArray, List.set_cons_succ, List.set_cons_zero]
  intro W hW
  have HstW := lawBB.keep Hst1.out hW.below
  obtain ⟨gr3, cr3, y3, n1, n2, n3, n4, n5, n6, hst3⟩ := strike_cell HstW Hrow2.out (i := a2) (by omega)
  have hn := (r1 W hW).symm.trans n1
  simp only [Option.some.injEq, Value.slice.injEq, Addr.mk.injEq, and_true] at hn
  obtain ⟨rfl, -, rfl⟩ := hn
  obtain ⟨w4, hw4⟩ : ∃ w4, w4 = W.setCell ⟨gr2, a2, none⟩ (.bool false) := ⟨_, rfl⟩
  have hs14 : Since w1 w4 := by rw [hw4]; exact Below.setCell (Hs13.out.after hW) n6 _
  rw [← hw4] at hst3
  have HK4 := Lib.hid hst3
  have Hs14 := Lib.hid hs14
  have Hw4 := Lib.hid hw4
  have u0 := lift_cell k0 hs14
  have u1 := lift_cell h00 hs14
  have u2 := lift_cell h01 hs14
  have u3 := lift_cell h02 hs14
  have HKr : Hid (∀ X, Since w4 X → BoolSS X (.slice (some ⟨gB, 0, none⟩) n.ends.length cB) (strike K1 a1 a2)) := fun X hX => (OwnBB.read HK4.out).keep hX.below
  have HNr : Hid (∀ X, Since w4 X → NetIn X (.slice (some ⟨b, offr, none⟩) n.ends.length c) (.slice A2 n.ids.length c2) (.slice A3 n.inputs.length c3) n) := fun X hX => H.out.keep (Hs1.out.after (Hs14.out.after hX)).below
  clear hW r1 e0 e1 n1 n6 hst3 hw4 hs14 HstW k0 k1 h00 h01 h02
  go_upto_region 5 with (fail)
  rw [← Hw4.out]
  clear n4 n5
  refine wp_region_chain (w0 := w4) 9 [false, false, true, false, true, false, false, true, true] (by kernel_rfl) (by kernel_rfl) (since_refl _) ?_
  simp only [selF, selT, List.take_succ_cons, List.take_zero, List.drop_succ_cons, List.drop_zero]
  refine pflow_val (v := ?_) rfl ?_ ?_; rotate_left; (intro W hW; go_simp; with_reducible rfl)
  simp only [Act.put, List.setIfInBounds_toArray, List.set_cons_succ, List.set_cons_zero]
  refine pflow_val (v := ?_) rfl ?_ ?_; rotate_left; (intro W hW; go_simp; with_reducible rfl)
  simp only [Act.put, List.setIfInBounds_toArray, List.set_cons_succ, List.set_cons_zero]
  refine pflow_val (v := ?_) rfl ?_ ?_; rotate_left; (intro W hW; go_simp; with_reducible rfl)
  simp only [Act.put, List.setIfInBounds_toArray, List.set_cons_succ, List.set_cons_zero]
  refine pflow_val (v := ?_) rfl ?_ ?_; rotate_left; (intro W hW; go_simp; with_reducible rfl)
  simp only [Act.put, List.setIfInBounds_toArray, List.set_cons_succ, List.set_cons_zero]
  refine pflow_val (v := ?_) rfl ?_ ?_; rotate_left; (intro W hW; go_simp; with_reducible rfl)
  simp only [Act.put, List.setIfInBounds_toArray, List.set_cons_succ, List.set_cons_zero]
  intro W hW
  refine Or.inl ⟨rfl, ?_⟩
  go_simp
  (with_reducible refine (neCut_any _ _ _ _ n _ _ W (HNr.out W hW) Hn.out (HKr.out W hW) HKI.out).mono ?_)
  rintro e W' ⟨qe, qi, qn, Sq, rfl, hoq, hbq⟩
  refine ⟨_, rfl, hW.trans hbq, ?_⟩
  replace hW := hW.trans hbq
  have HCq : Hid (∀ X, Since W' X → NetIn X qe qi qn C) := (fun X hX => by have h9 := hoq.read; rw [HC.out] at h9; exact h9.keep hX.below)
  clear hoq hbq
  (try simp only [Act.put, List.setIfInBounds_toArray, List.set_cons_succ, List.set_cons_zero])
  refine Or.inl ⟨rfl, ?_⟩
  go_simp
  (with_reducible refine (meFrom_any _ _ _ C v _ (HCq.out _ (since_refl _)) HCok.out (by rw [HCl.out]; exact hv)).mono ?_)
  rintro e W' ⟨ud, rfl, hod, hbd⟩
  refine ⟨_, rfl, hW.trans hbd, ?_⟩
  replace hW := hW.trans hbd
  obtain ⟨gd, cd, dd, rfl, hdd, cdd, hgd⟩ := dist_row HCok.out (by rw [HCl.out]; exact hv) (show a1 < C.ends.length by rw [HCl.out]; exact ha1) hod
  have hddD : dd = D := by rw [← HD.out, getD_of hdd]
  subst hddD
  rw [HCl.out] at *
  clear hod hbd hdd hgd
  (try simp only [Act.put, List.setIfInBounds_toArray, List.set_cons_succ, List.set_cons_zero])
  refine tflow_val (v := ?_) rfl ?_ hW ?_; rotate_left; (go_simp; with_reducible rfl)
  simp only [Act.put, List.setIfInBounds_toArray, List.set_cons_succ, List.set_cons_zero]
  refine tflow_val (v := ?_) rfl ?_ hW ?_; rotate_left; (go_simp; with_reducible rfl)
  simp only [Act.put, List.setIfInBounds_toArray, List.set_cons_succ, List.set_cons_zero]
  simp only [TFlow]
  have HW := Lib.hid (Hs14.out.after hW)
  clear hW
  go_wp2
  go_ret
  exact ⟨rfl, Since.after Hb0.out (Hs1.out.after HW.out)⟩
end Go.Proofs.Ytomnaabadohecaa
namespace Go.Proofs.Ytomnaabadohecaa
open Go.RowKit
/-- how many of xs have label c in l -/
def sameC (l : List Int) (c : Int) (xs : List Int) : Nat := (xs.filter fun w => l.getD w.toNat 0 == c).length
theorem sameC_snoc {l : List Int} {c : Int} {xs : List Int} {k : Nat} {y : Int} (h : xs[k]? = some y) : sameC l c (xs.take (k + 1)) = sameC l c (xs.take k) + (if l.getD y.toNat 0 == c then 1 else 0) := by
  unfold sameC
  rw [take_snoc h, List.filter_append, List.length_append]
  congr 1
  cases hh : (l.getD y.toNat 0 == c) <;> simp only [List.filter_cons, List.filter_nil, hh] <;> rfl
theorem sameC_le (l : List Int) (c : Int) (xs : List Int) : sameC l c xs ≤ xs.length := List.length_filter_le _ _
theorem sameC_zero (l : List Int) (c : Int) (es : List (Int × Int)) : (sameC l c (es.map (·.1)) = 0) ↔ hasB (nearB l es) c = false := by
  unfold sameC hasB nearB
  rw [List.length_eq_zero_iff, List.filter_eq_nil_iff]
  rw [Bool.eq_false_iff, ne_eq, List.contains_iff_mem]
  constructor
  · intro h hm
    obtain ⟨e, he, h2⟩ := List.mem_map.1 hm
    exact h e.1 (List.mem_map_of_mem he) (by rw [h2]; exact beq_self_eq_true c)
  · intro h x hx h2
    obtain ⟨e, he, rfl⟩ := List.mem_map.1 hx
    exact h (List.mem_map.2 ⟨e, he, by simpa using h2⟩)
set_option maxHeartbeats 4000000 in
theorem ruSame_any (ve vi vn vl : Value) (n : Net) (l : List Int) (k : Nat) (col : Int) (es : List (Int × Int)) (w : World) (h : NetIn w ve vi vn n) (hl : IntS w vl l) (hes : n.ends[k]? = some es) (hle : es.length ≤ 1000) (hin : ∀ e ∈ es, 0 ≤ e.1 ∧ e.1 < l.length) :
    Calls Try.prog 52 #[.agg #[ve, vi, vn], vl, .int .i64 k, .int .i64 col] w fun e w' => e = .returned (.int .i64 (sameC l col (es.map (·.1)))) ∧ Below w.heap.size w w' := by
  obtain ⟨w0, hw0⟩ : ∃ w0, w0 = (w).alloc (.cells #[ve, vi, vn] 31) := ⟨_, rfl⟩
  have hb0 : Below w.heap.size w w0 := by rw [hw0]; exact ((Below.refl _ _).alloc (by simp) _)
  have H := Lib.hid (h.keep hb0)
  obtain ⟨h1, h2, h3⟩ := h.keep hb0
  obtain ⟨A, c, rfl, hlc, hm, hA⟩ := h1
  obtain ⟨A2, c2, rfl, _, hm2, _⟩ := h2
  obtain ⟨A3, c3, rfl, _, hm3, _⟩ := h3
  unfold maxLen at hm hm2 hm3
  have p00 : ∀ W, Since w0 W → W.cell? ⟨w.heap.size, 0, none⟩ = some (.slice A n.ends.length c) := have_cell (by rw [hw0]; simp)
  have p01 : ∀ W, Since w0 W → W.cell? ⟨w.heap.size, 1, none⟩ = some (.slice A2 n.ids.length c2) := have_cell (by rw [hw0]; simp)
  have p02 : ∀ W, Since w0 W → W.cell? ⟨w.heap.size, 2, none⟩ = some (.slice A3 n.inputs.length c3) := have_cell (by rw [hw0]; simp)
  have Hb0 := Lib.hid hb0
  have Hw0 := Lib.hid hw0
  have HA := Lib.hid hA
  clear hA h
  clear hb0 hw0
  have HL := Lib.hid (hl.keep Hb0.out)
  obtain ⟨AL, cL, rfl, hlL, hmL, _⟩ := hl
  unfold maxLen at hmL
  have Hin := Lib.hid hin
  have Hes := Lib.hid hes
  clear hin hes
  have hs0 : Since w0 w0 := since_refl _
  obtain ⟨xs, hxs⟩ : ∃ xs, xs = es.map (·.1) := ⟨_, rfl⟩
  have hxl : xs.length = es.length := by rw [hxs, List.length_map]
  rw [← hxs]
  have Hxs := Lib.hid hxs
  go_enter Try.func52, Try.ntmps52
  go_upto_region 1 with (fail)
  rw [← Hw0.out]
  go_wp2_with fail
  refine (neNear_any _ _ _ n k es w0 H.out Hes.out (by omega)).mono ?_
  rw [← hxs]
  rintro e w1 ⟨u, rfl, ho, hb1⟩
  obtain ⟨AX, cX, rfl, hXl, hXm, _⟩ := id ho.ints
  have HX := Lib.hid ho.ints
  unfold maxLen at hXm
  have hs1 : Since w0 w1 := hs0.trans hb1
  have Hs1 := Lib.hid hs1
  have hz : Since w1 w1 := since_refl _
  clear ho hb1 hs0 hxs hs1
  go_wp2
  go_loopw [9, 16] (fun uc ui wr => ∃ j : Nat, j ≤ xs.length ∧ ui = .int .i64 j ∧ uc = .int .i64 (sameC l col (xs.take j) : Nat) ∧ Since w1 wr) (fun _ ui _ => xs.length - (intOf ui).toNat)
  case atStart => exact ⟨0, Nat.zero_le _, rfl, rfl, hz⟩
  case round =>
    obtain ⟨j, hj, rfl, rfl, hsr⟩ := hrel
    by_cases hlt : j < xs.length
    · obtain ⟨y, hy⟩ := getx xs j hlt
      have hym : 0 ≤ y ∧ y < l.length := by
        have hm := List.mem_of_getElem? hy
        rw [Hxs.out] at hm
        obtain ⟨e, he, rfl⟩ := List.mem_map.1 hm
        exact Hin.out e he
      obtain ⟨q, rfl⟩ := Int.eq_ofNat_of_zero_le hym.1
      have hq : q < l.length := by omega
      obtain ⟨z, hzz⟩ := getx l q hq
      obtain ⟨b1, off1, hA1, hc1⟩ := (by
        obtain ⟨A', c', e', _, _, hA⟩ := HX.out
        cases e'
        exact hA j _ hy : ∃ b off, AX = some ⟨b, off, none⟩ ∧ w1.cell? ⟨b, off + j, none⟩ = some (.int .i64 (q : Int)))
      obtain ⟨b2, off2, hA2, hc2⟩ := (by
        obtain ⟨A', c', e', _, _, hA⟩ := HL.out
        cases e'
        exact hA q _ hzz : ∃ b off, AL = some ⟨b, off, none⟩ ∧ w0.cell? ⟨b, off + q, none⟩ = some (.int .i64 z))
      subst hA1 hA2
      have q1 := hsr.cell hc1
      have q2 := (Hs1.out.after hsr).cell hc2
      have Hsn := Lib.hid (sameC_snoc (l := l) (c := col) hy)
      have hle2 : sameC l col (xs.take j) ≤ 1000 := by have := sameC_le l col (xs.take j); rw [List.length_take] at this; omega
      obtain ⟨ct, hct⟩ : ∃ ct, ct = sameC l col (xs.take j) := ⟨_, rfl⟩
      rw [← hct] at hle2 Hsn ⊢
      have Hz : Hid (l.getD (q : Int).toNat 0 = z) := by show _ = _; rw [Int.toNat_natCast, getD_of hzz]
      have mw : IntKind.i64.wrap ((ct : Int) + 1) = (ct : Int) + 1 := wr64 _ (by omega) (by omega)
      have HS := Lib.hid hsr
      clear hy hym hzz hc1 hc2 hct hz hsr
      cases hb : (z == col)
      · have hn : Hid (sameC l col (xs.take (j + 1)) = ct) := by show _ = _; rw [Hsn.out, Hz.out, hb]; simp
        have hb2 : (z = col) = False := by simpa using hb
        go_wp2
        go_roundw
        case rel => exact ⟨j + 1, by omega, by go_num, by rw [hn.out], HS.out⟩
        case measure => simp [intOf]; omega
      · have hn : Hid (sameC l col (xs.take (j + 1)) = ct + 1) := by show _ = _; rw [Hsn.out, Hz.out, hb]; simp
        have hb2 : (z = col) = True := by simpa using hb
        go_wp2
        go_roundw
        case rel => exact ⟨j + 1, by omega, by go_num, by rw [hn.out]; go_num, HS.out⟩
        case measure => simp [intOf]; omega
    · obtain rfl : j = xs.length := by omega
      have HS := Lib.hid hsr
      clear hsr hz
      go_wp2
      go_ret
      exact ⟨by rw [List.take_length]; rfl, Since.after Hb0.out (Hs1.out.after HS.out)⟩
end Go.Proofs.Ytomnaabadohecaa
namespace Go.Proofs.Ytomnaabadohecaa
open Go.RowKit
set_option maxRecDepth 100000 in
set_option maxHeartbeats 8000000 in
theorem plThree_any (ve vi vn : Value) (n : Net) (w : World) (h : NetIn w ve vi vn n) (hn : netOk n = true) :
    Calls Try.prog 30 #[.agg #[ve, vi, vn]] w fun e w' => ∃ U, e = .returned (.tuple #[U, .bool (tcHas (tcAll n)), .bool (tcAll n).isSome]) ∧ (∀ l, tcAll n = some (some l) → Own w' w.heap.size U l) ∧ Below w.heap.size w w' := by
  have hn40 := netOk_len hn
  have hn1 := hn40.1
  have hn2 := hn40.2
  clear hn40
  have HRow : Hid (∀ (k : Nat) (es : List (Int × Int)), n.ends[k]? = some es → es.length ≤ 6 ∧ ∀ e ∈ es, 0 ≤ e.1 ∧ e.1 < n.ends.length) := fun (k : Nat) (es : List (Int × Int)) he => netOk_row hn he
  clear hn
  obtain ⟨R, hR⟩ : ∃ R, R = tcAll n := ⟨_, rfl⟩
  rw [← hR]
  have HR := Lib.hid hR
  clear hR
  obtain ⟨w0, hw0⟩ : ∃ w0, w0 = (w).alloc (.cells #[ve, vi, vn] 31) := ⟨_, rfl⟩
  have hb0 : Below w.heap.size w w0 := by rw [hw0]; exact ((Below.refl _ _).alloc (by simp) _)
  have H := Lib.hid (h.keep hb0)
  obtain ⟨h1, h2, h3⟩ := h.keep hb0
  obtain ⟨A, c, rfl, hlc, hm, hA⟩ := h1
  obtain ⟨A2, c2, rfl, _, hm2, _⟩ := h2
  obtain ⟨A3, c3, rfl, _, hm3, _⟩ := h3
  unfold maxLen at hm hm2 hm3
  have p00 : ∀ W, Since w0 W → W.cell? ⟨w.heap.size, 0, none⟩ = some (.slice A n.ends.length c) := have_cell (by rw [hw0]; simp)
  have p01 : ∀ W, Since w0 W → W.cell? ⟨w.heap.size, 1, none⟩ = some (.slice A2 n.ids.length c2) := have_cell (by rw [hw0]; simp)
  have p02 : ∀ W, Since w0 W → W.cell? ⟨w.heap.size, 2, none⟩ = some (.slice A3 n.inputs.length c3) := have_cell (by rw [hw0]; simp)
  have Hb0 := Lib.hid hb0
  have Hw0 := Lib.hid hw0
  have HA := Lib.hid hA
  clear hA h
  clear hb0 hw0
  obtain ⟨cA, hcA⟩ : ∃ x, x = c := ⟨_, rfl⟩
  subst hcA
  have hs0 : Since w0 w0 := since_refl _
  go_enter Try.func30, Try.ntmps30
  go_upto_region 1 with (fail)
  rw [← Hw0.out]
  go_wp2_with (at_make; refine mk_ints _ rfl _ _ rfl _ _ n.ends.length rfl rfl rfl rfl (by omega) ?_; intro w1 ho1 hb1 hz1)
  obtain ⟨g, hg⟩ : ∃ g, g = w0.heap.size := ⟨_, rfl⟩
  rw [← hg] at ho1 hz1 ⊢
  have Hg := Lib.hid hg
  clear hg hz1
  go_wp2
  go_loopw [15] (fun i wr => ∃ k : Nat, k ≤ n.ends.length ∧ i = .int .i64 k ∧ Own wr w0.heap.size (.slice (some ⟨g, 0, none⟩) n.ends.length n.ends.length) (List.replicate k (-1) ++ List.replicate (n.ends.length - k) 0) ∧ Since w0 wr) (fun i _ => n.ends.length - (intOf i).toNat)
  case atStart => exact ⟨0, Nat.zero_le _, rfl, by have := ho1; simpa [Hg.out] using this, hb1⟩
  case round =>
    obtain ⟨k, hk, rfl, ho, hs⟩ := hrel
    have Ho := Lib.hid ho
    have Hs := Lib.hid hs
    clear ho1 hb1 ho hs hs0
    by_cases hlt : k < n.ends.length
    · obtain ⟨y, hy⟩ := getx (List.replicate k (-1 : Int) ++ List.replicate (n.ends.length - k) 0) k (by simp; omega)
      have cz := Ho.out.cell hy
      have fz := Ho.out.free k
      clear hy
      go_wp2
      go_roundw
      case rel =>
        refine ⟨k + 1, by omega, by go_num, ?_, Below.setCell Hs.out (by show w0.heap.size ≤ g; rw [Hg.out]; exact Nat.le_refl _) _⟩
        have := Ho.out.set (k := k) (-1)
        have e : (List.replicate k (-1 : Int) ++ List.replicate (n.ends.length - k) 0).set k (-1) = List.replicate (k + 1) (-1) ++ List.replicate (n.ends.length - (k + 1)) 0 := by
          rw [List.set_append_right _ _ (by simp), List.length_replicate, Nat.sub_self, show n.ends.length - k = (n.ends.length - (k + 1)) + 1 by omega, List.replicate_succ, List.set_cons_zero, List.replicate_succ', List.append_assoc]
          rfl
        rwa [e] at this
      case measure => simp [intOf]; omega
    · obtain rfl : k = n.ends.length := by omega
      have Ho2 : Hid (Own wr w0.heap.size (.slice (some ⟨g, 0, none⟩) n.ends.length n.ends.length) (List.replicate n.ends.length (-1))) := by
        have := Ho.out
        rwa [Nat.sub_self, List.replicate_zero, List.append_nil] at this
      have Hgr : Hid (w0.heap.size ≤ g) := by rw [Hg.out]; exact Nat.le_refl _
      clear hk hlt
      obtain ⟨wS, hwS⟩ : ∃ wS, wS = wr := ⟨_, rfl⟩
      rw [← hwS] at Ho2 Hs ⊢
      clear hwS Ho
      go_wp2
      go_loopw [7, 8] (fun us uv wr => ∃ (l : List Int) (v : Int) (s f : Nat), us = .int .i64 (s : Int) ∧ uv = .int .i64 v ∧ Own wr w0.heap.size (.slice (some ⟨g, 0, none⟩) n.ends.length n.ends.length) l ∧ TcSt n l v s f ∧ tcRun n f l v s = R ∧ Since w0 wr) (fun us uv _ => tcMu (intOf uv) (intOf us).toNat)
      case atStart => exact ⟨_, 0, 0, 400002, rfl, rfl, Ho2.out, tc_start, HR.out.symm, Hs.out⟩
      case round =>
        obtain ⟨l, v, s, f, rfl, rfl, ho, hst, hrun, hsr⟩ := hrel
        have Ho := Lib.hid ho
        have Hst := Lib.hid hst
        have Hrun := Lib.hid hrun
        have hlen := hst.len
        have hlo := hst.lo
        have hhi := hst.hi
        have hss := hst.st
        clear ho hrun hst
        by_cases hv : (n.ends.length : Int) ≤ v
        · have hr : Hid (R = some (some l)) := by show _ = _; rw [← Hrun.out]; exact tc_done Hst.out hv
          have HS := Lib.hid hsr
          obtain rfl : v = (n.ends.length : Int) := by omega
          clear hsr hv hlo hhi hss
          go_wp2
          first | go_ret3 | fail
          exact ⟨_, by rw [hr.out]; rfl, by intro l' hl'; rw [hr.out] at hl'; cases hl'; exact Ho.out.mono Hb0.out.size, Since.after Hb0.out HS.out⟩
        · by_cases hv0 : v < 0
          · have hr : Hid (R = some none) := by show _ = _; rw [← Hrun.out]; exact tc_none Hst.out (by omega) hv0
            have HS := Lib.hid hsr
            have hvl : v < (n.ends.length : Int) := by omega
            clear hsr hv hlo hhi hss
            go_wp2
            first | go_ret3 | fail
            exact ⟨_, by rw [hr.out]; rfl, fun l' hl' => by (rw [hr.out] at hl'; cases hl'), Since.after Hb0.out HS.out⟩
          · obtain ⟨k, rfl⟩ := Int.eq_ofNat_of_zero_le (show 0 ≤ v by omega)
            have hk : k < n.ends.length := by omega
            obtain ⟨x, hx⟩ := getx l k (by omega)
            have hxr := Hst.out.rng x (List.mem_of_getElem? hx)
            obtain ⟨f', rfl⟩ := tc_fuel Hst.out
            have cz := Ho.out.cell hx
            have fz := Ho.out.free k
            have Hx := Lib.hid hx
            have m1 : IntKind.i64.wrap ((k : Int) - 1) = (k : Int) - 1 := wr64 _ (by omega) (by omega)
            have m2 : IntKind.i64.wrap (x + 1) = x + 1 := wr64 _ (by omega) (by omega)
            have m3 : IntKind.i64.wrap ((s : Int) + 1) = (s : Int) + 1 := wr64 _ (by omega) (by omega)
            have m4 : IntKind.i64.wrap ((k : Int) + 1) = (k : Int) + 1 := wr64 _ (by omega) (by omega)
            clear hx hv hv0 hlo hhi
            by_cases h2 : x = 2
            · subst h2
              have Hb := Lib.hid (tc_back Hst.out hk Hx.out)
              clear m2 m3 m4 hxr
              go_wp2
              go_roundw
              case rel => exact ⟨l.set k (-1), (k : Int) - 1, s, f', rfl, by first | rfl | go_num, Ho.out.set (k := k) (-1), Hb.out.2, by rw [← Hb.out.1]; exact Hrun.out, hsr.setCell Hgr.out _⟩
              case measure => (simp [intOf, tcMu]; try omega)
            · have h2' : (x = 2) = False := by simp [h2]
              have h2b : (x == 2) = false := by simp [h2]
              by_cases hs : s = 200000
              · have hr : Hid (R = none) := by show _ = _; rw [← Hrun.out]; subst hs; exact tc_stop Hst.out hk Hx.out h2
                have HS := Lib.hid hsr
                have hs1 : ((s : Int) = 200000) = True := by simp; omega
                have hs2 : (s = 200000) = True := by simp [hs]
                have hs3 : ((s : Int) == 200000) = true := by simp; omega
                clear hsr m1 m2 m3 m4 hxr h2 hs hss
                go_wp2
                first | go_ret3 | fail
                exact ⟨_, by rw [hr.out]; rfl, fun l' hl' => by (rw [hr.out] at hl'; cases hl'), Since.after Hb0.out HS.out⟩
              · have hs' : ((s : Int) = 200000) = False := by simp; omega
                have hs2 : (s = 200000) = False := by simp [hs]
                have hs3 : ((s : Int) == 200000) = false := by simp; omega
                have Hg := Lib.hid (tc_go Hst.out hk Hx.out h2 hs)
                have Hs := Lib.hid hs
                clear h2 hs hxr
                obtain ⟨es, hes⟩ := getx n.ends k hk
                obtain ⟨r1, r2⟩ := HRow.out k es hes
                have Hes := Lib.hid hes
                have Hr1 := Lib.hid r1
                have Hr2 := Lib.hid r2
                clear hes r1 r2
                go_upto_region 19 with (fail)
                obtain ⟨l2, hl2⟩ : ∃ l2, l2 = l.set k (x + 1) := ⟨_, rfl⟩
                rw [← hl2] at Hg
                obtain ⟨W0, hW0⟩ : ∃ W0, W0 = wr.setCell ⟨g, k, none⟩ (.int .i64 (x + 1)) := ⟨_, rfl⟩
                rw [← hW0]
                have Ho2 : Hid (Own W0 w0.heap.size (.slice (some ⟨g, 0, none⟩) n.ends.length n.ends.length) l2) := by show Own _ _ _ _; rw [hW0, hl2]; exact Ho.out.set (k := k) (x + 1)
                have hl2l : l2.length = n.ends.length := by rw [hl2, List.length_set]; exact hlen
                have hx2 : l2[k]? = some (x + 1) := by rw [hl2, List.getElem?_set_self (by omega)]
                have HS0 : Hid (Since w0 W0) := by show Since _ _; rw [hW0]; exact hsr.setCell Hgr.out _
                have qz2 := have_cell (Ho2.out.cell hx2)
                have HIl := Lib.hid (show ∀ X, Since W0 X → IntS X (.slice (some ⟨g, 0, none⟩) n.ends.length n.ends.length) l2 from fun X hX => by have := (Own.since Ho2.out hX).ints; exact this)
                have t0 := lift_cell p00 HS0.out
                have t1 := lift_cell p01 HS0.out
                have t2 := lift_cell p02 HS0.out
                have hz : Since W0 W0 := since_refl _
                have Hl2l := Lib.hid hl2l
                have Hx2 := Lib.hid hx2
                have Hgd := Lib.hid (show tcGood n l2 k = !(hasB (nearB l2 es) (x + 1)) by unfold tcGood hasB; rw [getD_of Hes.out, getD_of hx2])
                have HP := Lib.hid (And.intro p00 (And.intro p01 p02))
                clear hW0 hl2 hl2l hx2 hsr cz fz p00 p01 p02
                have Hzz := Lib.hid (sameC_zero l2 (x + 1) es)
                have hle := sameC_le l2 (x + 1) (es.map (·.1))
                rw [List.length_map] at hle
                have Hle := Lib.hid hle
                obtain ⟨ct, hct⟩ : ∃ ct, ct = sameC l2 (x + 1) (es.map (·.1)) := ⟨_, rfl⟩
                rw [← hct] at Hzz Hle
                have Hct := Lib.hid hct
                have HRS : Hid (∀ W, Since W0 W → Calls Try.prog 52 #[.agg #[.slice A n.ends.length cA, .slice A2 n.ids.length c2, .slice A3 n.inputs.length c3], .slice (some ⟨g, 0, none⟩) n.ends.length n.ends.length, .int .i64 k, .int .i64 (x + 1)] W fun e w' => e = .returned (.int .i64 ct) ∧ Below W.heap.size W w') := by
                  intro W hW
                  have := ruSame_any _ _ _ _ n l2 k (x + 1) es W (H.out.keep (HS0.out.after hW).below) (HIl.out W hW) Hes.out (by have := Hr1.out; omega) (by rw [Hl2l.out]; exact Hr2.out)
                  rw [← hct] at this
                  exact this
                clear hle hct
                refine wp_region_flow 9 (Since W0) (by kernel_rfl) (by kernel_rfl) (by simp) (since_drew (since_refl _)) ?_
                simp only [List.take_succ_cons, List.take_zero, List.drop_succ_cons, List.drop_zero]
                refine flow_val (v := ?_) rfl ?_ ?_; rotate_left; (intro W hW; go_simp; with_reducible rfl)
                simp only [Act.put, List.setIfInBounds_toArray, List.set_cons_succ, List.set_cons_zero]
                refine flow_val (v := ?_) rfl ?_ ?_; rotate_left; (intro W hW; go_simp; with_reducible rfl)
                simp only [Act.put, List.setIfInBounds_toArray, List.set_cons_succ, List.set_cons_zero]
                refine flow_val (v := ?_) rfl ?_ ?_; rotate_left; (intro W hW; go_simp; with_reducible rfl)
                simp only [Act.put, List.setIfInBounds_toArray, List.set_cons_succ, List.set_cons_zero]
                refine flow_val (v := ?_) rfl ?_ ?_; rotate_left; (intro W hW; go_simp; with_reducible rfl)
                simp only [Act.put, List.setIfInBounds_toArray, List.set_cons_succ, List.set_cons_zero]
                refine flow_val (v := ?_) rfl ?_ ?_; rotate_left; (intro W hW; go_simp; with_reducible rfl)
                simp only [Act.put, List.setIfInBounds_toArray, List.set_cons_succ, List.set_cons_zero]
                refine flow_val (v := ?_) rfl ?_ ?_; rotate_left; (intro W hW; go_simp; with_reducible rfl)
                simp only [Act.put, List.setIfInBounds_toArray, List.set_cons_succ, List.set_cons_zero]
                refine flow_val (v := ?_) rfl ?_ ?_; rotate_left; (intro W hW; go_simp; with_reducible rfl)
                simp only [Act.put, List.setIfInBounds_toArray, List.set_cons_succ, List.set_cons_zero]
                refine flow_op ?_ rfl ?_ ?_; rotate_left; (intro W hW; unfold Gives; go_simp; (with_reducible refine (HRS.out W hW).mono ?_); rintro e W' ⟨rfl, hb3⟩; first | (refine ⟨?_, Since.trans hW hb3⟩; with_reducible rfl) | (subst hb3; refine ⟨?_, hW⟩; with_reducible rfl))
                simp only [Act.put, List.setIfInBounds_toArray, List.set_cons_succ, List.set_cons_zero]
                refine flow_val (v := ?_) rfl ?_ ?_; rotate_left; (intro W hW; go_simp; with_reducible rfl)
                simp only [Act.put, List.setIfInBounds_toArray, List.set_cons_succ, List.set_cons_zero]
                intro W' hW
                have Ho3 := Lib.hid (Own.since Ho2.out hW)
                have HS3 := Lib.hid (HS0.out.after hW)
                obtain ⟨p00, p01, p02⟩ := HP.out
                by_cases hb : ct = 0
                · have hgt : tcGood n l2 k = true := by rw [Hgd.out, Hzz.out.1 hb]; rfl
                  rw [hgt] at Hg
                  have e1 : ((ct : Int) == 0) = true := by simp [hb]
                  have e2 : ((ct : Int) = 0) = True := by simp [hb]
                  have e3 : (ct = 0) = True := by simp [hb]
                  clear hW hz t0 t1 t2 qz2 hb m1 m2 m3
                  go_wp2
                  go_roundw
                  case rel => exact ⟨l2, (k : Int) + 1, s + 1, f', by go_num, by first | rfl | go_num, Ho3.out, by have := Hg.out.2; simpa using this, by have := Hg.out.1; simp at this; rw [← this]; exact Hrun.out, HS3.out⟩
                  case measure => (have := Hs.out; have := Hst.out.st; simp [intOf, tcMu]; try omega)
                · have hgt : tcGood n l2 k = false := by
                    rw [Hgd.out]
                    cases hq : hasB (nearB l2 es) (x + 1)
                    · exact absurd (Hzz.out.2 hq) hb
                    · rfl
                  rw [hgt] at Hg
                  have e1 : ((ct : Int) == 0) = false := by simp [hb]
                  have e2 : ((ct : Int) = 0) = False := by simp [hb]
                  have e3 : (ct = 0) = False := by simp [hb]
                  clear hW hz t0 t1 t2 qz2 hb m1 m2 m3
                  go_wp2
                  go_roundw
                  case rel => exact ⟨l2, (k : Int), s + 1, f', by go_num, by first | rfl | go_num, Ho3.out, by have := Hg.out.2; simpa using this, by have := Hg.out.1; simp at this; rw [← this]; exact Hrun.out, HS3.out⟩
                  case measure => (have := Hs.out; have := Hst.out.st; simp [intOf, tcMu]; try omega)
end Go.Proofs.Ytomnaabadohecaa
