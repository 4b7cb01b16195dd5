import Derived.Test.YtbfoefkfcnaimaaGreatSrch7
namespace Go.Proofs.YtbfoefkfcnaimaaGreat
open Go.RowKit
theorem scheme1_enters : ∀ args w, (callFunc 39 args).run Tryz.prog w = .ok (.enter 39 args) w := enters_of Tryz.func39 (by kernel_rfl) rfl
set_option maxHeartbeats 2000000 in
theorem schemeVerifier_any (ve vi vn : Value) (n : Net) (s : Int) (w : World) (h : NetIn w ve vi vn n) :
    Calls Tryz.prog 25 #[.agg #[ve, vi, vn], .int .i64 s] w fun e w' => e = .returned (accV 39 w.heap.size) ∧ w' = (w.alloc (.cells #[ve, vi, vn] 31)).alloc (.cells #[.int .i64 s] 3) := by
  unfold accV
  obtain ⟨⟨A, c, rfl, hlc, hm, _⟩, ⟨A2, c2', rfl, _, hm2', _⟩, ⟨A3, c3', rfl, _, hm3', _⟩⟩ := h
  go_enter Tryz.func25, Tryz.ntmps25
  go_wp2
  go_ret
  exact ⟨rfl, rfl⟩
set_option maxHeartbeats 2000000 in
theorem scheme1_any (ve vi vn vl : Value) (n : Net) (s : Int) (ls : List Int) (k b : Nat) (r : Bool) (w : World) (h : NetIn w ve vi vn n) (hl : IntS w vl ls)
    (hc : Calls Tryz.prog 40 #[.agg #[ve, vi, vn], .int .i64 s, vl, .int .i64 k] w fun e w' => e = .returned (.bool r) ∧ Below w.heap.size w w')
    (c0 : w.cell? ⟨b, 0, none⟩ = some ve) (c1 : w.cell? ⟨b, 1, none⟩ = some vi) (c2 : w.cell? ⟨b, 2, none⟩ = some vn) (c3 : w.cell? ⟨b + 1, 0, none⟩ = some (.int .i64 s)) :
    Calls Tryz.prog 39 #[vl, .int .i64 k, .pointer (some ⟨b, 0, none⟩), .pointer (some ⟨b + 1, 0, none⟩)] w fun e w' => e = .returned (.bool r) ∧ Below w.heap.size w w' := by
  have Hc := Lib.hid hc
  obtain ⟨AL, cL, rfl, hlL, hmL, _⟩ := hl
  obtain ⟨⟨A, c, rfl, hlc, hm, _⟩, ⟨A2, c2', rfl, _, hm2', _⟩, ⟨A3, c3', rfl, _, hm3', _⟩⟩ := h
  clear hc
  go_enter Tryz.func39, Tryz.ntmps39
  go_wp2_with fail
  refine Hc.out.mono ?_
  rintro e w2 ⟨rfl, hb⟩
  have Hb := Lib.hid hb
  clear hb
  go_wp2
  go_ret
  exact ⟨rfl, Hb.out⟩
theorem schAccOn {ve vi vn : Value} {n : Net} {s most : Int} {b : Nat} {w0 : World} (h : NetIn w0 ve vi vn n) (hn : netOk n = true) (hs1 : 1 ≤ s) (hs2 : s ≤ 5) (hm : most ≤ 999999999999)
    (c0 : ∀ W, Since w0 W → W.cell? ⟨b, 0, none⟩ = some ve) (c1 : ∀ W, Since w0 W → W.cell? ⟨b, 1, none⟩ = some vi) (c2 : ∀ W, Since w0 W → W.cell? ⟨b, 2, none⟩ = some vn) (c3 : ∀ W, Since w0 W → W.cell? ⟨b + 1, 0, none⟩ = some (.int .i64 s)) :
    AccOn w0 39 b n most (accG n s 0) := by
  intro W vl ls k hW hl hll hk hse
  obtain ⟨n1, n2, n3, n4, n5⟩ := node_at hn hk
  have hlk : ls[k]? = some (ls.getD k 0) := getD_some (by omega)
  have hc := accepts_any ve vi vn vl n s ls k _ (ls.getD k 0) _ _ W (h.keep hW.below) hl hs1 hs2 n1 n2 (fun e he => by rw [hll]; exact n3 e he) (fun x hx => ⟨(hse x hx).1, by have := (hse x hx).2; omega⟩) hlk n4 n5
  have e : accG n s 0 ls k = accAt n s ls k := by simp only [accG]; rw [if_neg (by omega)]
  rw [e]
  exact scheme1_any ve vi vn vl n s ls k b (accAt n s ls k) W (h.keep hW.below) hl hc (c0 W hW) (c1 W hW) (c2 W hW) (c3 W hW)
def srchOk (n : Net) (s most steps : Int) : Bool := netOk n && inB 1 5 s && inB 0 999999999999 most && inB 0 200000 steps
def fnExactSearchAccepted_r3 (n : Net) (s most steps : Int) : Bool := srchOk n s most steps
def fnExactSearchAccepted_r2 (n : Net) (s most steps : Int) : Int := if srchOk n s most steps then (srchR n s 0 most steps).2.2 else 0
def fnExactSearchAccepted_r1 (n : Net) (s most steps : Int) : Int := if srchOk n s most steps then (srchR n s 0 most steps).2.1 else 0
def fnExactSearchAccepted_d (n : Net) (s most steps : Int) : List Int := if srchOk n s most steps then (srchR n s 0 most steps).1 else []
theorem fnExactSearchAccepted_dl (n : Net) (s most steps : Int) (hsz : szNet n ≤ 1048576) : (fnExactSearchAccepted_d n s most steps).length ≤ 4611686018427387904 := by
  unfold fnExactSearchAccepted_d
  split
  · have := srch_len (goodG n (accG n s 0)) most steps (leftM steps 0 n.ends.length 0) (List.replicate n.ends.length (-1)) 0 0
    unfold srchR
    unfold szNet szEE at hsz
    rw [List.length_replicate] at this
    omega
  · simp
set_option maxRecDepth 100000 in
set_option maxHeartbeats 8000000 in
theorem fnExactSearchAccepted_impl (ve vi vn : Value) (n : Net) (s most steps : Int) (w : World) (h : NetIn w ve vi vn n) (_ : -9223372036854775808 ≤ s ∧ s ≤ 9223372036854775807) (_ : -9223372036854775808 ≤ most ∧ most ≤ 9223372036854775807) (_ : -9223372036854775808 ≤ steps ∧ steps ≤ 9223372036854775807) (hsz : szNet n ≤ 1048576) :
    Calls Tryz.prog 7 #[.agg #[ve, vi, vn], .int .i64 s, .int .i64 most, .int .i64 steps] w fun e w' => ∃ u, e = .returned (.tuple #[u, .int .i64 (fnExactSearchAccepted_r1 n s most steps), .int .i64 (fnExactSearchAccepted_r2 n s most steps), .bool (fnExactSearchAccepted_r3 n s most steps)]) ∧ Own w' w.heap.size u (fnExactSearchAccepted_d n s most steps) ∧ Below w.heap.size w w' := by
  obtain ⟨w0, hw0⟩ : ∃ w0, w0 = (w).alloc (.cells #[ve, vi, vn] 31) := ⟨_, rfl⟩
  have hb0 : Below w.heap.size w w0 := by rw [hw0]; exact ((Below.refl _ _).alloc (by simp) _)
  have H := Lib.hid (h.keep hb0)
  obtain ⟨h1, h2, h3⟩ := h.keep hb0
  obtain ⟨A, c, rfl, hlc, hm, hA⟩ := h1
  obtain ⟨A2, c2, rfl, _, hm2, _⟩ := h2
  obtain ⟨A3, c3, rfl, _, hm3, _⟩ := h3
  unfold maxLen at hm hm2 hm3
  have p00 : ∀ W, Since w0 W → W.cell? ⟨w.heap.size, 0, none⟩ = some (.slice A n.ends.length c) := have_cell (by rw [hw0]; simp)
  have p01 : ∀ W, Since w0 W → W.cell? ⟨w.heap.size, 1, none⟩ = some (.slice A2 n.ids.length c2) := have_cell (by rw [hw0]; simp)
  have p02 : ∀ W, Since w0 W → W.cell? ⟨w.heap.size, 2, none⟩ = some (.slice A3 n.inputs.length c3) := have_cell (by rw [hw0]; simp)
  have Hb0 := Lib.hid hb0
  have Hw0 := Lib.hid hw0
  have HA := Lib.hid hA
  clear hA h
  clear hb0 hw0
  go_enter Tryz.func7, Tryz.ntmps7
  go_upto_region 1 with (fail)
  rw [← Hw0.out]
  refine wp_region_flow0 18 (Since w0) (since_refl _) ?_
  simp only [List.take_succ_cons, List.take_zero, List.drop_succ_cons, List.drop_zero]
  refine flow_val (v := ?_) rfl ?_ ?_; rotate_left; (intro W hW; go_simp; with_reducible rfl)
  simp only [Act.put, List.setIfInBounds_toArray, List.set_cons_succ, List.set_cons_zero]
  refine flow_op ?_ rfl ?_ ?_; rotate_left; (intro W hW; unfold Gives; go_simp; (with_reducible refine (isNetwork_any _ _ _ n W (H.out.keep hW.below) (szNet_ids hsz)).mono ?_); rintro e W' ⟨rfl, hb3⟩; first | (refine ⟨?_, Since.trans hW hb3⟩; with_reducible rfl) | (subst hb3; refine ⟨?_, hW⟩; with_reducible rfl))
  simp only [Act.put, List.setIfInBounds_toArray, List.set_cons_succ, List.set_cons_zero]
  refine flow_val (v := ?_) rfl ?_ ?_; rotate_left; (intro W hW; go_simp; with_reducible rfl)
  simp only [Act.put, List.setIfInBounds_toArray, List.set_cons_succ, List.set_cons_zero]
  refine flow_val (v := ?_) rfl ?_ ?_; rotate_left; (intro W hW; go_simp; with_reducible rfl)
  simp only [Act.put, List.setIfInBounds_toArray, List.set_cons_succ, List.set_cons_zero]
  refine flow_gval (v := ?_) rfl rfl ?_ ?_; rotate_left; (intro hb W hW; go_simp; with_reducible rfl)
  simp only [Act.put, List.setIfInBounds_toArray, List.set_cons_succ, List.set_cons_zero]
  refine flow_gop (v := ?_) rfl rfl ?_ ?_; rotate_left; (intro hb W hW; unfold Gives; go_simp; (with_reducible refine (isScheme_b _ W).mono ?_); rintro e W' ⟨rfl, hb3⟩; first | (refine ⟨?_, Since.trans hW hb3⟩; with_reducible rfl) | (subst hb3; refine ⟨?_, hW⟩; with_reducible rfl))
  simp only [Act.put, List.setIfInBounds_toArray, List.set_cons_succ, List.set_cons_zero]
  refine flow_gval (v := ?_) rfl rfl ?_ ?_; rotate_left; (intro hb W hW; go_simp; with_reducible rfl)
  simp only [Act.put, List.setIfInBounds_toArray, List.set_cons_succ, List.set_cons_zero]
  first | refine flow_or rfl rfl ?_ | (refine flow_val (v := ?_) rfl ?_ ?_; rotate_left; (intro W hW; go_simp; with_reducible rfl))
  simp only [Act.put, List.setIfInBounds_toArray, List.set_cons_succ, List.set_cons_zero]
  refine flow_val (v := ?_) rfl ?_ ?_; rotate_left; (intro W hW; go_simp; with_reducible rfl)
  simp only [Act.put, List.setIfInBounds_toArray, List.set_cons_succ, List.set_cons_zero]
  refine flow_gval (v := ?_) rfl rfl ?_ ?_; rotate_left; (intro hb W hW; go_simp; with_reducible rfl)
  simp only [Act.put, List.setIfInBounds_toArray, List.set_cons_succ, List.set_cons_zero]
  refine flow_gop (v := ?_) rfl rfl ?_ ?_; rotate_left; (intro hb W hW; unfold Gives; go_simp; (with_reducible refine (isProofLabel_b _ W).mono ?_); rintro e W' ⟨rfl, hb3⟩; first | (refine ⟨?_, Since.trans hW hb3⟩; with_reducible rfl) | (subst hb3; refine ⟨?_, hW⟩; with_reducible rfl))
  simp only [Act.put, List.setIfInBounds_toArray, List.set_cons_succ, List.set_cons_zero]
  refine flow_gval (v := ?_) rfl rfl ?_ ?_; rotate_left; (intro hb W hW; go_simp; with_reducible rfl)
  simp only [Act.put, List.setIfInBounds_toArray, List.set_cons_succ, List.set_cons_zero]
  first | refine flow_or rfl rfl ?_ | (refine flow_val (v := ?_) rfl ?_ ?_; rotate_left; (intro W hW; go_simp; with_reducible rfl))
  simp only [Act.put, List.setIfInBounds_toArray, List.set_cons_succ, List.set_cons_zero]
  refine flow_val (v := ?_) rfl ?_ ?_; rotate_left; (intro W hW; go_simp; with_reducible rfl)
  simp only [Act.put, List.setIfInBounds_toArray, List.set_cons_succ, List.set_cons_zero]
  refine flow_gval (v := ?_) rfl rfl ?_ ?_; rotate_left; (intro hb W hW; go_simp; with_reducible rfl)
  simp only [Act.put, List.setIfInBounds_toArray, List.set_cons_succ, List.set_cons_zero]
  refine flow_gop (v := ?_) rfl rfl ?_ ?_; rotate_left; (intro hb W hW; unfold Gives; go_simp; (with_reducible refine (within_b _ _ _ W).mono ?_); rintro e W' ⟨rfl, hb3⟩; first | (refine ⟨?_, Since.trans hW hb3⟩; with_reducible rfl) | (subst hb3; refine ⟨?_, hW⟩; with_reducible rfl))
  simp only [Act.put, List.setIfInBounds_toArray, List.set_cons_succ, List.set_cons_zero]
  refine flow_gval (v := ?_) rfl rfl ?_ ?_; rotate_left; (intro hb W hW; go_simp; with_reducible rfl)
  simp only [Act.put, List.setIfInBounds_toArray, List.set_cons_succ, List.set_cons_zero]
  first | refine flow_or rfl rfl ?_ | (refine flow_val (v := ?_) rfl ?_ ?_; rotate_left; (intro W hW; go_simp; with_reducible rfl))
  simp only [Act.put, List.setIfInBounds_toArray, List.set_cons_succ, List.set_cons_zero]
  intro Wa hWa
  cases hg : (!netOk n || !inB 1 5 s || !inB 0 999999999999 most || !inB 0 200000 steps)
  · simp only [Bool.or_eq_false_iff, Bool.not_eq_false'] at hg
    have hr : srchOk n s most steps = true := by simp [srchOk, hg.1.1.1, hg.1.1.2, hg.1.2, hg.2]
    have hs15 := inB_iff.1 hg.1.1.2
    have hm := inB_iff.1 hg.1.2
    have hst := inB_iff.1 hg.2
    have hn := hg.1.1.1
    obtain ⟨R, hR⟩ : ∃ R, R = srchA n (accG n s 0) most steps := ⟨_, rfl⟩
    have Hr := Lib.hid (show true = fnExactSearchAccepted_r3 n s most steps from hr.symm)
    have H1 := Lib.hid (show R.2.1 = fnExactSearchAccepted_r1 n s most steps by unfold fnExactSearchAccepted_r1; rw [if_pos hr, hR]; rfl)
    have H2 := Lib.hid (show R.2.2 = fnExactSearchAccepted_r2 n s most steps by unfold fnExactSearchAccepted_r2; rw [if_pos hr, hR]; rfl)
    have H3 := Lib.hid (show R.1 = fnExactSearchAccepted_d n s most steps by unfold fnExactSearchAccepted_d; rw [if_pos hr, hR]; rfl)
    have HR := Lib.hid hR
    have Hn := Lib.hid hn
    have q0 := lift_cell p00 hWa
    have q1 := lift_cell p01 hWa
    have q2 := lift_cell p02 hWa
    have Hs := Lib.hid hWa
    clear hg hr hn hR hWa
    go_upto_region 3 with (fail)
    refine wp_region_chain (w0 := Wa) 5 [false, false, false, true, true] (by kernel_rfl) (by kernel_rfl) (since_refl _) ?_
    simp only [selF, selT, List.take_succ_cons, List.take_zero, List.drop_succ_cons, List.drop_zero]
    refine pflow_val (v := ?_) rfl ?_ ?_; rotate_left; (intro W hW; go_simp; with_reducible rfl)
    simp only [Act.put, List.setIfInBounds_toArray, List.set_cons_succ, List.set_cons_zero]
    refine pflow_val (v := ?_) rfl ?_ ?_; rotate_left; (intro W hW; go_simp; with_reducible rfl)
    simp only [Act.put, List.setIfInBounds_toArray, List.set_cons_succ, List.set_cons_zero]
    refine pflow_val (v := ?_) rfl ?_ ?_; rotate_left; (intro W hW; go_simp; with_reducible rfl)
    simp only [Act.put, List.setIfInBounds_toArray, List.set_cons_succ, List.set_cons_zero]
    intro W hW
    refine Or.inl ⟨rfl, ?_⟩
    go_simp
    (with_reducible refine (schemeVerifier_any _ _ _ n s W (H.out.keep (Hs.out.after hW).below)).mono ?_)
    rintro e W' ⟨rfl, hw⟩
    refine ⟨_, rfl, (show Since Wa W' from Since.after hW (by rw [hw]; exact since_alloc _ (since_alloc _ (since_refl _)))), ?_⟩
    replace hW := (show Since Wa W' from Since.after hW (by rw [hw]; exact since_alloc _ (since_alloc _ (since_refl _))))
    unfold accV
    (try simp only [Act.put, List.setIfInBounds_toArray, List.set_cons_succ, List.set_cons_zero])
    refine tflow_val (v := ?_) rfl ?_ hW ?_; rotate_left; (go_simp; with_reducible rfl)
    simp only [Act.put, List.setIfInBounds_toArray, List.set_cons_succ, List.set_cons_zero]
    simp only [TFlow]
    obtain ⟨b, hb⟩ : ∃ b, b = W.heap.size := ⟨_, rfl⟩
    have s0 := have_cell (show W'.cell? ⟨b, 0, none⟩ = some (.slice A n.ends.length c) by rw [hw, hb]; simp)
    have s1 := have_cell (show W'.cell? ⟨b, 1, none⟩ = some (.slice A2 n.ids.length c2) by rw [hw, hb]; simp)
    have s2 := have_cell (show W'.cell? ⟨b, 2, none⟩ = some (.slice A3 n.inputs.length c3) by rw [hw, hb]; simp)
    have s3 := have_cell (show W'.cell? ⟨b + 1, 0, none⟩ = some (.int .i64 s) by rw [hw, hb]; simp)
    have Hs' := Lib.hid (Hs.out.after hW)
    have Hacc : Hid (AccOn W' 39 b n most (accG n s 0)) := schAccOn (H.out.keep Hs'.out.below) Hn.out hs15.1 hs15.2 hm.2 s0 s1 s2 s3
    obtain ⟨B, hB⟩ : ∃ B, B = W'.heap.size := ⟨_, rfl⟩
    obtain ⟨w3, hw3⟩ : ∃ w3, w3 = W'.alloc (.cells #[.slice A n.ends.length c, .slice A2 n.ids.length c2, .slice A3 n.inputs.length c3, accV 39 b, .slice none 0 0] 55) := ⟨_, rfl⟩
    have HA : Hid (LS w3 B (.slice A n.ends.length c) (.slice A2 n.ids.length c2) (.slice A3 n.inputs.length c3) (accV 39 b) (.slice none 0 0)) := by
      show (_ : Option _) = _
      rw [hw3, hB]
      show (W'.heap.push _)[W'.heap.size]? = _
      rw [Array.getElem?_push_size]
    have Hs3 : Hid (Since W' w3) := by rw [hw3]; exact since_alloc _ (since_refl _)
    have HBw : Hid (W'.heap.size ≤ B) := by rw [hB]; exact Nat.le_refl _
    have HNW := Lib.hid (H.out.keep Hs'.out.below)
    have Hw3 := Lib.hid hw3
    have HB := Lib.hid hB
    have Hb := Lib.hid hb
    unfold accV at Hw3
    clear q0 q1 q2 s0 s1 s2 s3 hw3 hB hb hw hW
    go_upto_region 4 with (fail)
    rw [← Hb.out, ← Hw3.out, ← HB.out]
    go_wp2_with fail
    refine (lRun_any _ _ _ _ n most steps (accG n s 0) 39 B b w3 W' HNW.out Hs3.out HBw.out HA.out Hn.out hm.1 hm.2 hst.1 (by omega) scheme1_enters Hacc.out).mono ?_
    rw [← HR.out]
    rintro e w4 ⟨u4, rfl, ho4, hs4⟩
    have Ho4 := Lib.hid ho4
    have Hs4 := Lib.hid hs4
    clear ho4 hs4
    go_wp2
    refine bodyPost_ret (results_tmp4 rfl _ _ _) rfl ?_
    exact ⟨_, tup4 H1.out H2.out Hr.out, by rw [← H3.out]; exact Ho4.out.mono (Nat.le_trans Hb0.out.size Hs'.out.below.size), Since.after Hb0.out (Hs'.out.after Hs4.out)⟩
  · have hr : srchOk n s most steps = false := by
      unfold srchOk
      revert hg
      cases netOk n <;> cases inB 1 5 s <;> cases inB 0 999999999999 most <;> cases inB 0 200000 steps <;> simp
    have Hr := Lib.hid (show false = fnExactSearchAccepted_r3 n s most steps from hr.symm)
    have H1 := Lib.hid (show 0 = fnExactSearchAccepted_r1 n s most steps by unfold fnExactSearchAccepted_r1; rw [if_neg (by rw [hr]; simp)])
    have H2 := Lib.hid (show 0 = fnExactSearchAccepted_r2 n s most steps by unfold fnExactSearchAccepted_r2; rw [if_neg (by rw [hr]; simp)])
    have H3 := Lib.hid (show [] = fnExactSearchAccepted_d n s most steps by unfold fnExactSearchAccepted_d; rw [if_neg (by rw [hr]; simp)])
    have HW := Lib.hid hWa
    clear hg hr hWa
    go_wp2
    refine bodyPost_ret (results_tmp4 rfl _ _ _) rfl ?_
    exact ⟨_, tup4 H1.out H2.out Hr.out, by rw [← H3.out]; exact own_nil _ _, Since.after Hb0.out HW.out⟩
end Go.Proofs.YtbfoefkfcnaimaaGreat
