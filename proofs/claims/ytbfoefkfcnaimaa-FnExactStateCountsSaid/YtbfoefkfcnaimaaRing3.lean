import Derived.Test.YtbfoefkfcnaimaaRing2
import Derived.Test.YtbfoefkfcnaimaaLawKit
namespace Go.Proofs.Ytbfoefkfcnaimaa
open Go.RowKit
theorem netOk_inputs {n : Net} (h : netOk n = true) : n.inputs.length = n.ends.length := by
  unfold netOk at h
  simp only [Bool.and_eq_true] at h
  obtain ⟨⟨⟨-, -⟩, i2⟩, -⟩ := h
  unfold inputsB at i2
  simp only [Bool.and_eq_true, beq_iff_eq] at i2
  omega
def ringB (n : Net) : Bool := !n.ends.any rowBad && decide (1 < (n.ends.length : Int)) && ((onesB n.inputs : Int) == 1) && connB n
set_option maxRecDepth 100000 in
set_option maxHeartbeats 4000000 in
theorem isTokenRing_any (ve vi vn : Value) (n : Net) (w : World) (h : NetIn w ve vi vn n) (hn : netOk n = true) :
    Calls Try.prog 143 #[.agg #[ve, vi, vn]] w fun e w' => e = .returned (.bool (ringB n)) ∧ Below w.heap.size w w' := by
  have hn40 := (netOk_len hn).2
  have hil := netOk_inputs hn
  obtain ⟨w0, hw0⟩ : ∃ w0, w0 = (w).alloc (.cells #[ve, vi, vn] 31) := ⟨_, rfl⟩
  have hb0 : Below w.heap.size w w0 := by rw [hw0]; exact ((Below.refl _ _).alloc (by simp) _)
  have H := Lib.hid (h.keep hb0)
  obtain ⟨h1, h2, h3⟩ := h.keep hb0
  obtain ⟨A, c, rfl, hlc, hm, hA⟩ := h1
  obtain ⟨A2, c2, rfl, _, hm2, _⟩ := h2
  obtain ⟨A3, c3, rfl, _, hm3, _⟩ := h3
  unfold maxLen at hm hm2 hm3
  have p00 : ∀ W, Since w0 W → W.cell? ⟨w.heap.size, 0, none⟩ = some (.slice A n.ends.length c) := have_cell (by rw [hw0]; simp)
  have p01 : ∀ W, Since w0 W → W.cell? ⟨w.heap.size, 1, none⟩ = some (.slice A2 n.ids.length c2) := have_cell (by rw [hw0]; simp)
  have p02 : ∀ W, Since w0 W → W.cell? ⟨w.heap.size, 2, none⟩ = some (.slice A3 n.inputs.length c3) := have_cell (by rw [hw0]; simp)
  have Hb0 := Lib.hid hb0
  have Hw0 := Lib.hid hw0
  have HA := Lib.hid hA
  clear hA h
  clear hb0 hw0
  have Hn := Lib.hid hn
  have Hil := Lib.hid hil
  have hs0 : Since w0 w0 := since_refl _
  obtain ⟨Y, hY⟩ : ∃ Y, Y = ringB n := ⟨_, rfl⟩
  have HY := Lib.hid hY
  rw [← hY]
  obtain ⟨q, hq⟩ : ∃ q, q = onesB n.inputs := ⟨_, rfl⟩
  have Hq := Lib.hid hq
  have hcall := containsFuncR_any (.slice A n.ends.length c) n.ends 169 #[] rowBad
  have Hcall := Lib.hid hcall
  have Hones : Hid (∀ W, Since w0 W → Calls Try.prog 167 #[.slice A3 n.inputs.length c3] W fun e w' => e = .returned (.int .i64 q) ∧ Below W.heap.size W w') := fun W hW => by
    have := ones_any (.slice A3 n.inputs.length c3) n.inputs W (H.out.keep hW.below).2.2 (by have := Hil.out; omega)
    rw [← Hq.out] at this
    exact this
  clear hn hil hY hq hcall
  go_enter Try.func143, Try.ntmps143
  go_upto_region 1 with (fail)
  rw [← Hw0.out]
  refine wp_region_flow0 15 (Since w0) (since_refl _) ?_
  simp only [List.take_succ_cons, List.take_zero, List.drop_succ_cons, List.drop_zero]
  refine flow_val (v := ?_) rfl ?_ ?_; rotate_left; (intro W hW; go_simp; with_reducible rfl)
  simp only [Act.put, List.setIfInBounds_toArray, List.set_cons_succ, List.set_cons_zero]
  refine flow_val (v := ?_) rfl ?_ ?_; rotate_left; (intro W hW; go_simp; with_reducible rfl)
  simp only [Act.put, List.setIfInBounds_toArray, List.set_cons_succ, List.set_cons_zero]
  refine flow_val (v := ?_) rfl ?_ ?_; rotate_left; (intro W hW; go_simp; with_reducible rfl)
  simp only [Act.put, List.setIfInBounds_toArray, List.set_cons_succ, List.set_cons_zero]
  refine flow_val (v := ?_) rfl ?_ ?_; rotate_left; (intro W hW; go_simp; with_reducible rfl)
  simp only [Act.put, List.setIfInBounds_toArray, List.set_cons_succ, List.set_cons_zero]
  refine flow_val (v := ?_) rfl ?_ ?_; rotate_left; (intro W hW; go_simp; with_reducible rfl)
  simp only [Act.put, List.setIfInBounds_toArray, List.set_cons_succ, List.set_cons_zero]
  refine flow_gval (v := ?_) rfl rfl ?_ ?_; rotate_left; (intro hb W hW; go_simp; with_reducible rfl)
  simp only [Act.put, List.setIfInBounds_toArray, List.set_cons_succ, List.set_cons_zero]
  refine flow_gop (v := ?_) rfl rfl ?_ ?_; rotate_left; (intro hb W hW; unfold Gives; go_simp; (with_reducible refine (isConnected_any _ _ _ n W (H.out.keep hW.below) Hn.out).mono ?_); rintro e W' ⟨rfl, hb3⟩; first | (refine ⟨?_, Since.trans hW hb3⟩; with_reducible rfl) | (subst hb3; refine ⟨?_, hW⟩; with_reducible rfl))
  simp only [Act.put, List.setIfInBounds_toArray, List.set_cons_succ, List.set_cons_zero]
  refine flow_gval (v := ?_) rfl rfl ?_ ?_; rotate_left; (intro hb W hW; go_simp; with_reducible rfl)
  simp only [Act.put, List.setIfInBounds_toArray, List.set_cons_succ, List.set_cons_zero]
  first | refine flow_or rfl rfl ?_ | (refine flow_val (v := ?_) rfl ?_ ?_; rotate_left; (intro W hW; go_simp; with_reducible rfl))
  simp only [Act.put, List.setIfInBounds_toArray, List.set_cons_succ, List.set_cons_zero]
  refine flow_val (v := ?_) rfl ?_ ?_; rotate_left; (intro W hW; go_simp; with_reducible rfl)
  simp only [Act.put, List.setIfInBounds_toArray, List.set_cons_succ, List.set_cons_zero]
  refine flow_gval (v := ?_) rfl rfl ?_ ?_; rotate_left; (intro hb W hW; go_simp; with_reducible rfl)
  simp only [Act.put, List.setIfInBounds_toArray, List.set_cons_succ, List.set_cons_zero]
  refine flow_gval (v := ?_) rfl rfl ?_ ?_; rotate_left; (intro hb W hW; go_simp; with_reducible rfl)
  simp only [Act.put, List.setIfInBounds_toArray, List.set_cons_succ, List.set_cons_zero]
  refine flow_gop (v := ?_) rfl rfl ?_ ?_; rotate_left; (intro hb W hW; unfold Gives; go_simp; (with_reducible refine (Hones.out W hW).mono ?_); rintro e W' ⟨rfl, hb3⟩; first | (refine ⟨?_, Since.trans hW hb3⟩; with_reducible rfl) | (subst hb3; refine ⟨?_, hW⟩; with_reducible rfl))
  simp only [Act.put, List.setIfInBounds_toArray, List.set_cons_succ, List.set_cons_zero]
  refine flow_gval (v := ?_) rfl rfl ?_ ?_; rotate_left; (intro hb W hW; go_simp; with_reducible rfl)
  simp only [Act.put, List.setIfInBounds_toArray, List.set_cons_succ, List.set_cons_zero]
  first | refine flow_or rfl rfl ?_ | (refine flow_val (v := ?_) rfl ?_ ?_; rotate_left; (intro W hW; go_simp; with_reducible rfl))
  simp only [Act.put, List.setIfInBounds_toArray, List.set_cons_succ, List.set_cons_zero]
  intro W hW
  cases hg : (decide ((n.ends.length : Int) < 2) || !connB n || ((q : Int) != 1))
  · have hc2 := Hcall.out W (H.out.keep hW.below).es ring1_enters (fun x _ w u _ hu => ring1_any u x w hu)
    obtain ⟨y, hy⟩ : ∃ y, y = n.ends.any rowBad := ⟨_, rfl⟩
    rw [← hy] at hc2
    have Hc2 := Lib.hid hc2
    have HR : Hid (Y = !y) := by
      show _ = _
      rw [HY.out, hy, ringB, ← Hq.out]
      simp only [Bool.or_eq_false_iff, Bool.not_eq_false', bne_eq_false_iff_eq, decide_eq_false_iff_not] at hg
      rw [hg.1.2, hg.2, show decide (1 < (n.ends.length : Int)) = true by simp; omega]
      simp
    have hsW := hW
    have q0 := p00 W hW
    clear hg hc2 hy hW
    go_wp2_with fail
    refine Hc2.out.mono ?_
    rintro e w2 ⟨rfl, hb⟩
    have Hs2 := Lib.hid (hsW.trans hb)
    clear hb hsW q0
    go_wp2
    go_ret
    exact ⟨congrArg (fun b => Ending.returned (.bool b)) HR.out.symm, Since.after Hb0.out Hs2.out⟩
  · have HR : Hid (Y = false) := by
      show _ = _
      rw [HY.out, ringB, ← Hq.out]
      by_cases h1 : (n.ends.length : Int) < 2
      · have : decide (1 < (n.ends.length : Int)) = false := by simp; omega
        rw [this]; simp
      · have : decide ((n.ends.length : Int) < 2) = false := by simpa using h1
        rw [this] at hg
        cases hcc : connB n
        · simp
        · rw [hcc] at hg
          have : ((q : Int) == 1) = false := by simpa using hg
          rw [this]; simp
    have HW := Lib.hid hW
    clear hg hW
    go_wp2
    go_ret
    exact ⟨congrArg (fun b => Ending.returned (.bool b)) HR.out.symm, Since.after Hb0.out HW.out⟩
set_option maxRecDepth 100000 in
set_option maxHeartbeats 4000000 in
theorem ssRing_any (ve vi vn : Value) (n : Net) (w : World) (h : NetIn w ve vi vn n) (hn : netOk n = true) :
    Calls Try.prog 141 #[.agg #[ve, vi, vn]] w fun e w' => e = .returned (.bool (ringB n)) ∧ Below w.heap.size w w' := by
  have hn40 := (netOk_len hn).2
  have hil := netOk_inputs hn
  obtain ⟨w0, hw0⟩ : ∃ w0, w0 = (w).alloc (.cells #[ve, vi, vn] 31) := ⟨_, rfl⟩
  have hb0 : Below w.heap.size w w0 := by rw [hw0]; exact ((Below.refl _ _).alloc (by simp) _)
  have H := Lib.hid (h.keep hb0)
  obtain ⟨h1, h2, h3⟩ := h.keep hb0
  obtain ⟨A, c, rfl, hlc, hm, hA⟩ := h1
  obtain ⟨A2, c2, rfl, _, hm2, _⟩ := h2
  obtain ⟨A3, c3, rfl, _, hm3, _⟩ := h3
  unfold maxLen at hm hm2 hm3
  have p00 : ∀ W, Since w0 W → W.cell? ⟨w.heap.size, 0, none⟩ = some (.slice A n.ends.length c) := have_cell (by rw [hw0]; simp)
  have p01 : ∀ W, Since w0 W → W.cell? ⟨w.heap.size, 1, none⟩ = some (.slice A2 n.ids.length c2) := have_cell (by rw [hw0]; simp)
  have p02 : ∀ W, Since w0 W → W.cell? ⟨w.heap.size, 2, none⟩ = some (.slice A3 n.inputs.length c3) := have_cell (by rw [hw0]; simp)
  have Hb0 := Lib.hid hb0
  have Hw0 := Lib.hid hw0
  have HA := Lib.hid hA
  clear hA h
  clear hb0 hw0
  have Hn := Lib.hid hn
  have Hil := Lib.hid hil
  have hs0 : Since w0 w0 := since_refl _
  obtain ⟨Y, hY⟩ : ∃ Y, Y = ringB n := ⟨_, rfl⟩
  have HY := Lib.hid hY
  rw [← hY]
  clear hn hil hY
  go_enter Try.func141, Try.ntmps141
  go_upto_region 1 with (fail)
  rw [← Hw0.out]
  go_wp2
  go_loopw [3, 9] (fun q i wr => ∃ k : Nat, k ≤ n.ends.length ∧ i = .int .i64 k ∧ q = .int .i64 (onesB (n.inputs.take k)) ∧ (n.ends.take k).any rowBad = false ∧ Since w0 wr) (fun _ i _ => n.ends.length - (intOf i).toNat)
  case atStart => exact ⟨0, Nat.zero_le _, rfl, rfl, rfl, hs0⟩
  case round =>
    obtain ⟨k, hk, rfl, rfl, hany, hs⟩ := hrel
    have Hany := Lib.hid hany
    have Hs := Lib.hid hs
    obtain ⟨q, hq⟩ : ∃ q, q = onesB (n.inputs.take k) := ⟨_, rfl⟩
    have hqk : q ≤ k := by rw [hq]; have := onesB_le (n.inputs.take k); rw [List.length_take] at this; omega
    rw [← hq]
    have Hq := Lib.hid hq
    clear hany hs hs0 hq
    by_cases hlt : k < n.ends.length
    · obtain ⟨es, hes⟩ := getx n.ends k hlt
      obtain ⟨b, offr, cr, ur, hA1, hkr, hc1, hrow⟩ := row_at H.out.es hes
      cases hA1
      obtain ⟨A1, z1, rfl, hz1, hz2, hA1⟩ := hrow
      unfold maxLen at hz2
      have HA1 := Lib.hid hA1
      have q5 := have_cell hc1 wr Hs.out
      have q0 := p00 wr Hs.out
      have Hes := Lib.hid hes
      have m3 : IntKind.i64.wrap ((k : Int) + 1) = (k : Int) + 1 := wr64 _ (by omega) (by omega)
      have m4 : IntKind.i64.wrap ((q : Int) + 1) = (q : Int) + 1 := wr64 _ (by omega) (by omega)
      clear hes hc1 hA1
      have Hbad : Hid (rowBad es = true → Y = false) := fun hb => by
        have : n.ends.any rowBad = true := List.any_eq_true.2 ⟨es, List.mem_of_getElem? Hes.out, hb⟩
        rw [HY.out, ringB, this]
        rfl
      obtain ⟨x, hx⟩ := getx n.inputs k (by have := Hil.out; omega)
      have hrd := H.out.2.2
      obtain ⟨A9, c9, e9, hlc9, -, hin9⟩ := hrd
      injection e9 with e9a _ e9c
      subst e9a
      obtain ⟨b9, o9, rfl, hx9⟩ := hin9 k x hx
      have q2 := p02 wr Hs.out
      have x9 := have_cell hx9 wr Hs.out
      have Hnx : Hid ((onesB (n.inputs.take (k + 1)) : Int) = q + if x = 1 then 1 else 0) := by
        show _ = _
        rw [onesB_snoc hx, ← Hq.out]
        split <;> simp
      have hkin : k < n.inputs.length := lt_of_get hx
      clear hx hin9 hx9 e9c
      by_cases h2 : es.length = 2
      · obtain ⟨e0, he0⟩ := getx es 0 (by omega)
        obtain ⟨bb, off, rfl, hd0, hd1⟩ := HA1.out 0 e0 he0
        have d1 := have_cell hd1 wr Hs.out
        have Hr : Hid (rowBad es = (e0.2 != 1)) := by show _ = _; unfold rowBad; rw [getD_of he0, h2]; rfl
        have hl : ((es.length : Int) != 2) = false := by rw [h2]; rfl
        have hpos : 0 < es.length := by omega
        clear hd0 hd1 he0 h2
        cases hp : (e0.2 != 1)
        · have Hok : Hid ((n.ends.take (k + 1)).any rowBad = false) := any_snoc' Hes.out Hany.out (by rw [Hr.out, hp])
          by_cases hx1 : x = 1
          · have Hn2 : Hid ((onesB (n.inputs.take (k + 1)) : Int) = q + 1) := by show _ = _; rw [Hnx.out, if_pos hx1]
            have hxb : (x == 1) = true := by simpa using hx1
            go_wp2
            go_roundw
            case rel => exact ⟨k + 1, by omega, by go_num, by rw [Hn2.out], Hok.out, Hs.out⟩
            case measure => simp [intOf]; omega
          · have Hn2 : Hid ((onesB (n.inputs.take (k + 1)) : Int) = q) := by show _ = _; rw [Hnx.out, if_neg hx1]; simp
            have hxb : (x == 1) = false := by simpa using hx1
            go_wp2
            go_roundw
            case rel => exact ⟨k + 1, by omega, by go_num, by rw [Hn2.out], Hok.out, Hs.out⟩
            case measure => simp [intOf]; omega
        · have HR : Hid (Y = false) := Hbad.out (by rw [Hr.out, hp])
          go_wp2
          go_ret
          exact ⟨congrArg (fun b => Ending.returned (.bool b)) HR.out.symm, Since.after Hb0.out Hs.out⟩
      · have HR : Hid (Y = false) := Hbad.out (by unfold rowBad; rw [show ((es.length : Int) != 2) = true by simp; omega]; rfl)
        have hl : ((es.length : Int) != 2) = true := by simp; omega
        go_wp2
        go_ret
        exact ⟨congrArg (fun b => Ending.returned (.bool b)) HR.out.symm, Since.after Hb0.out Hs.out⟩
    · obtain rfl : k = n.ends.length := by omega
      have Hqf : Hid (q = onesB n.inputs) := by show _ = _; rw [Hq.out, ← Hil.out, List.take_length]
      have Hno : Hid (n.ends.any rowBad = false) := by have := Hany.out; rwa [List.take_length] at this
      have HR : Hid (Y = (decide (1 < (n.ends.length : Int)) && ((q : Int) == 1) && connB n)) := by show _ = _; rw [HY.out, ringB, Hno.out, ← Hqf.out]; simp
      have q00 := lift_cell p00 Hs.out
      have q01 := lift_cell p01 Hs.out
      have q02 := lift_cell p02 Hs.out
      go_upto_region 10 with (fail)
      refine wp_region_flow0 13 (Since wr) (since_refl _) ?_
      simp only [List.take_succ_cons, List.take_zero, List.drop_succ_cons, List.drop_zero]
      refine flow_val (v := ?_) rfl ?_ ?_; rotate_left; (intro W hW; go_simp; with_reducible rfl)
      simp only [Act.put, List.setIfInBounds_toArray, List.set_cons_succ, List.set_cons_zero]
      refine flow_val (v := ?_) rfl ?_ ?_; rotate_left; (intro W hW; go_simp; with_reducible rfl)
      simp only [Act.put, List.setIfInBounds_toArray, List.set_cons_succ, List.set_cons_zero]
      refine flow_val (v := ?_) rfl ?_ ?_; rotate_left; (intro W hW; go_simp; with_reducible rfl)
      simp only [Act.put, List.setIfInBounds_toArray, List.set_cons_succ, List.set_cons_zero]
      refine flow_val (v := ?_) rfl ?_ ?_; rotate_left; (intro W hW; go_simp; with_reducible rfl)
      simp only [Act.put, List.setIfInBounds_toArray, List.set_cons_succ, List.set_cons_zero]
      refine flow_val (v := ?_) rfl ?_ ?_; rotate_left; (intro W hW; go_simp; with_reducible rfl)
      simp only [Act.put, List.setIfInBounds_toArray, List.set_cons_succ, List.set_cons_zero]
      refine flow_gval (v := ?_) rfl rfl ?_ ?_; rotate_left; (intro hb W hW; go_simp; with_reducible rfl)
      simp only [Act.put, List.setIfInBounds_toArray, List.set_cons_succ, List.set_cons_zero]
      refine flow_gval (v := ?_) rfl rfl ?_ ?_; rotate_left; (intro hb W hW; go_simp; with_reducible rfl)
      simp only [Act.put, List.setIfInBounds_toArray, List.set_cons_succ, List.set_cons_zero]
      first | refine flow_and rfl rfl ?_ | (refine flow_val (v := ?_) rfl ?_ ?_; rotate_left; (intro W hW; go_simp; with_reducible rfl))
      simp only [Act.put, List.setIfInBounds_toArray, List.set_cons_succ, List.set_cons_zero]
      refine flow_val (v := ?_) rfl ?_ ?_; rotate_left; (intro W hW; go_simp; with_reducible rfl)
      simp only [Act.put, List.setIfInBounds_toArray, List.set_cons_succ, List.set_cons_zero]
      refine flow_gval (v := ?_) rfl rfl ?_ ?_; rotate_left; (intro hb W hW; go_simp; with_reducible rfl)
      simp only [Act.put, List.setIfInBounds_toArray, List.set_cons_succ, List.set_cons_zero]
      refine flow_gop (v := ?_) rfl rfl ?_ ?_; rotate_left; (intro hb W hW; unfold Gives; go_simp; (with_reducible refine (meConnected_any _ _ _ n W (H.out.keep (Hs.out.after hW).below) Hn.out).mono ?_); rintro e W' ⟨rfl, hb3⟩; first | (refine ⟨?_, Since.trans hW hb3⟩; with_reducible rfl) | (subst hb3; refine ⟨?_, hW⟩; with_reducible rfl))
      simp only [Act.put, List.setIfInBounds_toArray, List.set_cons_succ, List.set_cons_zero]
      first | refine flow_and rfl rfl ?_ | (refine flow_val (v := ?_) rfl ?_ ?_; rotate_left; (intro W hW; go_simp; with_reducible rfl))
      simp only [Act.put, List.setIfInBounds_toArray, List.set_cons_succ, List.set_cons_zero]
      refine flow_val (v := ?_) rfl ?_ ?_; rotate_left; (intro W hW; go_simp; with_reducible rfl)
      simp only [Act.put, List.setIfInBounds_toArray, List.set_cons_succ, List.set_cons_zero]
      intro W hW
      have HW := Lib.hid hW
      clear q00 q01 q02 hW
      go_wp2
      go_ret
      exact ⟨congrArg (fun b => Ending.returned (.bool b)) HR.out.symm, Since.after Hb0.out (Hs.out.after HW.out)⟩
end Go.Proofs.Ytbfoefkfcnaimaa
