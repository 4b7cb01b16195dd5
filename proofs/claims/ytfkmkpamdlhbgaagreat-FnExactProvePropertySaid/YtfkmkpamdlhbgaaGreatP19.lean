/- Parts of the proof: walks of functions and plain laws. -/
import Derived.Test.YtfkmkpamdlhbgaaGreatP18
import Derived.Test.YtfkmkpamdlhbgaaGreatP10
import Derived.Test.YtfkmkpamdlhbgaaGreatP14
import Derived.Test.YtfkmkpamdlhbgaaGreatP15
import Derived.Test.YtfkmkpamdlhbgaaGreatP8
import Derived.Test.YtfkmkpamdlhbgaaGreatP9
import Derived.Test.YtfkmkpamdlhbgaaGreatP4
import Derived.Test.YtfkmkpamdlhbgaaGreatP3
namespace Go.Proofs.YtfkmkpamdlhbgaaGreat
open Go.RowKit
/-! the property: both sides -/
set_option maxRecDepth 100000 in
set_option maxHeartbeats 8000000 in
theorem fnExactHasProperty_spec (ve vi vn : Value) (n : Net) (s : Int) (w : World) (h : NetIn w ve vi vn n) (_ : -9223372036854775808 ≤ s ∧ s ≤ 9223372036854775807) (_ : szNet n ≤ 1048576) :
    Calls Tryz.prog 44 #[.agg #[ve, vi, vn], .int .i64 s] w fun e w' => e = .returned (.tuple #[.bool (fnExactHasProperty_r0 n s), .bool (fnExactHasProperty_r1 n s)]) ∧ Below w.heap.size w w' := by
  obtain ⟨w0, hw0⟩ : ∃ w0, w0 = (w).alloc (.cells #[ve, vi, vn] 27) := ⟨_, rfl⟩
  have hb0 : Below w.heap.size w w0 := by rw [hw0]; exact ((Below.refl _ _).alloc (by simp) _)
  have H := Lib.hid (h.keep hb0)
  obtain ⟨h1, h2, h3⟩ := h.keep hb0
  obtain ⟨A, c, rfl, hlc, hm, hA⟩ := h1
  obtain ⟨A2, c2, rfl, _, hm2, _⟩ := h2
  obtain ⟨A3, c3, rfl, _, hm3, _⟩ := h3
  unfold maxLen at hm hm2 hm3
  have p00 : ∀ W, Since w0 W → W.cell? ⟨w.heap.size, 0, none⟩ = some (.slice A n.ends.length c) := have_cell (by rw [hw0]; simp)
  have p01 : ∀ W, Since w0 W → W.cell? ⟨w.heap.size, 1, none⟩ = some (.slice A2 n.ids.length c2) := have_cell (by rw [hw0]; simp)
  have p02 : ∀ W, Since w0 W → W.cell? ⟨w.heap.size, 2, none⟩ = some (.slice A3 n.inputs.length c3) := have_cell (by rw [hw0]; simp)
  have Hb0 := Lib.hid hb0
  have Hw0 := Lib.hid hw0
  have HA := Lib.hid hA
  clear hA h
  clear hb0 hw0
  obtain ⟨r0, hr0⟩ : ∃ r, fnExactHasProperty_r0 n s = r := ⟨_, rfl⟩
  obtain ⟨r1, hr1⟩ : ∃ r, fnExactHasProperty_r1 n s = r := ⟨_, rfl⟩
  have Hr0 := Lib.hid hr0
  have Hr1 := Lib.hid hr1
  rw [hr0, hr1]
  clear hr0 hr1
  go_enter Tryz.func44, Tryz.ntmps44
  go_upto_region 1 with (fail)
  rw [← Hw0.out]
  refine wp_region_flow0 8 (Since w0) (since_refl _) ?_
  simp only [List.take_succ_cons, List.take_zero, List.drop_succ_cons, List.drop_zero]
  refine flow_val (v := ?_) rfl ?_ ?_; rotate_left; (intro W hW; go_simp; with_reducible rfl)
  simp only [Act.put, List.setIfInBounds_toArray, List.set_cons_succ, List.set_cons_zero]
  refine flow_op ?_ rfl ?_ ?_; rotate_left; (intro W hW; unfold Gives; go_simp; (with_reducible refine (neGood_any _ _ _ n W (H.out.keep hW.below)).mono ?_); rintro e W' ⟨rfl, hb3⟩; first | (refine ⟨?_, Since.trans hW hb3⟩; with_reducible rfl) | (subst hb3; refine ⟨?_, hW⟩; with_reducible rfl))
  simp only [Act.put, List.setIfInBounds_toArray, List.set_cons_succ, List.set_cons_zero]
  refine flow_val (v := ?_) rfl ?_ ?_; rotate_left; (intro W hW; go_simp; with_reducible rfl)
  simp only [Act.put, List.setIfInBounds_toArray, List.set_cons_succ, List.set_cons_zero]
  refine flow_val (v := ?_) rfl ?_ ?_; rotate_left; (intro W hW; go_simp; with_reducible rfl)
  simp only [Act.put, List.setIfInBounds_toArray, List.set_cons_succ, List.set_cons_zero]
  refine flow_gval (v := ?_) rfl rfl ?_ ?_; rotate_left; (intro hb; intro W hW; go_simp; with_reducible rfl)
  simp only [Act.put, List.setIfInBounds_toArray, List.set_cons_succ, List.set_cons_zero]
  refine flow_gop (v := ?_) rfl rfl ?_ ?_; rotate_left; (intro hb; intro W hW; unfold Gives; go_simp; (with_reducible refine (plScheme_b _ W).mono ?_); rintro e W' ⟨rfl, hb3⟩; first | (refine ⟨?_, Since.trans hW hb3⟩; with_reducible rfl) | (subst hb3; refine ⟨?_, hW⟩; with_reducible rfl))
  simp only [Act.put, List.setIfInBounds_toArray, List.set_cons_succ, List.set_cons_zero]
  refine flow_gval (v := ?_) rfl rfl ?_ ?_; rotate_left; (intro hb; intro W hW; go_simp; with_reducible rfl)
  simp only [Act.put, List.setIfInBounds_toArray, List.set_cons_succ, List.set_cons_zero]
  first | refine flow_or rfl rfl ?_ | (refine flow_val (v := ?_) rfl ?_ ?_; rotate_left; (intro W hW; go_simp; with_reducible rfl))
  simp only [Act.put, List.setIfInBounds_toArray, List.set_cons_succ, List.set_cons_zero]
  intro W hW
  have HW := Lib.hid hW
  cases hg : (!netOk n || !inB 1 5 s)
  · simp only [Bool.or_eq_false_iff, Bool.not_eq_false'] at hg
    have e0 : r0 = hasB2 n s := by rw [← Hr0.out]; unfold fnExactHasProperty_r0 hpOk; rw [hg.1, hg.2]; rfl
    have e1 : r1 = knowB n s := by rw [← Hr1.out]; unfold fnExactHasProperty_r1 hpOk; rw [hg.1, hg.2]; rfl
    have Hn := Lib.hid hg.1
    have Hs := Lib.hid (inB_iff.1 hg.2)
    have he : (!netOk n || !inB 1 5 s) = false := by rw [hg.1, hg.2]; rfl
    subst e0 e1
    clear hg
    go_wp2_with fail
    refine (plHas_any _ _ _ n s W (H.out.keep HW.out.below) Hn.out Hs.out).mono ?_
    rintro e w1 ⟨rfl, hb⟩
    have Hs1 := Lib.hid (HW.out.after hb)
    clear hb hW
    go_wp2
    go_ret2
    exact ⟨rfl, Since.after Hb0.out Hs1.out⟩
  · have hno : hpOk n s = false := by unfold hpOk; revert hg; cases netOk n <;> cases inB 1 5 s <;> simp
    have e0 : r0 = false := by rw [← Hr0.out]; unfold fnExactHasProperty_r0; rw [hno]; rfl
    have e1 : r1 = false := by rw [← Hr1.out]; unfold fnExactHasProperty_r1; rw [hno]; rfl
    subst e0 e1
    clear hW hno
    go_wp2
    go_ret2
    exact ⟨rfl, Since.after Hb0.out HW.out⟩
theorem ones_leads {n : Net} {v : Nat} (h : (onesOf n (leastB n v)).length = 1) : oneLead n v = true := by unfold oneLead; rw [h]; rfl
set_option maxRecDepth 100000 in
set_option maxHeartbeats 16000000 in
theorem fnExactHasProperty_impl (ve vi vn : Value) (n : Net) (s : Int) (w : World) (h : NetIn w ve vi vn n) (_ : -9223372036854775808 ≤ s ∧ s ≤ 9223372036854775807) (hsz : szNet n ≤ 1048576) :
    Calls Tryz.prog 48 #[.agg #[ve, vi, vn], .int .i64 s] w fun e w' => e = .returned (.tuple #[.bool (fnExactHasProperty_r0 n s), .bool (fnExactHasProperty_r1 n s)]) ∧ Below w.heap.size w w' := by
  have Hil : Hid (n.ids.length ≤ 17592186044416) := by show _ ≤ _; unfold szNet at hsz; omega
  clear hsz
  obtain ⟨w0, hw0⟩ : ∃ w0, w0 = (w).alloc (.cells #[ve, vi, vn] 27) := ⟨_, rfl⟩
  have hb0 : Below w.heap.size w w0 := by rw [hw0]; exact ((Below.refl _ _).alloc (by simp) _)
  have H := Lib.hid (h.keep hb0)
  obtain ⟨h1, h2, h3⟩ := h.keep hb0
  obtain ⟨A, c, rfl, hlc, hm, hA⟩ := h1
  obtain ⟨A2, c2, rfl, _, hm2, _⟩ := h2
  obtain ⟨A3, c3, rfl, _, hm3, _⟩ := h3
  unfold maxLen at hm hm2 hm3
  have p00 : ∀ W, Since w0 W → W.cell? ⟨w.heap.size, 0, none⟩ = some (.slice A n.ends.length c) := have_cell (by rw [hw0]; simp)
  have p01 : ∀ W, Since w0 W → W.cell? ⟨w.heap.size, 1, none⟩ = some (.slice A2 n.ids.length c2) := have_cell (by rw [hw0]; simp)
  have p02 : ∀ W, Since w0 W → W.cell? ⟨w.heap.size, 2, none⟩ = some (.slice A3 n.inputs.length c3) := have_cell (by rw [hw0]; simp)
  have Hb0 := Lib.hid hb0
  have Hw0 := Lib.hid hw0
  have HA := Lib.hid hA
  clear hA h
  clear hb0 hw0
  obtain ⟨r0, hr0⟩ : ∃ r, fnExactHasProperty_r0 n s = r := ⟨_, rfl⟩
  obtain ⟨r1, hr1⟩ : ∃ r, fnExactHasProperty_r1 n s = r := ⟨_, rfl⟩
  have Hr0 := Lib.hid hr0
  have Hr1 := Lib.hid hr1
  rw [hr0, hr1]
  clear hr0 hr1
  go_enter Tryz.func48, Tryz.ntmps48
  go_upto_region 1 with (fail)
  rw [← Hw0.out]
  refine wp_region_flow0 8 (Since w0) (since_refl _) ?_
  simp only [List.take_succ_cons, List.take_zero, List.drop_succ_cons, List.drop_zero]
  refine flow_val (v := ?_) rfl ?_ ?_; rotate_left; (intro W hW; go_simp; with_reducible rfl)
  simp only [Act.put, List.setIfInBounds_toArray, List.set_cons_succ, List.set_cons_zero]
  refine flow_op ?_ rfl ?_ ?_; rotate_left; (intro W hW; unfold Gives; go_simp; (with_reducible refine (isNetwork_any _ _ _ n W (H.out.keep hW.below) Hil.out).mono ?_); rintro e W' ⟨rfl, hb3⟩; first | (refine ⟨?_, Since.trans hW hb3⟩; with_reducible rfl) | (subst hb3; refine ⟨?_, hW⟩; with_reducible rfl))
  simp only [Act.put, List.setIfInBounds_toArray, List.set_cons_succ, List.set_cons_zero]
  refine flow_val (v := ?_) rfl ?_ ?_; rotate_left; (intro W hW; go_simp; with_reducible rfl)
  simp only [Act.put, List.setIfInBounds_toArray, List.set_cons_succ, List.set_cons_zero]
  refine flow_val (v := ?_) rfl ?_ ?_; rotate_left; (intro W hW; go_simp; with_reducible rfl)
  simp only [Act.put, List.setIfInBounds_toArray, List.set_cons_succ, List.set_cons_zero]
  refine flow_gval (v := ?_) rfl rfl ?_ ?_; rotate_left; (intro hb; intro W hW; go_simp; with_reducible rfl)
  simp only [Act.put, List.setIfInBounds_toArray, List.set_cons_succ, List.set_cons_zero]
  refine flow_gop (v := ?_) rfl rfl ?_ ?_; rotate_left; (intro hb; intro W hW; unfold Gives; go_simp; (with_reducible refine (isScheme_b _ W).mono ?_); rintro e W' ⟨rfl, hb3⟩; first | (refine ⟨?_, Since.trans hW hb3⟩; with_reducible rfl) | (subst hb3; refine ⟨?_, hW⟩; with_reducible rfl))
  simp only [Act.put, List.setIfInBounds_toArray, List.set_cons_succ, List.set_cons_zero]
  refine flow_gval (v := ?_) rfl rfl ?_ ?_; rotate_left; (intro hb; intro W hW; go_simp; with_reducible rfl)
  simp only [Act.put, List.setIfInBounds_toArray, List.set_cons_succ, List.set_cons_zero]
  first | refine flow_or rfl rfl ?_ | (refine flow_val (v := ?_) rfl ?_ ?_; rotate_left; (intro W hW; go_simp; with_reducible rfl))
  simp only [Act.put, List.setIfInBounds_toArray, List.set_cons_succ, List.set_cons_zero]
  intro W hW
  have HW := Lib.hid hW
  cases hg : (!netOk n || !inB 1 5 s)
  · simp only [Bool.or_eq_false_iff, Bool.not_eq_false'] at hg
    have e0 : r0 = hasB2 n s := by rw [← Hr0.out]; unfold fnExactHasProperty_r0 hpOk; rw [hg.1, hg.2]; rfl
    have e1 : r1 = knowB n s := by rw [← Hr1.out]; unfold fnExactHasProperty_r1 hpOk; rw [hg.1, hg.2]; rfl
    have Hn := Lib.hid hg.1
    have hsr := inB_iff.1 hg.2
    have hnl := netOk_len hg.1
    have hnl1 := hnl.1
    have hnl2 := hnl.2
    have he : (!netOk n || !inB 1 5 s) = false := by rw [hg.1, hg.2]; rfl
    have HE0 := Lib.hid e0
    have HE1 := Lib.hid e1
    clear hg hnl e0 e1
    by_cases h1 : s = 1
    · subst h1
      have e0 : r0 = bipB n := by rw [HE0.out]; unfold hasB2; rw [if_pos rfl]
      have e1 : r1 = true := by rw [HE1.out]; unfold knowB; rw [if_neg (by decide)]
      subst e0 e1
      go_wp2_with fail
      refine (twoColouring_any _ _ _ n W (H.out.keep HW.out.below) Hn.out).mono ?_
      rintro e w1 ⟨u, rfl, ho, hb⟩
      have Hs1 := Lib.hid (HW.out.after hb)
      clear ho hb hW
      go_wp2
      go_ret2
      exact ⟨rfl, Since.after Hb0.out Hs1.out⟩
    by_cases h2 : s = 2
    · subst h2
      have e0 : r0 = tcHas (tcAll n) := by rw [HE0.out]; unfold hasB2; rw [if_neg h1, if_pos rfl]
      have e1 : r1 = (tcAll n).isSome := by rw [HE1.out]; unfold knowB; rw [if_pos rfl]
      subst e0 e1
      go_wp2_with fail
      refine (threeColouring_any _ _ _ n W (H.out.keep HW.out.below) Hn.out).mono ?_
      rintro e w1 ⟨u, rfl, ho, hb⟩
      have Hs1 := Lib.hid (HW.out.after hb)
      have Ho := Lib.hid ho
      clear ho hb hW
      cases hR : tcAll n with
      | none =>
        rw [hR] at Ho
        obtain rfl : u = .slice none 0 0 := Ho.out
        go_wp2
        go_ret2
        rw [hR]
        exact ⟨rfl, Since.after Hb0.out Hs1.out⟩
      | some q =>
        cases q with
        | none =>
          rw [hR] at Ho
          obtain rfl : u = .slice none 0 0 := Ho.out
          go_wp2
          go_ret2
          rw [hR]
          exact ⟨rfl, Since.after Hb0.out Hs1.out⟩
        | some l =>
          rw [hR] at Ho
          obtain ⟨g, c9, rfl⟩ : ∃ g c, u = .slice (some ⟨g, 0, none⟩) n.ends.length c := Ho.out
          go_wp2
          go_ret2
          rw [hR]
          exact ⟨rfl, Since.after Hb0.out Hs1.out⟩
    have e1 : r1 = true := by rw [HE1.out]; unfold knowB; rw [if_neg h2]
    subst e1
    by_cases h3 : s = 3
    · subst h3
      have e0 : r0 = forB n := by rw [HE0.out]; unfold hasB2; rw [if_neg h1, if_neg h2, if_pos rfl]
      subst e0
      go_wp2_with fail
      refine (isForest_any _ _ _ n W (H.out.keep HW.out.below) Hn.out).mono ?_
      rintro e w1 ⟨rfl, hb⟩
      have Hs1 := Lib.hid (HW.out.after hb)
      clear hb hW
      go_wp2
      go_ret2
      exact ⟨rfl, Since.after Hb0.out Hs1.out⟩
    have b1 : (s == 1) = false := by simpa using h1
    have b2 : (s == 2) = false := by simpa using h2
    have b3 : (s == 3) = false := by simpa using h3
    have hq01 := p01 W hW
    by_cases hid : n.ids.length = 0
    · have e0 : r0 = false := by rw [HE0.out]; unfold hasB2; rw [if_neg h1, if_neg h2, if_neg h3, if_pos hid]
      subst e0
      have hid2 : ((n.ids.length : Int) == 0) = true := by simpa using hid
      clear h1 h2 h3 hid hW
      go_wp2
      go_ret2
      exact ⟨rfl, Since.after Hb0.out HW.out⟩
    have hid2 : ((n.ids.length : Int) == 0) = false := by simpa using hid
    have hid3 : ¬ n.ids = [] := fun e => hid (by rw [e]; rfl)
    by_cases h4 : s = 4
    · subst h4
      have e0 : r0 = leadAll n := by rw [HE0.out]; unfold hasB2; rw [if_neg h1, if_neg h2, if_neg h3, if_neg hid, if_pos rfl]
      have Hl0 : Hid (leadAll n = r0) := e0.symm
      clear e0 h1 h2 h3 b1 b2 b3 hid
      go_wp2_with fail
      refine (leaders_any _ _ _ n W (H.out.keep HW.out.below) Hn.out).mono ?_
      rintro e w3 ⟨b, D, U, rfl, hm, hlm, hbb, hb⟩
      have Hm := Lib.hid hm
      have Hlm := Lib.hid hlm
      have Hs3 := Lib.hid (HW.out.after hb)
      have Hbb : Hid (w0.heap.size ≤ b) := Nat.le_trans HW.out.below.size hbb
      obtain ⟨r, hr⟩ : ∃ r, w3.heap.size = r := ⟨_, rfl⟩
      have Hbr : Hid (w0.heap.size ≤ r) := by show _ ≤ _; rw [← hr]; exact Hs3.out.below.size
      clear hm hlm hbb hb hW hq01
      go_wp2_with (first | (at_range; refine wpList_range_own _ rfl _ 82 rfl 3 25 lawK Tryz.underlying82 slD b 100 D rfl Hm.out ?_; rw [hr]; intro w4 hrg hg4 hs4; have Hrg := Lib.hid hrg; have Hs4 : Hid (Since w0 w4) := Below.grown Hs3.out hg4 Hs3.out.below.size (fun j hj => by simp at hj); clear hrg hg4 hs4))
      go_frame
      clear hr
      go_loopw [11] (fun _ wr => ∃ left cnt, wr.ranges Tryz.prog 3 slD b r 100 D left cnt ∧ (∀ kl, left kl = true → Maps.has D kl = true) ∧ (∀ v, v < n.ends.length → left (kI (leastB n v)) = false → oneLead n v = true) ∧ Since w0 wr) (fun _ wr => wr.rangeLeft b r)
      case atStart => exact ⟨_, _, Hrg.out, fun _ h => h, fun v hv h => absurd ((Hlm.out.all v hv).symm.trans h) (by simp), Hs4.out⟩
      case round =>
        obtain ⟨left, cnt, hrg, hl1, hl2, hsr2⟩ := hrel
        have Hrg1 := Lib.hid hrg
        have Hl1 := Lib.hid hl1
        have Hl2 := Lib.hid hl2
        have Hsr2 := Lib.hid hsr2
        clear hrg hl1 hl2 hsr2
        go_wp2_with (first | (at_next; refine wpList_next_ranges _ rfl _ rfl 3 lawK slD (Value.int .i64) (fun c : Option Addr × Nat × Nat => Value.slice c.1 c.2.1 c.2.2) (fun key kl hkey => by obtain ⟨x, rfl, _⟩ := Go.Maps.keyOf_int_inv Tryz.underlying3 hkey; exact ⟨x, rfl⟩) (fun v y hv => by rcases slD_form hv with ⟨m, c, rfl, _⟩ | ⟨g, m, c, rfl, _⟩ <;> exact ⟨(_, _, _), rfl⟩) b r 100 D left cnt rfl Hrg1.out ?_ ?_))
        · intro h0 hl
          have hb1 : r0 = true := by
            rw [← Hl0.out]
            exact leadTo_end (fun v hv => Hl2.out v hv (hl _))
          subst hb1
          go_wp2
          go_ret2
          exact ⟨rfl, Since.after Hb0.out Hsr2.out⟩
        · intro x cA cn cc kl y1 y2 w5 cnt5 hkey hlk hv hat hrg5 hlt5 hg5 hs5 hen
          (try dsimp only at hv)
          (try dsimp only at hen)
          (try dsimp only)
          obtain ⟨v0, hv0, rfl⟩ := Hlm.out.keys kl (Hl1.out kl hlk)
          obtain ⟨p, hp⟩ : ∃ p, leastB n v0 = p := ⟨_, rfl⟩
          rw [hp] at hkey hlk hat hrg5
          have hcn : cn = (onesOf n p).length := by
            have e1 := Hlm.out.val p
            have e2 : (y1, y2) = (D.atKey (kI p) zD, []) := by
              have e3 := hat zD
              rcases slD_form hv with ⟨_, _, _, e4⟩ | ⟨_, _, _, _, e4⟩
              · rw [e3, (Prod.mk.inj e4).2]
              · rw [e3, (Prod.mk.inj e4).2]
            rw [← e2] at e1
            have e5 := slD_inj hv e1
            have e6 := Hlm.out.own p
            rw [← e5] at e6
            rcases e6.cases with ⟨e7, e8⟩ | ⟨g, c0, e7, -, -⟩
            · simp only [Value.slice.injEq] at e7
              have := congrArg List.length e8
              rw [List.length_map, List.length_nil] at this
              unfold onesOf
              omega
            · simp only [Value.slice.injEq] at e7
              rw [List.length_map] at e7
              unfold onesOf
              omega
          have Hrg5 := Lib.hid hrg5
          have Hs5 : Hid (Since w0 w5) := Below.grown Hsr2.out hg5 Hsr2.out.below.size (fun j hj => by simp only [Option.some.injEq] at hj; have := Hbr.out; omega)
          have Hcn := Lib.hid hcn
          have Hp := Lib.hid hp
          have Hlt5 := Lib.hid hlt5
          clear hkey hlk hv hat hrg5 hlt5 hg5 hs5 hp hcn
          by_cases h1 : cn = 1
          · subst h1
            have Hn2 : Hid (∀ v, v < n.ends.length → (left (kI (leastB n v)) && !(kI (leastB n v)).sameKey (kI p)) = false → oneLead n v = true) := fun v hv hc => by
              rcases Bool.and_eq_false_iff.1 hc with h2 | h2
              · exact Hl2.out v hv h2
              · have h3 : leastB n v = p := kI_inj (WideAt.sameKey_eq (by simpa using h2))
                exact ones_leads (by rw [h3]; exact Hcn.out.symm)
            go_wp2
            go_roundw
            case rel => exact ⟨_, _, Hrg5.out, fun kl hk => Hl1.out kl (by rw [Bool.and_eq_true] at hk; exact hk.1), Hn2.out, Hs5.out⟩
            case measure => rw [Hrg5.out.left_eq, Hrg1.out.left_eq]; exact Hlt5.out
          · have hno := leadAll_no hv0 (by rw [Hp.out, ← Hcn.out]; exact h1)
            rw [Hl0.out] at hno
            subst hno
            have h2 : ((cn : Int) != 1) = true := by simp; omega
            have h3 : ((cn : Int) == 1) = false := by simp; omega
            go_wp2
            go_ret2
            exact ⟨rfl, Since.after Hb0.out Hs5.out⟩
    have e0 : r0 = evenAll n := by rw [HE0.out]; unfold hasB2; rw [if_neg h1, if_neg h2, if_neg h3, if_neg hid, if_neg h4]
    have Hl0 : Hid (evenAll n = r0) := e0.symm
    have b4 : (s == 4) = false := by simpa using h4
    clear e0 h1 h2 h3 h4 hid
    go_wp2_with fail
    refine (componentSizes_any _ _ _ n W (H.out.keep HW.out.below) Hn.out).mono ?_
    rintro e w3 ⟨b, D, rfl, hm, hlm, hbb, hb⟩
    have Hm := Lib.hid hm
    have Hlm := Lib.hid hlm
    have Hs3 := Lib.hid (HW.out.after hb)
    obtain ⟨r, hr⟩ : ∃ r, w3.heap.size = r := ⟨_, rfl⟩
    have Hbr : Hid (w0.heap.size ≤ r) := by show _ ≤ _; rw [← hr]; exact Hs3.out.below.size
    clear hm hlm hbb hb hW hq01
    go_wp2_with (first | (at_range; refine wpList_range_own _ rfl _ 105 rfl 3 3 lawK Tryz.underlying105 (plainElem (H := Unit) Tryz.prog 3) b n.ends.length D rfl Hm.out ?_; rw [hr]; intro w4 hrg hg4 hs4; have Hrg := Lib.hid hrg; have Hs4 : Hid (Since w0 w4) := Below.grown Hs3.out hg4 Hs3.out.below.size (fun j hj => by simp at hj); clear hrg hg4 hs4))
    go_frame
    clear hr
    go_loopw [13] (fun _ wr => ∃ left cnt, wr.ranges Tryz.prog 3 (plainElem (H := Unit) Tryz.prog 3) b r n.ends.length D left cnt ∧ (∀ kl, left kl = true → Maps.has D kl = true) ∧ (∀ v, v < n.ends.length → left (kI (leastB n v)) = false → evenAt n v = true) ∧ Since w0 wr) (fun _ wr => wr.rangeLeft b r)
    case atStart => exact ⟨_, _, Hrg.out, fun _ h => h, fun v hv h => absurd ((Hlm.out.all v hv).symm.trans h) (by simp), Hs4.out⟩
    case round =>
      obtain ⟨left, cnt, hrg, hl1, hl2, hsr2⟩ := hrel
      have Hrg1 := Lib.hid hrg
      have Hl1 := Lib.hid hl1
      have Hl2 := Lib.hid hl2
      have Hsr2 := Lib.hid hsr2
      clear hrg hl1 hl2 hsr2
      go_wp2_with (first | (at_next; refine wpList_next_ranges_ii _ rfl _ rfl 3 3 .i64 .i64 lawK Tryz.underlying3 Tryz.underlying3 b r n.ends.length D left cnt rfl Hrg1.out ?_ ?_))
      · intro h0 hl
        have hb1 : r0 = true := by
          rw [← Hl0.out]
          exact evenTo_end (fun v hv => Hl2.out v hv (hl _))
        subst hb1
        go_wp2
        go_ret2
        exact ⟨rfl, Since.after Hb0.out Hsr2.out⟩
      · intro x c9 w5 cnt5 hwx hwc hlk hat hrg5 hlt5 hg5 hs5 hen
        obtain ⟨v0, hv0, hkl⟩ := Hlm.out.keys _ (Hl1.out _ hlk)
        obtain ⟨p, hp⟩ : ∃ p, leastB n v0 = p := ⟨_, rfl⟩
        rw [hp] at hkl
        rw [hkl] at hlk hat hrg5
        have hcn : c9 = ((sizeOf' n p : Nat) : Int) := by
          have e1 := (hat (lI 0)).symm.trans (Hlm.out.val p)
          exact lI_inj e1
        obtain ⟨z, hz⟩ : ∃ z, sizeOf' n p = z := ⟨_, rfl⟩
        rw [hz] at hcn
        subst hcn
        have Hrg5 := Lib.hid hrg5
        have Hs5 : Hid (Since w0 w5) := Below.grown Hsr2.out hg5 Hsr2.out.below.size (fun j hj => by simp only [Option.some.injEq] at hj; have := Hbr.out; omega)
        have Hz := Lib.hid hz
        have Hp := Lib.hid hp
        have Hlt5 := Lib.hid hlt5
        clear hwx hwc hlk hat hrg5 hlt5 hg5 hs5 hp hz hkl
        by_cases hod : z % 2 = 1
        · have t1 : Int.tmod (z : Int) 2 = 1 := by rw [Int.tmod_eq_emod_of_nonneg (by omega)]; omega
          have t2 : (z : Int) % 2 = 1 := by omega
          have hno : evenAll n = false := all_range_no hv0 (by unfold evenAt; rw [Hp.out, Hz.out, hod]; rfl)
          rw [Hl0.out] at hno
          subst hno
          go_wp2
          go_ret2
          exact ⟨rfl, Since.after Hb0.out Hs5.out⟩
        · have t1 : Int.tmod (z : Int) 2 = 0 := by rw [Int.tmod_eq_emod_of_nonneg (by omega)]; omega
          have t2 : (z : Int) % 2 = 0 := by omega
          have Hn2 : Hid (∀ v, v < n.ends.length → (left (kI (leastB n v)) && !(kI (leastB n v)).sameKey (kI p)) = false → evenAt n v = true) := fun v hv hc => by
            rcases Bool.and_eq_false_iff.1 hc with h2 | h2
            · exact Hl2.out v hv h2
            · have h3 : leastB n v = p := kI_inj (WideAt.sameKey_eq (by simpa using h2))
              unfold evenAt
              rw [h3, Hz.out]
              have : (z % 2 == 1) = false := by simpa using hod
              rw [this]; rfl
          clear hod
          go_wp2
          go_roundw
          case rel => exact ⟨_, _, Hrg5.out, fun kl hk => Hl1.out kl (by rw [Bool.and_eq_true] at hk; exact hk.1), Hn2.out, Hs5.out⟩
          case measure => rw [Hrg5.out.left_eq, Hrg1.out.left_eq]; exact Hlt5.out
  · have hno : hpOk n s = false := by unfold hpOk; revert hg; cases netOk n <;> cases inB 1 5 s <;> simp
    have e0 : r0 = false := by rw [← Hr0.out]; unfold fnExactHasProperty_r0; rw [hno]; rfl
    have e1 : r1 = false := by rw [← Hr1.out]; unfold fnExactHasProperty_r1; rw [hno]; rfl
    subst e0 e1
    clear hW hno
    go_wp2
    go_ret2
    exact ⟨rfl, Since.after Hb0.out HW.out⟩
end Go.Proofs.YtfkmkpamdlhbgaaGreat
namespace Go.Proofs.YtfkmkpamdlhbgaaGreat
open Go.RowKit
/-! the reference's ProveProperty -/
set_option maxRecDepth 100000 in
set_option maxHeartbeats 1600000 in
theorem plProve1 (ve vi vn : Value) (n : Net) (L : List Int) (w : World) (h : NetIn w ve vi vn n) (hn : netOk n = true) (hL : (if bipB n = true then twoB n else []) = L) :
    Calls Tryz.prog 45 #[.agg #[ve, vi, vn], .int .i64 1] w fun e w' => ∃ u, e = .returned u ∧ Own w' w.heap.size u L ∧ Below w.heap.size w w' := by
  have Hn := Lib.hid hn
  have HL := Lib.hid hL
  clear hn hL
  obtain ⟨bb, hbb⟩ : ∃ z, z = bipB n := ⟨_, rfl⟩
  obtain ⟨w0, hw0⟩ : ∃ w0, w0 = (w).alloc (.cells #[ve, vi, vn] 27) := ⟨_, rfl⟩
  have hb0 : Below w.heap.size w w0 := by rw [hw0]; exact ((Below.refl _ _).alloc (by simp) _)
  have H := Lib.hid (h.keep hb0)
  obtain ⟨h1, h2, h3⟩ := h.keep hb0
  obtain ⟨A, c, rfl, hlc, hm, hA⟩ := h1
  obtain ⟨A2, c2, rfl, _, hm2, _⟩ := h2
  obtain ⟨A3, c3, rfl, _, hm3, _⟩ := h3
  unfold maxLen at hm hm2 hm3
  have p00 : ∀ W, Since w0 W → W.cell? ⟨w.heap.size, 0, none⟩ = some (.slice A n.ends.length c) := have_cell (by rw [hw0]; simp)
  have p01 : ∀ W, Since w0 W → W.cell? ⟨w.heap.size, 1, none⟩ = some (.slice A2 n.ids.length c2) := have_cell (by rw [hw0]; simp)
  have p02 : ∀ W, Since w0 W → W.cell? ⟨w.heap.size, 2, none⟩ = some (.slice A3 n.inputs.length c3) := have_cell (by rw [hw0]; simp)
  have Hb0 := Lib.hid hb0
  have Hw0 := Lib.hid hw0
  have HA := Lib.hid hA
  clear hA h
  clear hb0 hw0
  go_enter Tryz.func45, Tryz.ntmps45
  go_upto_region 1 with (fail)
  rw [← Hw0.out]
  have hs0 : Since w0 w0 := since_refl _
  go_wp2_with fail
  refine (meTwo_any _ _ _ n w0 H.out Hn.out).mono ?_
  rintro e w1 ⟨u, rfl, ho, hb1⟩
  rw [HL.out] at ho
  rw [← hbb]
  clear hbb
  have Ho := Lib.hid ho
  have Hs1 := Lib.hid (show Since w0 w1 from hb1)
  obtain ⟨AU, cU, rfl, -, -, -⟩ := id ho.ints
  clear ho hb1 hs0
  go_wp2
  go_ret
  exact ⟨_, rfl, Ho.out.mono Hb0.out.size, Since.trans Hb0.out Hs1.out⟩
set_option maxRecDepth 100000 in
set_option maxHeartbeats 1600000 in
theorem plProve2 (ve vi vn : Value) (n : Net) (l : List Int) (w : World) (h : NetIn w ve vi vn n) (hn : netOk n = true) (hl : tcAll n = some (some l)) :
    Calls Tryz.prog 45 #[.agg #[ve, vi, vn], .int .i64 2] w fun e w' => ∃ u, e = .returned u ∧ Own w' w.heap.size u l ∧ Below w.heap.size w w' := by
  have Hn := Lib.hid hn
  have Hl := Lib.hid hl
  clear hn hl
  obtain ⟨w0, hw0⟩ : ∃ w0, w0 = (w).alloc (.cells #[ve, vi, vn] 27) := ⟨_, rfl⟩
  have hb0 : Below w.heap.size w w0 := by rw [hw0]; exact ((Below.refl _ _).alloc (by simp) _)
  have H := Lib.hid (h.keep hb0)
  obtain ⟨h1, h2, h3⟩ := h.keep hb0
  obtain ⟨A, c, rfl, hlc, hm, hA⟩ := h1
  obtain ⟨A2, c2, rfl, _, hm2, _⟩ := h2
  obtain ⟨A3, c3, rfl, _, hm3, _⟩ := h3
  unfold maxLen at hm hm2 hm3
  have p00 : ∀ W, Since w0 W → W.cell? ⟨w.heap.size, 0, none⟩ = some (.slice A n.ends.length c) := have_cell (by rw [hw0]; simp)
  have p01 : ∀ W, Since w0 W → W.cell? ⟨w.heap.size, 1, none⟩ = some (.slice A2 n.ids.length c2) := have_cell (by rw [hw0]; simp)
  have p02 : ∀ W, Since w0 W → W.cell? ⟨w.heap.size, 2, none⟩ = some (.slice A3 n.inputs.length c3) := have_cell (by rw [hw0]; simp)
  have Hb0 := Lib.hid hb0
  have Hw0 := Lib.hid hw0
  have HA := Lib.hid hA
  clear hA h
  clear hb0 hw0
  go_enter Tryz.func45, Tryz.ntmps45
  go_upto_region 1 with (fail)
  rw [← Hw0.out]
  have hs0 : Since w0 w0 := since_refl _
  go_wp2_with fail
  refine (plThree_any _ _ _ n w0 H.out Hn.out).mono ?_
  rintro e w1 ⟨u, rfl, ho, hb1⟩
  have ho := ho l Hl.out
  have Ho := Lib.hid ho
  have Hs1 := Lib.hid (show Since w0 w1 from hb1)
  obtain ⟨AU, cU, rfl, -, -, -⟩ := id ho.ints
  clear ho hb1 hs0
  go_wp2
  go_ret
  exact ⟨_, rfl, Ho.out.mono Hb0.out.size, Since.trans Hb0.out Hs1.out⟩
theorem plProve_any (ve vi vn : Value) (n : Net) (s : Int) (w : World) (h : NetIn w ve vi vn n) (hn : netOk n = true) (hs : 1 ≤ s ∧ s ≤ 5) (hh : hasB2 n s = true) :
    Calls Tryz.prog 45 #[.agg #[ve, vi, vn], .int .i64 s] w fun e w' => ∃ u, e = .returned u ∧ Own w' w.heap.size u (ppL n s) ∧ Below w.heap.size w w' := by
  unfold hasB2 at hh
  unfold ppL
  by_cases e1 : s = 1
  · subst e1
    rw [if_pos rfl]
    exact plProve1 ve vi vn n _ w h hn rfl
  · rw [if_neg e1] at hh ⊢
    by_cases e2 : s = 2
    · subst e2
      rw [if_pos rfl] at hh ⊢
      cases hR : tcAll n with
      | none => rw [hR] at hh; cases hh
      | some R =>
        cases R with
        | none => rw [hR] at hh; cases hh
        | some l => exact plProve2 ve vi vn n l w h hn hR
    · rw [if_neg e2] at hh ⊢
      by_cases e3 : s = 3
      · subst e3
        rw [if_pos rfl]
        exact plProve3 ve vi vn n w h hn
      · rw [if_neg e3] at hh ⊢
        by_cases e0 : n.ids.length = 0
        · rw [if_pos e0] at hh; cases hh
        · rw [if_neg e0] at hh
          by_cases e4 : s = 4
          · subst e4
            rw [if_pos rfl] at hh ⊢
            exact plProve4 ve vi vn n w h hn e0 hh
          · obtain rfl : s = 5 := by omega
            rw [if_neg e4]
            exact plProve5 ve vi vn n w h hn e0
theorem has_known {n : Net} {s : Int} (h : hasB2 n s = true) : knowB n s = true := by
  unfold knowB
  by_cases e : s = 2
  · subst e
    rw [if_pos rfl]
    unfold hasB2 at h
    rw [if_neg (by decide), if_pos rfl] at h
    cases hR : tcAll n with
    | none => rw [hR] at h; cases h
    | some R => rfl
  · rw [if_neg e]
def fnExactProveProperty_r1 (n : Net) (s : Int) : Bool := hpOk n s && hasB2 n s
def fnExactProveProperty_d (n : Net) (s : Int) : List Int := if fnExactProveProperty_r1 n s = true then ppL n s else []
theorem pp_test (n : Net) (s : Int) : (!fnExactHasProperty_r1 n s || !fnExactHasProperty_r0 n s) = !fnExactProveProperty_r1 n s := by
  unfold fnExactHasProperty_r1 fnExactHasProperty_r0 fnExactProveProperty_r1
  cases hpOk n s
  · rfl
  · cases hh : hasB2 n s
    · simp
    · rw [has_known hh]; rfl
set_option maxRecDepth 100000 in
set_option maxHeartbeats 1600000 in
theorem fnExactProveProperty_spec (ve vi vn : Value) (n : Net) (s : Int) (w : World) (h : NetIn w ve vi vn n) (hs : -9223372036854775808 ≤ s ∧ s ≤ 9223372036854775807) (hsz : szNet n ≤ 1048576) :
    Calls Tryz.prog 19 #[.agg #[ve, vi, vn], .int .i64 s] w fun e w' => ∃ u, e = .returned (.tuple #[u, .bool (fnExactProveProperty_r1 n s)]) ∧ Own w' w.heap.size u (fnExactProveProperty_d n s) ∧ Below w.heap.size w w' := by
  have Hsz := Lib.hid hsz
  have Hsb := Lib.hid hs
  clear hsz hs
  obtain ⟨w0, hw0⟩ : ∃ w0, w0 = (w).alloc (.cells #[ve, vi, vn] 27) := ⟨_, rfl⟩
  have hb0 : Below w.heap.size w w0 := by rw [hw0]; exact ((Below.refl _ _).alloc (by simp) _)
  have H := Lib.hid (h.keep hb0)
  obtain ⟨h1, h2, h3⟩ := h.keep hb0
  obtain ⟨A, c, rfl, hlc, hm, hA⟩ := h1
  obtain ⟨A2, c2, rfl, _, hm2, _⟩ := h2
  obtain ⟨A3, c3, rfl, _, hm3, _⟩ := h3
  unfold maxLen at hm hm2 hm3
  have p00 : ∀ W, Since w0 W → W.cell? ⟨w.heap.size, 0, none⟩ = some (.slice A n.ends.length c) := have_cell (by rw [hw0]; simp)
  have p01 : ∀ W, Since w0 W → W.cell? ⟨w.heap.size, 1, none⟩ = some (.slice A2 n.ids.length c2) := have_cell (by rw [hw0]; simp)
  have p02 : ∀ W, Since w0 W → W.cell? ⟨w.heap.size, 2, none⟩ = some (.slice A3 n.inputs.length c3) := have_cell (by rw [hw0]; simp)
  have Hb0 := Lib.hid hb0
  have Hw0 := Lib.hid hw0
  have HA := Lib.hid hA
  clear hA h
  clear hb0 hw0
  obtain ⟨r0, hr0⟩ : ∃ r, fnExactHasProperty_r0 n s = r := ⟨_, rfl⟩
  obtain ⟨r1, hr1⟩ : ∃ r, fnExactHasProperty_r1 n s = r := ⟨_, rfl⟩
  obtain ⟨q1, hq1⟩ : ∃ r, fnExactProveProperty_r1 n s = r := ⟨_, rfl⟩
  have ht := pp_test n s
  rw [hr0, hr1, hq1] at ht
  have Hr0 := Lib.hid hr0
  have Hr1 := Lib.hid hr1
  have Hq1 := Lib.hid hq1
  have Ht := Lib.hid ht
  rw [hq1]
  clear hr0 hr1 hq1 ht
  go_enter Tryz.func19, Tryz.ntmps19
  go_upto_region 1 with (fail)
  rw [← Hw0.out]
  have hs0 : Since w0 w0 := since_refl _
  go_wp2_with fail
  refine (fnExactHasProperty_spec _ _ _ n s w0 H.out Hsb.out Hsz.out).mono ?_
  rintro e w1 ⟨rfl, hb1⟩
  rw [Hr0.out, Hr1.out]
  have hs1 : Since w0 w1 := hb1
  have Hs1 := Lib.hid hs1
  clear hb1 hs0
  cases q1
  · have hd : fnExactProveProperty_d n s = [] := by unfold fnExactProveProperty_d; rw [Hq1.out]; rfl
    have Hd := Lib.hid hd
    clear hd
    have hr : r1 = false ∨ (r1 = true ∧ r0 = false) := by have := Ht.out; revert this; cases r0 <;> cases r1 <;> simp
    rcases hr with rfl | ⟨rfl, rfl⟩
    · go_wp2
      go_ret2
      rw [Hd.out]
      exact ⟨_, rfl, own_nil _ _, Since.trans Hb0.out Hs1.out⟩
    · go_wp2
      go_ret2
      rw [Hd.out]
      exact ⟨_, rfl, own_nil _ _, Since.trans Hb0.out Hs1.out⟩
  · have hd : fnExactProveProperty_d n s = ppL n s := by unfold fnExactProveProperty_d; rw [Hq1.out]; rfl
    have hq := Hq1.out
    unfold fnExactProveProperty_r1 hpOk at hq
    rw [Bool.and_eq_true, Bool.and_eq_true, inB_iff] at hq
    have Hq := Lib.hid hq
    have Hd := Lib.hid hd
    obtain ⟨rfl, rfl⟩ : r0 = true ∧ r1 = true := by have := Ht.out; revert this; cases r0 <;> cases r1 <;> simp
    clear hd hq
    go_wp2_with fail
    refine (plProve_any _ _ _ n s w1 (H.out.keep Hs1.out.below) Hq.out.1.1 Hq.out.1.2 Hq.out.2).mono ?_
    rintro e w2 ⟨u, rfl, ho, hb2⟩
    obtain ⟨AU, cU, rfl, -, -, -⟩ := id ho.ints
    have Ho := Lib.hid ho
    have Hs2 := Lib.hid (Since.after Hs1.out hb2)
    clear ho hb2 hs1
    go_wp2
    go_ret2
    rw [Hd.out]
    exact ⟨_, rfl, Ho.out.mono (Nat.le_trans Hb0.out.size Hs1.out.below.size), Since.trans Hb0.out Hs2.out⟩
end Go.Proofs.YtfkmkpamdlhbgaaGreat
namespace Go.Proofs.YtfkmkpamdlhbgaaGreat
open Go.RowKit
/-! distanceLabels -/
set_option maxRecDepth 100000 in
set_option maxHeartbeats 1600000 in
theorem distanceLabels_any (ve vi vn : Value) (n : Net) (w : World) (fr fl : FuncId) (cr cl : Array Value) (R : Nat → Nat) (F : Nat → Int) (h : NetIn w ve vi vn n) (hn : netOk n = true)
    (er : ∀ args w, (callFunc fr args).run Tryz.prog w = .ok (.enter fr args) w) (el : ∀ args w, (callFunc fl args).run Tryz.prog w = .ok (.enter fl args) w)
    (hR : ∀ v, v < n.ends.length → R v < n.ends.length ∧ ∀ W, Since w W → Calls Tryz.prog fr (#[.int .i64 (leastB n v)] ++ cr) W fun e w' => e = .returned (.int .i64 (R v)) ∧ Below W.heap.size W w')
    (hF : ∀ v, v < n.ends.length → ∀ W, Since w W → Calls Tryz.prog fl (#[.int .i64 v, .int .i64 (R v), .int .i64 (distI n (R v) v)] ++ cl) W fun e w' => e = .returned (.int .i64 (F v)) ∧ Below W.heap.size W w') :
    Calls Tryz.prog 51 #[.agg #[ve, vi, vn], .func (.func fr) #[] cr, .func (.func fl) #[] cl] w fun e w' => ∃ u, e = .returned u ∧ Own w' w.heap.size u ((List.range n.ends.length).map F) ∧ Below w.heap.size w w' := by
  have hnl := netOk_len hn
  have hn1 := hnl.1
  have hn2 := hnl.2
  have Hn := Lib.hid hn
  have HR := Lib.hid hR
  have HF := Lib.hid hF
  clear hnl hn hR hF
  obtain ⟨w0, hw0⟩ : ∃ w0, w0 = (w).alloc (.cells #[ve, vi, vn] 27) := ⟨_, rfl⟩
  have hb0 : Below w.heap.size w w0 := by rw [hw0]; exact ((Below.refl _ _).alloc (by simp) _)
  have H := Lib.hid (h.keep hb0)
  obtain ⟨h1, h2, h3⟩ := h.keep hb0
  obtain ⟨A, c, rfl, hlc, hm, hA⟩ := h1
  obtain ⟨A2, c2, rfl, _, hm2, _⟩ := h2
  obtain ⟨A3, c3, rfl, _, hm3, _⟩ := h3
  unfold maxLen at hm hm2 hm3
  have p00 : ∀ W, Since w0 W → W.cell? ⟨w.heap.size, 0, none⟩ = some (.slice A n.ends.length c) := have_cell (by rw [hw0]; simp)
  have p01 : ∀ W, Since w0 W → W.cell? ⟨w.heap.size, 1, none⟩ = some (.slice A2 n.ids.length c2) := have_cell (by rw [hw0]; simp)
  have p02 : ∀ W, Since w0 W → W.cell? ⟨w.heap.size, 2, none⟩ = some (.slice A3 n.inputs.length c3) := have_cell (by rw [hw0]; simp)
  have Hb0 := Lib.hid hb0
  have Hw0 := Lib.hid hw0
  have HA := Lib.hid hA
  clear hA h
  clear hb0 hw0
  go_enter Tryz.func51, Tryz.ntmps51
  go_upto_region 1 with (fail)
  rw [← Hw0.out]
  have hs0 : Since w0 w0 := since_refl _
  go_wp2_with fail
  refine (components_any _ _ _ n w0 H.out Hn.out).mono ?_
  rintro e w1 ⟨uR, rfl, hoR, hb1⟩
  have hs1 : Since w0 w1 := hb1
  obtain ⟨AR, cR, rfl, -, -, -⟩ := id hoR.ints
  have hRl : (compB n).length = n.ends.length := compB_len n
  rw [hRl] at hoR
  obtain ⟨bR, oR, rfl, hcR⟩ := roots_cell hoR.ints hRl (by omega)
  have HcR := Lib.hid hcR
  have Hs1 := Lib.hid hs1
  have HRl := Lib.hid hRl
  clear hoR hcR hRl hs0 hb1
  rw [HRl.out]
  go_wp2
  go_loopw [7, 14] (fun u i wr => ∃ k : Nat, k ≤ n.ends.length ∧ i = .int .i64 k ∧ Own wr w1.heap.size u ((List.range k).map F) ∧ Since w1 wr) (fun _ i _ => n.ends.length - (intOf i).toNat)
  case atStart => exact ⟨0, Nat.zero_le _, rfl, by simpa using own_nil _ w1.heap.size, since_refl _⟩
  case round =>
    obtain ⟨k, hk, rfl, ho, hsr⟩ := hrel
    have Ho := Lib.hid ho
    have Hs := Lib.hid hsr
    clear ho hsr hs1
    by_cases hlt : k < n.ends.length
    · have m3 : IntKind.i64.wrap ((k : Int) + 1) = (k : Int) + 1 := wr64 _ (by omega) (by omega)
      have Hlen : Hid (((List.range k).map F).length + 1 ≤ 17592186044416) := by show _ ≤ _; simp; omega
      have Hn1 := Lib.hid (map_snoc (f := F) k)
      have hcc : (compB n)[k]? = some (leastB n k : Int) := by unfold compB; rw [List.getElem?_map, List.getElem?_range hlt]; rfl
      have c0 := HcR.out k _ hcc wr Hs.out
      obtain ⟨p, hp⟩ : ∃ z, z = leastB n k := ⟨_, rfl⟩
      obtain ⟨r, hr⟩ : ∃ z, z = R k := ⟨_, rfl⟩
      obtain ⟨hrN, hcall⟩ := HR.out k hlt
      rw [← hp] at c0 hcall
      rw [← hr] at hrN hcall
      have Hcall := Lib.hid hcall
      have Hr := Lib.hid hr
      clear hcc hp hr hcall
      have hs0r : Since w0 wr := Since.trans Hs1.out Hs.out
      have Hs0r := Lib.hid hs0r
      go_wp2_with fail
      refine (Hcall.out wr (Since.trans Hb0.out Hs0r.out)).mono ?_
      rintro e w2 ⟨rfl, hb2⟩
      have Hs2 := Lib.hid (Since.after Hs.out hb2)
      have hs02 := Since.after Hs0r.out hb2
      have Hs02 := Lib.hid hs02
      have Ho2 := Lib.hid (Own.since Ho.out hb2)
      clear hb2 c0 hs0r
      go_wp2_with fail
      refine (distancesFrom_any _ _ _ n r w2 (H.out.keep Hs02.out.below) Hn.out hrN).mono ?_
      rintro e w4 ⟨uF, rfl, hoF, hb4⟩
      obtain ⟨AF, cF, rfl, -, -, -⟩ := id hoF.ints
      rw [distB_ln Hn.out hrN] at hoF
      obtain ⟨bF, oF, rfl, hcF⟩ := dist_cell Hn.out hrN hoF.ints
      rw [distB_ln Hn.out hrN]
      have Hs4 := Lib.hid (Since.after Hs2.out hb4)
      have Hs04 := Lib.hid (Since.after Hs02.out hb4)
      have Ho4 := Lib.hid (Own.since Ho2.out hb4)
      have cd := hcF k hlt w4 (since_refl _)
      obtain ⟨d, hd⟩ : ∃ z, z = distI n r k := ⟨_, rfl⟩
      have hcl2 := HF.out k hlt w4 (Since.trans Hb0.out Hs04.out)
      rw [← Hr.out, ← hd] at hcl2
      rw [← hd] at cd
      have Hcl2 := Lib.hid hcl2
      clear hd hoF hcF hb4 hcl2 hs02
      go_wp2_with fail
      refine Hcl2.out.mono ?_
      rintro e w5 ⟨rfl, hb5⟩
      have Hs5 := Lib.hid (Since.after Hs4.out hb5)
      have Ho5 := Lib.hid (Own.since Ho4.out hb5)
      obtain ⟨y, hy⟩ : ∃ z, z = F k := ⟨_, rfl⟩
      rw [← hy] at Hn1 ⊢
      clear hb5 cd hy
      go_wp2_with (at_builtin; refine app_int_s rfl _ _ rfl rfl (Ho5.out.since (since_alloc _ (since_refl _))) w5.heap.size y rfl (by simp [go_sem]) Hlen.out (since_alloc _ Hs5.out) ?_; intro g cc w3 ho3 hs3)
      have Ho3 := Lib.hid ho3
      have Hs3 : Hid (Since w1 w3) := hs3
      clear ho3 hs3
      go_wp2
      go_roundw
      case rel => exact ⟨k + 1, by omega, by first | rfl | go_num, by rw [Hn1.out]; have := Ho3.out; simpa using this, Hs3.out⟩
      case measure => simp [intOf]; omega
    · obtain rfl : k = n.ends.length := by omega
      clear hk hlt
      go_wp2
      go_ret
      exact ⟨_, rfl, Ho.out.mono (Nat.le_trans Hb0.out.size Hs1.out.below.size), Since.trans Hb0.out (Since.trans Hs1.out Hs.out)⟩
end Go.Proofs.YtfkmkpamdlhbgaaGreat
namespace Go.Proofs.YtfkmkpamdlhbgaaGreat
open Go.RowKit
end Go.Proofs.YtfkmkpamdlhbgaaGreat
namespace Go.Proofs.YtfkmkpamdlhbgaaGreat
open Go.RowKit
section
variable {α : Type} {p : α → Bool} {xs : List α}
theorem fi_none (h : xs.any p = false) : xs.findIdx? p = none := by
  rw [List.findIdx?_eq_none_iff]
  intro x hx
  rw [List.any_eq_false] at h
  simpa using h x hx
theorem fi_found {k : Nat} {x : α} (hx : xs[k]? = some x) (hp : p x = true) (h : (xs.take k).any p = false) : xs.findIdx? p = some k := by
  obtain ⟨hk, rfl⟩ := List.getElem?_eq_some_iff.1 hx
  rw [List.findIdx?_eq_some_iff_getElem]
  refine ⟨hk, hp, fun j hj => ?_⟩
  rw [List.any_eq_false] at h
  have := h xs[j] (List.mem_take_iff_getElem.2 ⟨j, by omega, rfl⟩)
  simpa using this
theorem any_snoc' {k : Nat} {x : α} (hx : xs[k]? = some x) (h : (xs.take k).any p = false) (hp : p x = false) : (xs.take (k + 1)).any p = false := by
  rw [take_snoc hx, List.any_append, h]
  simp [hp]
end
end Go.Proofs.YtfkmkpamdlhbgaaGreat
namespace Go.Proofs.YtfkmkpamdlhbgaaGreat
open Go.RowKit
end Go.Proofs.YtfkmkpamdlhbgaaGreat
namespace Go.Proofs.YtfkmkpamdlhbgaaGreat
open Go.RowKit
end Go.Proofs.YtfkmkpamdlhbgaaGreat
namespace Go.Proofs.YtfkmkpamdlhbgaaGreat
open Go.RowKit
/-! the first end of a row that passes a test (as in Stab5, which cannot lie beside the components) -/
def eidxW (p : Int × Int → Bool) (es : List (Int × Int)) : Int := match es.findIdx? p with | some i => (i : Int) | none => -1
def PredEW (w0 : World) (fid : FuncId) (caps : Array Value) (p : Int × Int → Bool) (xs : List (Int × Int)) : Prop :=
  ∀ x ∈ xs, ∀ w, Since w0 w → Calls Tryz.prog fid (#[.agg #[.int .i64 x.1, .int .i64 x.2]] ++ caps) w fun e w' => e = .returned (.bool (p x)) ∧ Below w.heap.size w w'
set_option maxHeartbeats 4000000 in
theorem indexFuncEW_any (v : Value) (xs : List (Int × Int)) (fid : FuncId) (caps : Array Value) (p : Int × Int → Bool) (w : World) (h : EndS w v xs) (henter : ∀ args w, (callFunc fid args).run Tryz.prog w = .ok (.enter fid args) w) (hp : PredEW w fid caps p xs) :
    Calls Tryz.prog 143 #[v, .func (.func fid) #[] caps] w fun e w' => e = .returned (.int .i64 (eidxW p xs)) ∧ Below w.heap.size w w' := by
  have H := Lib.hid h
  obtain ⟨A, c, rfl, hlc, hm, hA⟩ := h
  unfold maxLen at hm
  have HA := Lib.hid hA
  clear hA
  have Hp := Lib.hid hp
  have eg := henter
  clear hp
  go_enter Tryz.func143, Tryz.ntmps143
  go_wp2
  go_loopw [8] (fun i wr => ∃ k : Nat, k ≤ xs.length ∧ i = .int .i64 k ∧ (xs.take k).any p = false ∧ Since w wr) (fun i _ => xs.length - (intOf i).toNat)
  case atStart => exact ⟨0, Nat.zero_le _, rfl, rfl, since_refl _⟩
  case round =>
    obtain ⟨k, hk, rfl, hany, hb⟩ := hrel
    have Hany := Lib.hid hany
    have Hb := Lib.hid hb
    clear hany hb
    by_cases hlt : k < xs.length
    · obtain ⟨x, hx⟩ := getx xs k hlt
      obtain ⟨b, off, rfl, hc0, hc1⟩ := HA.out k x hx
      have d0 := Hb.out.cell hc0
      have d1 := Hb.out.cell hc1
      have Hx := Lib.hid hx
      have hcall := Hp.out x (List.mem_of_getElem? hx) wr Hb.out
      obtain ⟨y, hy⟩ : ∃ y, y = p x := ⟨_, rfl⟩
      have Hy := Lib.hid hy
      rw [← hy] at hcall
      have Hcall := Lib.hid hcall
      clear hy hcall hx hc0 hc1
      go_wp2_with fail
      refine Hcall.out.mono ?_
      rintro e w1 ⟨rfl, hb1⟩
      have Hb1 := Lib.hid (Hb.out.trans hb1)
      clear hb1
      cases y
      · go_wp2
        go_roundw
        case rel => exact ⟨k + 1, by omega, by go_num, any_snoc' Hx.out Hany.out Hy.out.symm, Hb1.out⟩
        case measure => simp [intOf]; omega
      · have Hr : Hid (eidxW p xs = k) := by show _ = _; unfold eidxW; rw [fi_found Hx.out Hy.out.symm Hany.out]
        go_wp2
        go_ret
        exact ⟨congrArg (fun i => Ending.returned (.int .i64 i)) Hr.out.symm, Hb1.out⟩
    · obtain rfl : k = xs.length := by omega
      have Hr : Hid (eidxW p xs = -1) := by show _ = _; unfold eidxW; rw [fi_none (by have := Hany.out; rwa [List.take_length] at this)]
      go_wp2
      go_ret
      exact ⟨congrArg (fun i => Ending.returned (.int .i64 i)) Hr.out.symm, Hb.out⟩
end Go.Proofs.YtfkmkpamdlhbgaaGreat
namespace Go.Proofs.YtfkmkpamdlhbgaaGreat
open Go.RowKit
/-! SpanningTree -/
theorem span1_enters : ∀ args w, (callFunc 144 args).run Tryz.prog w = .ok (.enter 144 args) w := enters_of Tryz.func144 (by kernel_rfl) rfl
set_option maxRecDepth 100000 in
set_option maxHeartbeats 1600000 in
theorem span1_any (x y dv dx : Int) (N v b1 b2 bF oF cF : Nat) (w : World) (hx : 0 ≤ x ∧ x < N) (hv : v < N) (hN : N ≤ 1000)
    (h1 : w.cell? ⟨b1, 0, none⟩ = some (.slice (some ⟨bF, oF, none⟩) N cF)) (h2 : w.cell? ⟨b2, 0, none⟩ = some (.int .i64 v)) (h3 : w.cell? ⟨bF, oF + v, none⟩ = some (.int .i64 dv)) (h4 : w.cell? ⟨bF, oF + x.toNat, none⟩ = some (.int .i64 dx)) (hd : -1000 ≤ dv ∧ dv ≤ 1000) :
    Calls Tryz.prog 144 #[.agg #[.int .i64 x, .int .i64 y], .pointer (some ⟨b1, 0, none⟩), .pointer (some ⟨b2, 0, none⟩)] w fun e w' => e = .returned (.bool (decide (0 < dv) && decide (dx = dv - 1))) ∧ Below w.heap.size w w' := by
  obtain ⟨a, rfl⟩ := Int.eq_ofNat_of_zero_le hx.1
  rw [Int.toNat_natCast] at h4
  have ha : a < N := by omega
  have m0 : IntKind.i64.wrap (dv - 1) = dv - 1 := wr64 _ (by omega) (by omega)
  obtain ⟨w0, hw0⟩ : ∃ z, z = w.alloc (.cells #[.int .i64 (a : Int), .int .i64 y] 62) := ⟨_, rfl⟩
  have hs0 : Since w w0 := by rw [hw0]; exact since_alloc _ (since_refl _)
  have c0 : w0.cell? ⟨w.heap.size, 0, none⟩ = some (.int .i64 (a : Int)) := by rw [hw0]; simp
  have p0 := have_cell c0
  have p1 : ∀ W, Since w0 W → W.cell? ⟨b1, 0, none⟩ = some (.slice (some ⟨bF, oF, none⟩) N cF) := have_cell (have_cell h1 w0 hs0)
  have p2 : ∀ W, Since w0 W → W.cell? ⟨b2, 0, none⟩ = some (.int .i64 v) := have_cell (have_cell h2 w0 hs0)
  have p3 : ∀ W, Since w0 W → W.cell? ⟨bF, oF + v, none⟩ = some (.int .i64 dv) := have_cell (have_cell h3 w0 hs0)
  have p4 : ∀ W, Since w0 W → W.cell? ⟨bF, oF + a, none⟩ = some (.int .i64 dx) := have_cell (have_cell h4 w0 hs0)
  have Hw0 := Lib.hid hw0
  have Hs0 := Lib.hid hs0
  clear hx h1 h2 h3 h4 hd hw0 hs0 c0
  go_enter Tryz.func144, Tryz.ntmps144
  go_upto_region 1 with (fail)
  rw [← Hw0.out]
  refine wp_region_flow 18 (Since w0) (by kernel_rfl) (by kernel_rfl) (by simp) (since_drew (since_refl _)) ?_
  simp only [List.take_succ_cons, List.take_zero, List.drop_succ_cons, List.drop_zero]
  refine flow_val (v := ?_) rfl ?_ ?_; rotate_left; (intro W hW; have k1 := p1 W hW; go_simp; with_reducible rfl)
  simp only [Act.put, List.setIfInBounds_toArray, List.set_cons_succ, List.set_cons_zero]
  refine flow_val (v := ?_) rfl ?_ ?_; rotate_left; (intro W hW; have k1 := p2 W hW; go_simp; with_reducible rfl)
  simp only [Act.put, List.setIfInBounds_toArray, List.set_cons_succ, List.set_cons_zero]
  refine flow_val (v := ?_) rfl ?_ ?_; rotate_left; (intro W hW; go_simp; with_reducible rfl)
  simp only [Act.put, List.setIfInBounds_toArray, List.set_cons_succ, List.set_cons_zero]
  refine flow_val (v := ?_) rfl ?_ ?_; rotate_left; (intro W hW; have k1 := p3 W hW; go_simp; with_reducible rfl)
  simp only [Act.put, List.setIfInBounds_toArray, List.set_cons_succ, List.set_cons_zero]
  refine flow_val (v := ?_) rfl ?_ ?_; rotate_left; (intro W hW; go_simp; with_reducible rfl)
  simp only [Act.put, List.setIfInBounds_toArray, List.set_cons_succ, List.set_cons_zero]
  refine flow_val (v := ?_) rfl ?_ ?_; rotate_left; (intro W hW; go_simp; with_reducible rfl)
  simp only [Act.put, List.setIfInBounds_toArray, List.set_cons_succ, List.set_cons_zero]
  refine flow_gval (v := ?_) rfl rfl ?_ ?_; rotate_left; (intro hb; intro W hW; have k1 := p1 W hW; go_simp; with_reducible rfl)
  simp only [Act.put, List.setIfInBounds_toArray, List.set_cons_succ, List.set_cons_zero]
  refine flow_gval (v := ?_) rfl rfl ?_ ?_; rotate_left; (intro hb; intro W hW; go_simp; with_reducible rfl)
  simp only [Act.put, List.setIfInBounds_toArray, List.set_cons_succ, List.set_cons_zero]
  refine flow_gval (v := ?_) rfl rfl ?_ ?_; rotate_left; (intro hb; intro W hW; have k1 := p0 W hW; go_simp; with_reducible rfl)
  simp only [Act.put, List.setIfInBounds_toArray, List.set_cons_succ, List.set_cons_zero]
  refine flow_gval (v := ?_) rfl rfl ?_ ?_; rotate_left; (intro hb; intro W hW; go_simp; with_reducible rfl)
  simp only [Act.put, List.setIfInBounds_toArray, List.set_cons_succ, List.set_cons_zero]
  refine flow_gval (v := ?_) rfl rfl ?_ ?_; rotate_left; (intro hb; intro W hW; have k1 := p4 W hW; go_simp; with_reducible rfl)
  simp only [Act.put, List.setIfInBounds_toArray, List.set_cons_succ, List.set_cons_zero]
  refine flow_gval (v := ?_) rfl rfl ?_ ?_; rotate_left; (intro hb; intro W hW; have k1 := p1 W hW; go_simp; with_reducible rfl)
  simp only [Act.put, List.setIfInBounds_toArray, List.set_cons_succ, List.set_cons_zero]
  refine flow_gval (v := ?_) rfl rfl ?_ ?_; rotate_left; (intro hb; intro W hW; have k1 := p2 W hW; go_simp; with_reducible rfl)
  simp only [Act.put, List.setIfInBounds_toArray, List.set_cons_succ, List.set_cons_zero]
  refine flow_gval (v := ?_) rfl rfl ?_ ?_; rotate_left; (intro hb; intro W hW; go_simp; with_reducible rfl)
  simp only [Act.put, List.setIfInBounds_toArray, List.set_cons_succ, List.set_cons_zero]
  refine flow_gval (v := ?_) rfl rfl ?_ ?_; rotate_left; (intro hb; intro W hW; have k1 := p3 W hW; go_simp; with_reducible rfl)
  simp only [Act.put, List.setIfInBounds_toArray, List.set_cons_succ, List.set_cons_zero]
  refine flow_gval (v := ?_) rfl rfl ?_ ?_; rotate_left; (intro hb; intro W hW; go_simp; with_reducible rfl)
  simp only [Act.put, List.setIfInBounds_toArray, List.set_cons_succ, List.set_cons_zero]
  refine flow_gval (v := ?_) rfl rfl ?_ ?_; rotate_left; (intro hb; intro W hW; go_simp; with_reducible rfl)
  simp only [Act.put, List.setIfInBounds_toArray, List.set_cons_succ, List.set_cons_zero]
  first | refine flow_and rfl rfl ?_ | (refine flow_val (v := ?_) rfl ?_ ?_; rotate_left; (intro W hW; go_simp; with_reducible rfl))
  simp only [Act.put, List.setIfInBounds_toArray, List.set_cons_succ, List.set_cons_zero]
  intro W hW
  have HW := Lib.hid hW
  clear hW p0 p1 p2 p3 p4
  obtain ⟨bb, hbb⟩ : ∃ z : Bool, z = (decide (0 < dv) && (dx == dv - 1)) := ⟨_, rfl⟩
  rw [← hbb]
  have Hbb := Lib.hid hbb
  clear hbb
  go_wp2
  go_ret
  exact ⟨by rw [Hbb.out]; rfl, Since.after Hs0.out HW.out⟩
set_option maxRecDepth 100000 in
set_option maxHeartbeats 1600000 in
theorem spanningTree_any (ve vi vn : Value) (n : Net) (r : Nat) (w : World) (h : NetIn w ve vi vn n) (hn : netOk n = true) (hr : r < n.ends.length) :
    Calls Tryz.prog 101 #[.agg #[ve, vi, vn], .int .i64 r] w fun e w' => ∃ u, e = .returned (.tuple #[u, .bool true]) ∧ Own w' w.heap.size u (spanB n r) ∧ Below w.heap.size w w' := by
  have hnl := netOk_len hn
  have hn1 := hnl.1
  have hn2 := hnl.2
  have Hn := Lib.hid hn
  have Hil : Hid (n.ids.length ≤ 17592186044416) := by
    show _ ≤ _
    by_cases h0 : n.ids.length = 0
    · omega
    · have := (id_rng hn h0).1; omega
  have hir : inB 0 ((n.ends.length : Int) - 1) (r : Int) = true := inB_iff.2 (by omega)
  have Hir := Lib.hid hir
  clear hnl hn hir
  obtain ⟨w0, hw0⟩ : ∃ w0, w0 = (w).alloc (.cells #[ve, vi, vn] 27) := ⟨_, rfl⟩
  have hb0 : Below w.heap.size w w0 := by rw [hw0]; exact ((Below.refl _ _).alloc (by simp) _)
  have H := Lib.hid (h.keep hb0)
  obtain ⟨h1, h2, h3⟩ := h.keep hb0
  obtain ⟨A, c, rfl, hlc, hm, hA⟩ := h1
  obtain ⟨A2, c2, rfl, _, hm2, _⟩ := h2
  obtain ⟨A3, c3, rfl, _, hm3, _⟩ := h3
  unfold maxLen at hm hm2 hm3
  have p00 : ∀ W, Since w0 W → W.cell? ⟨w.heap.size, 0, none⟩ = some (.slice A n.ends.length c) := have_cell (by rw [hw0]; simp)
  have p01 : ∀ W, Since w0 W → W.cell? ⟨w.heap.size, 1, none⟩ = some (.slice A2 n.ids.length c2) := have_cell (by rw [hw0]; simp)
  have p02 : ∀ W, Since w0 W → W.cell? ⟨w.heap.size, 2, none⟩ = some (.slice A3 n.inputs.length c3) := have_cell (by rw [hw0]; simp)
  have Hb0 := Lib.hid hb0
  have Hw0 := Lib.hid hw0
  have HA := Lib.hid hA
  clear hA h
  clear hb0 hw0
  go_enter Tryz.func101, Tryz.ntmps101
  go_upto_region 1 with (fail)
  rw [← Hw0.out]
  refine wp_region_flow0 9 (Since w0) (since_refl _) ?_
  simp only [List.take_succ_cons, List.take_zero, List.drop_succ_cons, List.drop_zero]
  refine flow_val (v := ?_) rfl ?_ ?_; rotate_left; (intro W hW; go_simp; with_reducible rfl)
  simp only [Act.put, List.setIfInBounds_toArray, List.set_cons_succ, List.set_cons_zero]
  refine flow_op ?_ rfl ?_ ?_; rotate_left; (intro W hW; unfold Gives; go_simp; (with_reducible refine (isNetwork_any _ _ _ n W (H.out.keep hW.below) Hil.out).mono ?_); rintro e W' ⟨rfl, hb3⟩; first | (refine ⟨?_, Since.trans hW hb3⟩; with_reducible rfl) | (subst hb3; refine ⟨?_, hW⟩; with_reducible rfl))
  simp only [Act.put, List.setIfInBounds_toArray, List.set_cons_succ, List.set_cons_zero]
  refine flow_val (v := ?_) rfl ?_ ?_; rotate_left; (intro W hW; go_simp; with_reducible rfl)
  simp only [Act.put, List.setIfInBounds_toArray, List.set_cons_succ, List.set_cons_zero]
  refine flow_val (v := ?_) rfl ?_ ?_; rotate_left; (intro W hW; go_simp; with_reducible rfl)
  simp only [Act.put, List.setIfInBounds_toArray, List.set_cons_succ, List.set_cons_zero]
  refine flow_gval (v := ?_) rfl rfl ?_ ?_; rotate_left; (intro hb; intro W hW; go_simp; with_reducible rfl)
  simp only [Act.put, List.setIfInBounds_toArray, List.set_cons_succ, List.set_cons_zero]
  refine flow_gval (v := ?_) rfl rfl ?_ ?_; rotate_left; (intro hb; intro W hW; go_simp; with_reducible rfl)
  simp only [Act.put, List.setIfInBounds_toArray, List.set_cons_succ, List.set_cons_zero]
  refine flow_gop (v := ?_) rfl rfl ?_ ?_; rotate_left; (intro hb; intro W hW; unfold Gives; go_simp; (with_reducible refine (hasNode_any _ _ _ n.ends r W (H.out.keep hW.below).es).mono ?_); rintro e W' ⟨rfl, hb3⟩; first | (refine ⟨?_, Since.trans hW hb3⟩; with_reducible rfl) | (subst hb3; refine ⟨?_, hW⟩; with_reducible rfl))
  simp only [Act.put, List.setIfInBounds_toArray, List.set_cons_succ, List.set_cons_zero]
  refine flow_gval (v := ?_) rfl rfl ?_ ?_; rotate_left; (intro hb; intro W hW; go_simp; with_reducible rfl)
  simp only [Act.put, List.setIfInBounds_toArray, List.set_cons_succ, List.set_cons_zero]
  first | refine flow_or rfl rfl ?_ | (refine flow_val (v := ?_) rfl ?_ ?_; rotate_left; (intro W hW; go_simp; with_reducible rfl))
  simp only [Act.put, List.setIfInBounds_toArray, List.set_cons_succ, List.set_cons_zero]
  intro W hW
  rw [Hn.out, Hir.out]
  have HW := Lib.hid hW
  have hsW := hW
  clear hW
  go_wp2_with fail
  refine (distancesFrom_any _ _ _ n r W (H.out.keep HW.out.below) Hn.out hr).mono ?_
  rintro e w1 ⟨uF, rfl, hoF, hb1⟩
  obtain ⟨AF, cF, rfl, -, -, -⟩ := id hoF.ints
  rw [distB_ln Hn.out hr] at hoF
  obtain ⟨bF, oF, rfl, hcF⟩ := dist_cell Hn.out hr hoF.ints
  rw [distB_ln Hn.out hr]
  obtain ⟨w2, hw2⟩ : ∃ z, z = w1.alloc (.cells #[.slice (some ⟨bF, oF, none⟩) n.ends.length cF] 25) := ⟨_, rfl⟩
  obtain ⟨b1, hb1e⟩ : ∃ z, z = w1.heap.size := ⟨_, rfl⟩
  have hs2 : Since w1 w2 := by rw [hw2]; exact since_alloc _ (since_refl _)
  have cb1 : w2.cell? ⟨b1, 0, none⟩ = some (.slice (some ⟨bF, oF, none⟩) n.ends.length cF) := by rw [hw2, hb1e]; simp
  have hs02 : Since w0 w2 := Since.after (Since.after HW.out hb1) hs2
  have Hs02 := Lib.hid hs02
  have Hcb1 := Lib.hid (have_cell cb1)
  have HcF : Hid (∀ x, x < n.ends.length → ∀ X, Since w2 X → X.cell? ⟨bF, oF + x, none⟩ = some (.int .i64 (distI n r x))) := fun x hx X hX => hcF x hx X (Since.after hs2 hX)
  have Hw2 := Lib.hid hw2
  have Hb1e := Lib.hid hb1e
  clear hoF hb1 hs2 cb1 hcF hw2 hb1e
  go_upto_region 4 with (fail)
  rw [← Hw2.out, ← Hb1e.out]
  go_wp2
  go_loopw [7, 25] (fun u i wr => ∃ k : Nat, k ≤ n.ends.length ∧ i = .int .i64 k ∧ Own wr w2.heap.size u ((List.range k).map (towB n r)) ∧ Since w2 wr) (fun _ i _ => n.ends.length - (intOf i).toNat)
  case atStart => exact ⟨0, Nat.zero_le _, rfl, by simpa using own_nil _ w2.heap.size, since_refl _⟩
  case round =>
    obtain ⟨k, hk, rfl, ho, hsr⟩ := hrel
    have Ho := Lib.hid ho
    have Hs := Lib.hid hsr
    clear ho hsr hs02 hsW
    by_cases hlt : k < n.ends.length
    · have m3 : IntKind.i64.wrap ((k : Int) + 1) = (k : Int) + 1 := wr64 _ (by omega) (by omega)
      have Hlen : Hid (((List.range k).map (towB n r)).length + 1 ≤ 17592186044416) := by show _ ≤ _; simp; omega
      have Hn1 := Lib.hid (span_snoc n r k)
      obtain ⟨es, hes⟩ := getx n.ends k hlt
      obtain ⟨he6, hin⟩ := netOk_row Hn.out hes
      have hs0r : Since w0 wr := Since.after Hs02.out Hs.out
      have Hs0r := Lib.hid hs0r
      obtain ⟨bE, oE, cE, uE, hAE, -, hc1, hrow⟩ := row_at H.out.es hes
      obtain ⟨A9, y9, rfl, hz1, hz2, hA9⟩ := id hrow
      have d1 := have_cell hc1 wr hs0r
      have Hrow := Lib.hid hrow
      have Hes := Lib.hid hes
      have Hin := Lib.hid hin
      cases hAE
      obtain ⟨w4, hw4⟩ : ∃ z, z = wr.alloc (.cells #[.int .i64 (k : Int)] 3) := ⟨_, rfl⟩
      obtain ⟨b2, hb2e⟩ : ∃ z, z = wr.heap.size := ⟨_, rfl⟩
      have hs4 : Since wr w4 := by rw [hw4]; exact since_alloc _ (since_refl _)
      have cb2 : w4.cell? ⟨b2, 0, none⟩ = some (.int .i64 (k : Int)) := by rw [hw4, hb2e]; simp
      have Hs4 := Lib.hid (Since.after Hs.out hs4)
      have Ho4 := Lib.hid (Own.since Ho.out hs4)
      have Hw4 := Lib.hid hw4
      have Hb2e := Lib.hid hb2e
      have hev : towB n r k = eidxW (fun e => decide (0 < distI n r k) && decide (distI n r e.1.toNat = distI n r k - 1)) es := by
        unfold towB eidxW
        rw [getD_of hes]
        rfl
      have hdb := distI_b Hn.out hr hlt
      have hcall := indexFuncEW_any (.slice A9 es.length y9) es 144 #[.pointer (some ⟨b1, 0, none⟩), .pointer (some ⟨b2, 0, none⟩)] (fun e => decide (0 < distI n r k) && decide (distI n r e.1.toNat = distI n r k - 1)) w4 (EndS.keep hrow (Since.after hs0r hs4)) span1_enters (fun e he X hX => by
        have her := hin e he
        have hX2 : Since w2 X := Since.after (Since.after Hs.out hs4) hX
        exact span1_any e.1 e.2 (distI n r k) (distI n r e.1.toNat) n.ends.length k b1 b2 bF oF cF X her hlt (by omega) (Hcb1.out X hX2) (have_cell cb2 X hX) (HcF.out k hlt X hX2) (HcF.out e.1.toNat (by omega) X hX2) (by omega))
      rw [← hev] at hcall
      have Hcall := Lib.hid hcall
      obtain ⟨y, hy⟩ : ∃ y, y = towB n r k := ⟨_, rfl⟩
      rw [← hy] at Hn1 Hcall
      clear hes hin hrow hA9 hw4 hb2e hs4 cb2 hev hdb hcall hy hc1 hs0r hz2
      go_upto_region 8 with (fail)
      rw [← Hw4.out, ← Hb2e.out]
      clear d1
      go_wp2_with fail
      refine Hcall.out.mono ?_
      rintro e w5 ⟨rfl, hb5⟩
      have Hs5 := Lib.hid (Since.after Hs4.out hb5)
      have Ho5 := Lib.hid (Own.since Ho4.out hb5)
      clear hb5
      go_wp2_with (at_builtin; refine app_int_s rfl _ _ rfl rfl (Ho5.out.since (since_alloc _ (since_refl _))) w5.heap.size y rfl (by simp [go_sem]) Hlen.out (since_alloc _ Hs5.out) ?_; intro g cc w3 ho3 hs3)
      have Ho3 := Lib.hid ho3
      have Hs3 : Hid (Since w2 w3) := hs3
      clear ho3 hs3
      go_wp2
      go_roundw
      case rel => exact ⟨k + 1, by omega, by first | rfl | go_num, by rw [Hn1.out]; have := Ho3.out; simpa using this, Hs3.out⟩
      case measure => simp [intOf]; omega
    · obtain rfl : k = n.ends.length := by omega
      clear hk hlt
      go_wp2
      go_ret2
      exact ⟨_, rfl, Ho.out.mono (Nat.le_trans Hb0.out.size Hs02.out.below.size), Since.trans Hb0.out (Since.after Hs02.out Hs.out)⟩
end Go.Proofs.YtfkmkpamdlhbgaaGreat
