/- Parts of the proof: walks of functions and plain laws. -/
import Derived.Test.YtomnaabadohecaaGreatP13
import Derived.Test.YtomnaabadohecaaGreatP5
import Derived.Test.YtomnaabadohecaaGreatP11
import Derived.Test.YtomnaabadohecaaGreatP3
namespace Go.Proofs.YtomnaabadohecaaGreat
open Go.RowKit
/-! lists of configurations -/
def sgnI (x : Int) : Int := if x > 0 then 1 else if x < 0 then -1 else 0
theorem l1Sign_any (x : Int) (w : World) : Calls Tryz.prog 257 #[.int .i64 x] w fun e w' => e = .returned (.int .i64 (sgnI x)) ∧ w = w' := by
  have hc : sgnI x = if x > 0 then 1 else if x < 0 then -1 else 0 := rfl
  rcases Int.lt_trichotomy x 0 with h | h | h
  · have h2 : ¬ x > 0 := by omega
    rw [if_neg h2, if_pos h] at hc
    rw [hc]
    clear hc
    go_enter Tryz.func257, Tryz.ntmps257
    go_wp2
    go_ret
    exact ⟨rfl, rfl⟩
  · subst h
    rw [if_neg (by omega), if_neg (by omega)] at hc
    rw [hc]
    clear hc
    go_enter Tryz.func257, Tryz.ntmps257
    go_wp2
    go_ret
    exact ⟨rfl, rfl⟩
  · have h2 : ¬ x < 0 := by omega
    rw [if_pos h] at hc
    rw [hc]
    clear hc
    go_enter Tryz.func257, Tryz.ntmps257
    go_wp2
    go_ret
    exact ⟨rfl, rfl⟩
theorem prOrder_any (v u : Value) (xs ys : List Int) (w : World) (h : IntS w v xs) (h' : IntS w u ys) (hl : xs.length = ys.length) (hx : ∀ x ∈ xs, -1000 ≤ x ∧ x ≤ 1000) (hy : ∀ y ∈ ys, -1000 ≤ y ∧ y ≤ 1000) :
    Calls Tryz.prog 225 #[v, u] w fun e w' => e = .returned (.int .i64 (cmpL xs ys)) ∧ w = w' := by
  obtain ⟨A, c, rfl, hlc, hm, hA⟩ := h
  obtain ⟨A2, c2, rfl, hlc2, hm2, hA2⟩ := h'
  unfold maxLen at hm hm2
  have HA := Lib.hid hA
  have HA2 := Lib.hid hA2
  have Hl := Lib.hid hl
  have HX := Lib.hid hx
  have HY := Lib.hid hy
  clear hA hA2 hl hx hy
  go_enter Tryz.func225, Tryz.ntmps225
  go_wp2
  go_loop [9] (fun i => ∃ k : Nat, k ≤ xs.length ∧ i = .int .i64 k ∧ xs.take k = ys.take k) (fun i => xs.length - (intOf i).toNat)
  case atStart => exact ⟨0, Nat.zero_le _, rfl, by simp⟩
  case round =>
    obtain ⟨k, hk, rfl, heq⟩ := hrel
    have Heq := Lib.hid heq
    clear heq
    by_cases hlt : k < xs.length
    · obtain ⟨x, b, off, hx, rfl, hc1⟩ := ints_get HA.out hlt
      have Hx := Lib.hid hx
      have hlt2 : k < ys.length := by rw [← Hl.out]; exact hlt
      obtain ⟨y, b', off', hy, rfl, hc2⟩ := ints_get HA2.out hlt2
      have Hy := Lib.hid hy
      clear hx hy
      by_cases hxy : x = y
      · subst hxy
        go_wp2
        go_round
        case rel => exact ⟨k + 1, by omega, by go_num, by rw [take_snoc Hx.out, take_snoc Hy.out, Heq.out]⟩
        case measure => simp [intOf]; omega
      · have hr := Lib.hid (cmpL_diff k Heq.out Hx.out Hy.out hxy)
        have hbx := HX.out x (List.mem_of_getElem? Hx.out)
        have hby := HY.out y (List.mem_of_getElem? Hy.out)
        have w1 : IntKind.i64.wrap (x - y) = x - y := wr64 _ (by omega) (by omega)
        go_wp2_with (go_at_call 257; refine (l1Sign_any _ _).mono ?_; rintro e w' ⟨rfl, rfl⟩)
        go_ret
        refine ⟨ret_int ?_, rfl⟩
        rw [hr.out]
        unfold sgnI
        rcases Int.lt_or_lt_of_ne hxy with h | h
        · rw [if_neg (by omega), if_pos (by omega), if_pos h]
        · rw [if_pos (by omega), if_neg (by omega)]
    · obtain rfl : k = xs.length := by omega
      have hr : Hid (cmpL xs ys = 0) := by
        show _ = _
        rw [cmpL_drop xs.length Heq.out (Nat.le_refl _) (by have := Hl.out; omega), List.drop_length, List.drop_eq_nil_iff.2 (by have := Hl.out; omega)]
        rfl
      go_wp2
      go_ret
      exact ⟨ret_int hr.out.symm, rfl⟩
theorem l1Same_any (v u : Value) (xs ys : List Int) (w : World) (h : IntS w v xs) (h' : IntS w u ys) :
    Calls Tryz.prog 284 #[v, u] w fun e w' => e = .returned (.bool (decide (xs = ys))) ∧ Below w.heap.size w w' := by
  obtain ⟨A, c, rfl, hlc, hm, hA⟩ := h
  obtain ⟨A2, c2, rfl, hlc2, hm2, hA2⟩ := h'
  unfold maxLen at hm hm2
  have HA := Lib.hid hA
  have HA2 := Lib.hid hA2
  clear hA hA2
  by_cases hll : xs.length = ys.length
  · have Hll := Lib.hid hll
    have hll2 : (xs.length : Int) = ys.length := by omega
    clear hll
    go_enter Tryz.func284, Tryz.ntmps284
    go_wp2
    go_loopw [13] (fun i wr => ∃ k : Nat, k ≤ xs.length ∧ i = .int .i64 k ∧ xs.take k = ys.take k ∧ Below w.heap.size w wr) (fun i _ => xs.length - (intOf i).toNat)
    case atStart => exact ⟨0, Nat.zero_le _, rfl, by simp, Below.refl _ _⟩
    case round =>
      obtain ⟨k, hk, rfl, heq, hb⟩ := hrel
      have Heq := Lib.hid heq
      have Hb := Lib.hid hb
      clear heq hb
      by_cases hlt : k < xs.length
      · obtain ⟨x, b, off, hx, rfl, hc1⟩ := ints_get HA.out hlt
        have Hx := Lib.hid hx
        have hlt2 : k < ys.length := by have := Hll.out; omega
        obtain ⟨y, b', off', hy, rfl, hc2⟩ := ints_get HA2.out hlt2
        have Hy := Lib.hid hy
        have k1 := bc Hb.out hc1
        have k2 := bc Hb.out hc2
        clear hx hy hc1 hc2
        by_cases hxy : x = y
        · subst hxy
          go_upto_region 6 with (fail)
          go_region
          have Hb2 := Lib.hid (Below.trans Hb.out (below_drewN (Below.refl w.heap.size wr) 1))
          go_wp2
          go_roundw
          case rel => exact ⟨k + 1, by omega, by go_num, by rw [take_snoc Hx.out, take_snoc Hy.out, Heq.out], Hb2.out⟩
          case measure => simp [intOf]; omega
        · go_upto_region 6 with (fail)
          go_region
          have Hb2 := Lib.hid (Below.trans Hb.out (below_drewN (Below.refl w.heap.size wr) 1))
          go_wp2
          go_ret
          refine ⟨ret_false (decide_eq_false fun e => ?_), Hb2.out⟩
          have h1 := Hx.out
          rw [e, Hy.out] at h1
          exact hxy (Option.some.inj h1).symm
      · obtain rfl : k = xs.length := by omega
        go_wp2
        go_ret
        refine ⟨ret_true (decide_eq_true ?_), Hb.out⟩
        have h1 := Heq.out
        rw [List.take_length, Hll.out, List.take_length] at h1
        exact h1
  · have hll2 : ¬ (xs.length : Int) = ys.length := by omega
    have Hll := Lib.hid hll
    clear hll
    go_enter Tryz.func284, Tryz.ntmps284
    go_wp2
    go_ret
    exact ⟨ret_false (decide_eq_false fun e => Hll.out (by rw [e])), Below.refl _ _⟩
end Go.Proofs.YtomnaabadohecaaGreat
namespace Go.Proofs.YtomnaabadohecaaGreat
open Go.RowKit
theorem rows_get {w : World} {A : Option Addr} {c : Nat} {xss : List (List Int)} (h : IntSS w (.slice A xss.length c) xss) {k : Nat} (hk : k < xss.length) : ∃ xs b off A1 z, xss[k]? = some xs ∧ A = some ⟨b, off, none⟩ ∧ w.cell? ⟨b, off + k, none⟩ = some (.slice A1 xs.length z) ∧ xs.length ≤ z ∧ z ≤ 9223372036854775807 ∧ IntS w (.slice A1 xs.length z) xs := by
  obtain ⟨A', c', e, _, _, hA⟩ := h
  cases e
  obtain ⟨xs, hx⟩ := getx xss k hk
  obtain ⟨b, off, u, hA', h1, hr⟩ := hA k xs hx
  have hr' := hr
  obtain ⟨A1, z, rfl, h2, h3, hA1⟩ := hr
  unfold maxLen at h3
  exact ⟨xs, b, off, A1, z, hx, hA', h1, h2, by omega, hr'⟩
theorem cfg_step {l : List (List Int)} {size labels : Int} {k : Nat} (h : (List.range k).all (cfgAt l size labels) = true) (hk : cfgAt l size labels k = true) : (List.range (k + 1)).all (cfgAt l size labels) = true := by
  rw [range_all_succ, h, hk]; rfl
theorem cfg_prev {l : List (List Int)} {size labels : Int} {k : Nat} {c : List Int} (h : (List.range k).all (cfgAt l size labels) = true) (hk : 0 < k) (hc : l[k - 1]? = some c) : rowB size labels c = true := by
  have := List.all_eq_true.1 h (k - 1) (List.mem_range.2 (by omega))
  unfold cfgAt at this
  rw [Bool.and_eq_true, getD_of hc] at this
  exact this.1
theorem row_bd {size labels : Int} {c : List Int} (h : rowB size labels c = true) (hl : labels ≤ 1000) : (c.length : Int) = size ∧ ∀ x ∈ c, -1000 ≤ x ∧ x ≤ 1000 := by
  unfold rowB at h
  simp only [Bool.and_eq_true, beq_iff_eq] at h
  refine ⟨h.1, fun x hx => ?_⟩
  have := List.all_eq_true.1 h.2.2 x hx
  rw [inB_iff] at this
  omega
theorem rowB_unsorted {size labels : Int} {c : List Int} {i : Nat} {x y : Int} (hx : c[i]? = some x) (hy : c[i + 1]? = some y) (h : y < x) : rowB size labels c = false := by
  unfold rowB
  rw [sortedB_no hx hy h]
  simp
set_option maxHeartbeats 4000000 in
theorem prLists_any (v : Value) (l : List (List Int)) (size labels : Int) (w : World) (h : IntSS w v l) (hs : 1 ≤ size ∧ size ≤ 4) (hl : 1 ≤ labels ∧ labels ≤ 8) :
    Calls Tryz.prog 159 #[v, .int .i64 size, .int .i64 labels] w fun e w' => e = .returned (.bool (cfgs l size labels)) ∧ Below w.heap.size w w' := by
  have H := Lib.hid h
  obtain ⟨A, c, rfl, hlc, hm, -⟩ := h
  unfold maxLen at hm
  have wl : IntKind.i64.wrap (labels - 1) = labels - 1 := wr64 _ (by omega) (by omega)
  go_enter Tryz.func159, Tryz.ntmps159
  go_wp2
  go_loopw [12] (fun i wr => ∃ k : Nat, k ≤ l.length ∧ i = .int .i64 k ∧ (List.range k).all (cfgAt l size labels) = true ∧ Below w.heap.size w wr) (fun i _ => l.length - (intOf i).toNat)
  case atStart => exact ⟨0, Nat.zero_le _, rfl, rfl, Below.refl _ _⟩
  case round =>
    obtain ⟨k, hk, rfl, hall, hb⟩ := hrel
    have Hall := Lib.hid hall
    have Hb := Lib.hid hb
    clear hall hb
    by_cases hlt : k < l.length
    · obtain ⟨x, b, off, A1, z, hx, rfl, hc1, hz1, hz2, hxs⟩ := rows_get H.out hlt
      replace hc1 := bc Hb.out hc1
      have Hx := Lib.hid hx
      have Hx0 := Lib.hid hxs
      have Hxs := Lib.hid (hxs.keep Hb.out)
      obtain ⟨_, _, e1, _, _, hxc⟩ := id hxs
      cases e1
      have Hxc := Lib.hid hxc
      clear hx hxs hxc
      have hcf : Hid (cfgAt l size labels k = (((x.length : Int) == size) && (sortedB x && allB x 0 (labels - 1)) && (k == 0 || decide (cmpL (l.getD (k - 1) []) x < 0)))) := by show _ = _; unfold cfgAt rowB; rw [getD_of Hx.out]
      by_cases hlen : (x.length : Int) = size
      · cases hab : allB x 0 (labels - 1)
        · have Hab := Lib.hid hab
          go_wp2_with (go_at_call 147; refine (l1All_b _ x 0 (labels - 1) _ Hxs.out).mono ?_; rw [Hab.out]; rintro e w1 ⟨rfl, rfl⟩)
          go_ret
          exact ⟨ret_false (cfgs_no hlt (by rw [hcf.out, Hab.out]; simp)), Hb.out⟩
        · have Hab := Lib.hid hab
          clear hab
          have hp : k = 0 ∨ ∃ y b' off' A2 z2, l[k - 1]? = some y ∧ (some ⟨b, off, none⟩ : Option Addr) = some ⟨b', off', none⟩ ∧ wr.cell? ⟨b', off' + (k - 1), none⟩ = some (.slice A2 y.length z2) ∧ y.length ≤ z2 ∧ z2 ≤ 9223372036854775807 ∧ IntS wr (.slice A2 y.length z2) y ∧ 0 < k := by
            rcases Nat.eq_zero_or_pos k with h0 | h0
            · exact .inl h0
            · obtain ⟨y, b', off', A2, z2, g1, g2, g3, g4, g5, g6⟩ := rows_get (H.out.keep Hb.out) (k := k - 1) (by omega)
              exact .inr ⟨y, b', off', A2, z2, g1, g2, g3, g4, g5, g6, h0⟩
          rcases hp with h0 | ⟨y, b', off', A2, z2, hy, he, hc2, hy1, hy2, hys, hk0⟩
          case' inl =>
            have Hg : Hid ((k == 0 || decide (cmpL (l.getD (k - 1) []) x < 0)) = true) := by show _ = _; rw [h0]; rfl
            have hkn : ¬ (k : Int) > 0 := by omega
            clear h0
            go_upto_region 6 with (go_at_call 147; refine (l1All_b _ x 0 (labels - 1) _ Hxs.out).mono ?_; rw [Hab.out]; rintro e w1 ⟨rfl, rfl⟩)
          case' inr =>
            cases he
            have Hys := Lib.hid hys
            have Hpr := Lib.hid (row_bd (cfg_prev Hall.out hk0 hy) (by omega))
            have Hxb : Hid (∀ q ∈ x, -1000 ≤ q ∧ q ≤ 1000) := fun q hq => by have := inB_iff.1 (List.all_eq_true.1 Hab.out q hq); omega
            have Hel : Hid (y.length = x.length) := by have := Hpr.out.1; exact show _ = _ by omega
            have wk : IntKind.i64.wrap ((k : Int) - 1) = ((k - 1 : Nat) : Int) := by rw [wr64 _ (by omega) (by omega)]; omega
            obtain ⟨cv, hcv⟩ : ∃ cv, cmpL y x = cv := ⟨_, rfl⟩
            have Hcv := Lib.hid hcv
            have Hy := Lib.hid hy
            clear hy hys hcv
            by_cases hneg : cv ≥ 0
            · go_wp2_with (first | (go_at_call 147; refine (l1All_b _ x 0 (labels - 1) _ Hxs.out).mono ?_; rw [Hab.out]; rintro e w1 ⟨rfl, rfl⟩) | (go_at_call 225; refine (prOrder_any _ _ y x _ Hys.out Hxs.out Hel.out Hpr.out.2 Hxb.out).mono ?_; rw [Hcv.out]; rintro e w1 ⟨rfl, rfl⟩))
              go_ret
              exact ⟨ret_false (cfgs_no hlt (by rw [hcf.out, getD_of Hy.out, Hcv.out]; simp; omega)), Hb.out⟩
            have Hg : Hid ((k == 0 || decide (cmpL (l.getD (k - 1) []) x < 0)) = true) := by show _ = _; rw [getD_of Hy.out, Hcv.out]; simp; omega
            go_upto_region 6 with (first | (go_at_call 147; refine (l1All_b _ x 0 (labels - 1) _ Hxs.out).mono ?_; rw [Hab.out]; rintro e w1 ⟨rfl, rfl⟩) | (go_at_call 225; refine (prOrder_any _ _ y x _ Hys.out Hxs.out Hel.out Hpr.out.2 Hxb.out).mono ?_; rw [Hcv.out]; rintro e w1 ⟨rfl, rfl⟩))
          all_goals
            have hcf2 := Lib.hid hcf.out
            rw [Hg.out, Hab.out] at hcf2
            clear hc1
            try clear hc2 hy1 hy2 wk hk0
            go_wp2
            go_loopw [9] (fun i ws => ∃ j : Nat, 1 ≤ j ∧ i = .int .i64 j ∧ (∀ q, q + 1 < j → q + 1 < x.length → x.getD q 0 ≤ x.getD (q + 1) 0) ∧ Below w.heap.size w ws) (fun i _ => x.length - (intOf i).toNat)
            case atStart => exact ⟨1, Nat.le_refl _, rfl, fun q h => by omega, Hb.out⟩
            case round =>
              obtain ⟨j, hj1, rfl, hso, hb⟩ := hrel
              have Hso := Lib.hid hso
              have Hb2 := Lib.hid hb
              have Hj1 := Lib.hid hj1
              clear hso hb
              by_cases hjl : (j : Int) < size
              · obtain ⟨m, rfl⟩ : ∃ m, j = m + 1 := ⟨j - 1, by omega⟩
                obtain ⟨p, bp, op, hp, rfl, hp1⟩ := ints_get Hxc.out (k := m) (by omega)
                obtain ⟨q, bq, oq, hq, he, hq1⟩ := ints_get Hxc.out (k := m + 1) (by omega)
                cases he
                have k1 := have_cell (bc Hb2.out hp1)
                have k2 := have_cell (bc Hb2.out hq1)
                have wj : IntKind.i64.wrap (((m + 1 : Nat) : Int) - 1) = (m : Int) := by rw [wr64 _ (by omega) (by omega)]; omega
                have wm : IntKind.i64.wrap (m : Int) = (m : Int) := wr64 _ (by omega) (by omega)
                have hm1 : (m : Int) < size := by omega
                have hm2 : (m : Int) + 1 < size := by omega
                have hm3 : (0 : Int) ≤ (m : Int) + 1 := by omega
                have Hp := Lib.hid hp
                have Hq := Lib.hid hq
                clear hp hq hp1 hq1
                go_upto_region 9 with (fail)
                refine wp_region_flow 10 (Since wr) (by kernel_rfl) (by kernel_rfl) (by simp) (since_drew (since_refl _)) ?_
                simp only [List.take_succ_cons, List.take_zero, List.drop_succ_cons, List.drop_zero]
                refine flow_val (v := ?_) rfl ?_ ?_; rotate_left; (intro W hW; go_simp; with_reducible rfl)
                simp only [Act.put, List.setIfInBounds_toArray, List.set_cons_succ, List.set_cons_zero]
                refine flow_val (v := ?_) rfl ?_ ?_; rotate_left; (intro W hW; go_simp; with_reducible rfl)
                simp only [Act.put, List.setIfInBounds_toArray, List.set_cons_succ, List.set_cons_zero]
                refine flow_val (v := ?_) rfl ?_ ?_; rotate_left; (intro W hW; go_simp; with_reducible rfl)
                simp only [Act.put, List.setIfInBounds_toArray, List.set_cons_succ, List.set_cons_zero]
                refine flow_val (v := ?_) rfl ?_ ?_; rotate_left; (intro W hW; go_simp; with_reducible rfl)
                simp only [Act.put, List.setIfInBounds_toArray, List.set_cons_succ, List.set_cons_zero]
                refine flow_val (v := ?_) rfl ?_ ?_; rotate_left; (intro W hW; go_simp; with_reducible rfl)
                simp only [Act.put, List.setIfInBounds_toArray, List.set_cons_succ, List.set_cons_zero]
                refine flow_val (v := ?_) rfl ?_ ?_; rotate_left; (intro W hW; go_simp; with_reducible rfl)
                simp only [Act.put, List.setIfInBounds_toArray, List.set_cons_succ, List.set_cons_zero]
                refine flow_val (v := ?_) rfl ?_ ?_; rotate_left; (intro W hW; go_simp; with_reducible rfl)
                simp only [Act.put, List.setIfInBounds_toArray, List.set_cons_succ, List.set_cons_zero]
                refine flow_val (v := ?_) rfl ?_ ?_; rotate_left; (intro W hW; go_simp; with_reducible rfl)
                simp only [Act.put, List.setIfInBounds_toArray, List.set_cons_succ, List.set_cons_zero]
                refine flow_val (v := ?_) rfl ?_ ?_; rotate_left; (intro W hW; go_simp; with_reducible rfl)
                simp only [Act.put, List.setIfInBounds_toArray, List.set_cons_succ, List.set_cons_zero]
                refine flow_val (v := ?_) rfl ?_ ?_; rotate_left; (intro W hW; go_simp; with_reducible rfl)
                simp only [Act.put, List.setIfInBounds_toArray, List.set_cons_succ, List.set_cons_zero]
                intro W5 hW5
                have HW5 := Lib.hid (Hb2.out.trans (hW5.mono Hb2.out.size))
                clear hW5 k1 k2
                by_cases hpq : p > q
                · go_wp2
                  go_ret
                  exact ⟨ret_false (cfgs_no hlt (by rw [hcf2.out, sortedB_no Hp.out Hq.out (by omega)]; simp)), HW5.out⟩
                · go_wp2
                  go_roundw
                  case rel =>
                    refine ⟨m + 1 + 1, by omega, by go_num, fun i h1 h2 => ?_, HW5.out⟩
                    rcases Nat.lt_or_ge i m with h3 | h3
                    · exact Hso.out i (by omega) h2
                    · obtain rfl : i = m := by omega
                      rw [getD_of Hp.out, getD_of Hq.out]; omega
                  case measure => simp [intOf]; omega
              · have hok : Hid (cfgAt l size labels k = true) := by
                  show _ = _
                  rw [hcf2.out, sortedB_iff.2 fun i hi => Hso.out i (by omega) hi]
                  simp [hlen]
                go_wp2
                go_roundw
                case rel => exact ⟨k + 1, by omega, by go_num, cfg_step Hall.out hok.out, Hb2.out⟩
                case measure => simp [intOf]; omega
      · have Hlen := Lib.hid hlen
        go_wp2
        go_ret
        exact ⟨ret_false (cfgs_no hlt (by rw [hcf.out]; simp [Hlen.out])), Hb.out⟩
    · obtain rfl : k = l.length := by omega
      go_wp2
      go_ret
      exact ⟨ret_true Hall.out, Hb.out⟩
end Go.Proofs.YtomnaabadohecaaGreat
namespace Go.Proofs.YtomnaabadohecaaGreat
open Go Go.RowKit
/-! A region that draws its order: reads, a call that makes a row of integers, a new variable of type int, a slot for the row. -/
def I1 (W : World) (b : Nat) (x : Int) : Prop := W.heap[b]? = some (.cells #[.int .i64 x] 3)
theorem I1.cells {W : World} {b : Nat} {x : Int} (h : I1 W b x) : W.cell? ⟨b, 0, none⟩ = some (.int .i64 x) ∧ W.frozen? ⟨b, 0, none⟩ = false := by
  unfold I1 at h
  simp [World.cell?, World.frozen?, h]
theorem I1.lt {W : World} {b : Nat} {x : Int} (h : I1 W b x) : b < W.heap.size := (Array.getElem?_eq_some_iff.1 h).1
theorem I1.since {W W' : World} {b : Nat} {x : Int} (h : I1 W b x) (hs : Since W W') : I1 W' b x := (hs.below.block b h.lt).trans h
theorem I1.set {W : World} {b : Nat} {x : Int} (h : I1 W b x) (y : Int) : I1 (W.setCell ⟨b, 0, none⟩ (.int .i64 y)) b y := by
  unfold I1 at *
  simp [World.setCell, Array.getElem?_modify, h]
theorem I1.new (W : World) (x : Int) : I1 (W.alloc (.cells #[.int .i64 x] 3)) W.heap.size x := by
  show (W.heap.push _)[W.heap.size]? = _
  rw [Array.getElem?_push_size]
theorem int_zero (ev : Operand → Value) (d : Option Tmp) (ty : TypeId) (pos : String) (af : Array Edge) (W : World) : (execOp ev ⟨d, .alloc 3, ty, pos, af, none⟩).run Tryz.prog W = .ok (.value (ptr W.heap.size)) (W.alloc (.cells #[.int .i64 0] 3)) := by
  unfold ptr
  go_simp
theorem int_store (ev : Operand → Value) (ty : TypeId) (pos : String) (af : Array Edge) (W : World) (p x : Operand) (b : Nat) (q1 : Value) (y1 : Int) (h1 : ev p = ptr b) (h2 : ev x = .int .i64 y1) (h3 : W.cell? ⟨b, 0, none⟩ = some q1) (h5 : W.frozen? ⟨b, 0, none⟩ = false) :
    (execOp ev ⟨none, .store 3 p x, ty, pos, af, none⟩).run Tryz.prog W = .ok .skip (W.setCell ⟨b, 0, none⟩ (.int .i64 y1)) := by
  unfold ptr at h1
  go_simp
theorem own_setCell {W : World} {base b : Nat} {u : Value} {xs : List Int} (h : Own W base u xs) (hd : u.ownBlock ≠ some b) (v : Value) : Own (W.setCell ⟨b, 0, none⟩ v) base u xs :=
  ownsRow_stable h fun k hk => Below.heap_setCell W _ v k (fun e => hd (by simp at hk; rw [hk, e]))
section
variable {ops : Array Oper}
theorem wp_region_near {Q : Exit → Act → World → Prop} {rid : Nat} {a : Act} {w w0 : World} (m d x c s : Nat) (y : Int) (xs : List Int) (hm : Tryz.prog.follows .mixedOrders = true) (hf : flowB ops (m + 4) = true) (hsz : ops.size = m + 4) (hs0 : Since w0 w) {oc : Oper} (s0 : ops[m]? = some oc) (hoc : oc.dst = some c)
    (s1 : ∃ ty pos af, ops[m + 1]? = some ⟨some d, .alloc 3, ty, pos, af, none⟩) (s2 : ∃ ty pos af, ops[m + 2]? = some ⟨none, .store 3 (.tmp d) (.tmp x), ty, pos, af, none⟩) (s3 : ∃ ty pos af, ops[m + 3]? = some ⟨some s, .assign (.tmp c), ty, pos, af, none⟩)
    (hx : x ≠ d ∧ x ≠ c ∧ x ≠ s) (hd : d < a.tmps.size) (hc : c < a.tmps.size)
    (h : PFlow Tryz.prog ops w0 (fun A => A.eval (.tmp x) = .int .i64 y ∧ (Region.wanted oc (yielded ops A.tmps) = true ∧ ∀ W, Since w0 W → GivesAny Tryz.prog (fun W' u => Own W' W.heap.size u xs) oc A W) ∧
      ∀ u b W, Since w0 W → Own W w0.heap.size u xs → I1 W b y → Q .normal (((A.put (some c) u).put (some d) (ptr b)).put (some s) u) W) (ops.toList.take m) a) : (Code.region rid ops true).wp Tryz.prog Q a w := by
  have hok := flow_ok hf
  obtain ⟨vals, F, h0, ⟨hx1, ⟨hw1, hg1⟩, hfin⟩, hst'⟩ := pflow_frames _ a h
  have hlen : (ops.toList.take m).length = m := by simp; omega
  rw [hlen] at hx1 hw1 hg1 hfin
  have hget : ∀ i o, i < m → ops[i]? = some o → (ops.toList.take m)[i]? = some o := fun i o hi ho => by
    rw [List.getElem?_take, if_pos hi]; simpa using ho
  obtain ⟨ty1, ps1, af1, s1⟩ := s1
  obtain ⟨ty2, ps2, af2, s2⟩ := s2
  obtain ⟨ty3, ps3, af3, s3⟩ := s3
  have hF0 : ∀ i, i ≤ m → FrameIs a ops vals (fun j => j < i) (F i) := by
    intro i
    induction i with
    | zero => intro _; rw [h0]; exact ⟨rfl, rfl, fun j _ _ hj => absurd hj (by omega), fun _ _ => rfl⟩
    | succ i ih =>
      intro hi
      have hi' : i < ops.size := by omega
      have ho : ops[i]? = some ops[i] := Array.getElem?_eq_getElem hi'
      rw [(hst' i _ (hget i _ (by omega) ho)).2]
      exact ((ih (by omega)).put ho (fun j oj d hj hoj hd hd2 => by
        have := hok.dsts i _ (by omega) ho j oj (by omega) hoj d hd hd2
        omega)).same (fun j => by show (j < i ∨ j = i) ↔ j < i + 1; omega)
  let V : Value → Nat → Nat → Value := fun u b j => if j = m then u else if j = m + 1 then ptr b else if j = m + 3 then u else vals j
  have v0 : ∀ u b, V u b m = u := fun u b => if_pos rfl
  have v1 : ∀ u b, V u b (m + 1) = ptr b := fun u b => by show (if m + 1 = m then _ else if m + 1 = m + 1 then _ else _) = _; rw [if_neg (by omega), if_pos rfl]
  have v3 : ∀ u b, V u b (m + 3) = u := fun u b => by show (if m + 3 = m then _ else if m + 3 = m + 1 then _ else if m + 3 = m + 3 then _ else _) = _; rw [if_neg (by omega), if_neg (by omega), if_pos rfl]
  have vv : ∀ u b j, j < m → V u b j = vals j := fun u b j hj => by show (if j = m then _ else if j = m + 1 then _ else if j = m + 3 then _ else vals j) = _; rw [if_neg (by omega), if_neg (by omega), if_neg (by omega)]
  have hF : ∀ u b i, i ≤ m → FrameIs a ops (V u b) (fun j => j < i) (F i) := fun u b i hi => (hF0 i hi).vals (fun j hj => (vv u b j (by omega)).symm)
  refine wp_region_inv hm hok.back (fun D a' W => Since w0 W ∧ ∃ u b, FrameIs a ops (V u b) D a' ∧ (D m → Own W w0.heap.size u xs) ∧ (D (m + 1) → w0.heap.size ≤ b ∧ (D (m + 2) → I1 W b y) ∧ (¬ D (m + 2) → I1 W b 0)) ∧ (D m → D (m + 1) → u.ownBlock ≠ some b)) ?_ ?_ ?_
  · exact ⟨since_drew hs0, undef, 0, ⟨rfl, rfl, fun j _ _ hj => hj.elim, fun _ _ => rfl⟩, fun h => h.elim, fun h => h.elim, fun h => h.elim⟩
  · rintro D a' W i o ⟨hW, u, b, hfr, hO, hB, hne⟩ ho hDi hdep hcl
    have hin : i < m + 4 := by have := (Array.getElem?_eq_some_iff.1 ho).1; omega
    have look : ∀ t ∈ o.looksAt ops, ∀ j oj, ops[j]? = some oj → oj.dst = some t → D j ∧ j < i := fun t ht j oj hoj hd => by
      have hjn : j < m + 4 := by have := (Array.getElem?_eq_some_iff.1 hoj).1; omega
      have := hok.looks i o hin ho t ht j oj hjn hoj hd
      exact ⟨hdep j this, hok.back i o ho j this⟩
    have dist : ∀ j oj d, D j → ops[j]? = some oj → o.dst = some d → oj.dst ≠ some d := fun j oj d hj hoj hd hd2 => by
      have hjn : j < m + 4 := by have := (Array.getElem?_eq_some_iff.1 hoj).1; omega
      have := hok.dsts i o hin ho j oj hjn hoj d hd hd2
      subst this
      exact hDi hj
    have old : ∀ j, (D j ∨ j = i) → j ≠ i → D j := fun j h hj => h.elim (fun h => h) fun e => absurd e hj
    rcases Nat.lt_or_ge i m with him | him
    · obtain ⟨⟨hw, hrun⟩, -⟩ := hst' i o (hget i o him ho)
      obtain ⟨he, hw'⟩ := agree_exec (ops := ops) (a' := a') (A := F i) (fun t ht => hfr.agree (hF u b i (by omega)) t (fun j oj hj hoj hd => look t ht j oj hoj hd)) (fun cs b => hok.nosel i o cs b ho)
      rw [if_pos (hw'.trans hw)]
      unfold Oper.wp
      rw [he, hrun W hW]
      refine ⟨hW, u, b, ?_, fun h => hO (old _ h (by omega)), fun h => ?_, fun h h' => hne (old _ h (by omega)) (old _ h' (by omega))⟩
      · have := hfr.put (i := i) ho dist
        rwa [vv u b i him] at this
      · obtain ⟨q1, q2, q3⟩ := hB (old _ h (by omega))
        exact ⟨q1, fun h => q2 (old _ h (by omega)), fun h => q3 fun hh => h (.inl hh)⟩
    · obtain rfl | rfl | rfl | rfl : i = m ∨ i = m + 1 ∨ i = m + 2 ∨ i = m + 3 := by omega
      · rw [s0] at ho; cases ho
        obtain ⟨he, hw'⟩ := agree_exec (ops := ops) (a' := a') (A := F i) (fun t ht => hfr.agree (hF u b i (Nat.le_refl _)) t (fun j oj hj hoj hd => look t ht j oj hoj hd)) (fun cs b => hok.nosel i _ cs b s0)
        rw [if_pos (hw'.trans hw1)]
        unfold Oper.wp
        rw [he]
        have hgv := hg1 W hW
        unfold GivesAny at hgv
        have n3 : ¬ D (i + 3) := fun h => hDi (hcl _ _ h s3 _ (hok.looks (i + 3) _ (by omega) s3 c (by simp [Oper.looksAt, Op.operands]) i _ (by omega) s0 hoc))
        have next : ∀ u' W', Own W' W.heap.size u' xs → Since W W' → Since w0 W' ∧ ∃ u b, FrameIs a ops (V u b) (fun j => D j ∨ j = i) (a'.put oc.dst u') ∧ ((D i ∨ i = i) → Own W' w0.heap.size u xs) ∧ ((D (i + 1) ∨ i + 1 = i) → w0.heap.size ≤ b ∧ ((D (i + 2) ∨ i + 2 = i) → I1 W' b y) ∧ (¬ (D (i + 2) ∨ i + 2 = i) → I1 W' b 0)) ∧ ((D i ∨ i = i) → (D (i + 1) ∨ i + 1 = i) → u.ownBlock ≠ some b) := fun u' W' hr hs => by
          refine ⟨hW.after hs, u', b, ?_, fun _ => hr.mono hW.below.size, fun h => ?_, fun _ h => ?_⟩
          · have := (hfr.vals2 (v' := V u' b) (fun j hjn hj => by
              rcases Nat.lt_or_ge j i with h | h
              · rw [vv _ _ _ h, vv _ _ _ h]
              · obtain rfl | rfl | rfl | rfl : j = i ∨ j = i + 1 ∨ j = i + 2 ∨ j = i + 3 := by omega
                · exact absurd hj hDi
                · rw [v1, v1]
                · show (if i + 2 = i then _ else if i + 2 = i + 1 then _ else if i + 2 = i + 3 then _ else vals (i + 2)) = (if i + 2 = i then _ else if i + 2 = i + 1 then _ else if i + 2 = i + 3 then _ else vals (i + 2))
                  rw [if_neg (by omega), if_neg (by omega), if_neg (by omega), if_neg (by omega), if_neg (by omega), if_neg (by omega)]
                · exact absurd hj n3)).put (i := i) s0 dist
            rwa [v0] at this
          · obtain ⟨q1, q2, q3⟩ := hB (old _ h (by omega))
            exact ⟨q1, fun h => (q2 (old _ h (by omega))).since hs, fun h => (q3 fun hh => h (.inl hh)).since hs⟩
          · obtain ⟨q1, q2, q3⟩ := hB (old _ h (by omega))
            have hbl : b < W.heap.size := by
              by_cases h2 : D (i + 2)
              · exact (q2 h2).lt
              · exact (q3 h2).lt
            intro e
            have := (World.ownsRow.lt hr b e).1
            omega
        generalize (execOp (F i).eval oc).run Tryz.prog W = r at hgv ⊢
        cases r with
        | ok nx W' =>
          cases nx with
          | value u' => exact next u' W' hgv.1 hgv.2
          | enter f args =>
            simp only at hgv
            rw [Oper.upon_enter]
            exact hgv.mono fun e W'' ⟨u', he', hr, hs⟩ => by subst he'; exact next u' W'' hr hs
          | _ => exact hgv.elim
        | halt x W' => exact hgv.elim
      · rw [s1] at ho; cases ho
        rw [if_pos (show Region.wanted (⟨some d, .alloc 3, ty1, ps1, af1, none⟩ : Oper) (yielded ops a'.tmps) = true from rfl)]
        unfold Oper.wp
        rw [int_zero]
        have n2 : ¬ D (m + 2) := fun h => hDi (hcl _ _ h s2 _ (hok.looks (m + 2) _ (by omega) s2 d (by simp [Oper.looksAt, Op.operands]) (m + 1) _ (by omega) s1 rfl))
        refine ⟨since_alloc _ hW, u, W.heap.size, ?_, fun h => (hO (old _ h (by omega))).since (since_alloc _ (since_refl _)), fun _ => ⟨hW.below.size, fun h => (n2 (old _ h (by omega))).elim, fun _ => I1.new W 0⟩, fun h _ e => ?_⟩
        · have := (hfr.vals2 (v' := V u W.heap.size) (fun j hjn hj => by
            rcases Nat.lt_or_ge j m with h | h
            · rw [vv _ _ _ h, vv _ _ _ h]
            · obtain rfl | rfl | rfl | rfl : j = m ∨ j = m + 1 ∨ j = m + 2 ∨ j = m + 3 := by omega
              · rw [v0, v0]
              · exact absurd hj hDi
              · exact absurd hj n2
              · rw [v3, v3])).put (i := m + 1) s1 dist
          rwa [v1] at this
        · have := (World.ownsRow.lt (hO (old _ h (by omega))) _ e).2
          omega
      · rw [s2] at ho; cases ho
        rw [if_pos (show Region.wanted (⟨none, .store 3 (.tmp d) (.tmp x), ty2, ps2, af2, none⟩ : Oper) (yielded ops a'.tmps) = true from rfl)]
        have hD1 : D (m + 1) := (look d (by simp [Oper.looksAt, Op.operands]) (m + 1) _ s1 rfl).1
        obtain ⟨q1, q2, q3⟩ := hB hD1
        have q := q3 hDi
        obtain ⟨c1, c2⟩ := q.cells
        have e1 : a'.eval (.tmp d) = ptr b := by
          have := hfr.on (m + 1) _ d hD1 s1 rfl hd
          simp only [Act.eval, Array.getD_eq_getD_getElem?, this, Option.getD_some]
          exact v1 u b
        have e2 : a'.eval (.tmp x) = .int .i64 y := by
          rw [← hx1]
          have := hfr.agree (hF u b m (Nat.le_refl _)) x (fun j oj hj hoj hdd => ⟨(look x (by simp [Oper.looksAt, Op.operands]) j oj hoj hdd).1, by
            have hj' := (look x (by simp [Oper.looksAt, Op.operands]) j oj hoj hdd).2
            rcases Nat.lt_or_ge j m with hh | hh
            · exact hh
            · exfalso
              obtain rfl | rfl : j = m ∨ j = m + 1 := by omega
              · rw [s0] at hoj; cases hoj
                rw [hoc] at hdd
                exact hx.2.1 (Option.some.inj hdd).symm
              · rw [s1] at hoj; cases hoj
                exact hx.1 (Option.some.inj hdd).symm⟩)
          simp [Act.eval, this]
        unfold Oper.wp
        rw [int_store a'.eval _ _ _ W _ _ b _ y e1 e2 c1 c2]
        refine ⟨Below.setCell hW q1 _, u, b, ?_, fun h => own_setCell (hO (old _ h (by omega))) (hne (old _ h (by omega)) hD1) _, fun _ => ⟨q1, fun _ => q.set y, fun h => (h (.inr rfl)).elim⟩, fun h _ => hne (old _ h (by omega)) hD1⟩
        exact hfr.put (i := m + 2) s2 dist
      · rw [s3] at ho; cases ho
        rw [if_pos (show Region.wanted (⟨some s, .assign (.tmp c), ty3, ps3, af3, none⟩ : Oper) (yielded ops a'.tmps) = true from rfl)]
        have hD0 : D m := (look c (by simp [Oper.looksAt, Op.operands]) m _ s0 hoc).1
        have e1 : a'.eval (.tmp c) = u := by
          have := hfr.on m _ c hD0 s0 hoc hc
          simp only [Act.eval, Array.getD_eq_getD_getElem?, this, Option.getD_some]
          exact v0 u b
        unfold Oper.wp
        have hrun : (execOp a'.eval ⟨some s, .assign (.tmp c), ty3, ps3, af3, none⟩).run Tryz.prog W = .ok (.value u) W := by
          rw [← e1]
          generalize a'.eval = ev
          simp [execOp, go_sem]
        rw [hrun]
        refine ⟨hW, u, b, ?_, fun h => hO (old _ h (by omega)), fun h => ?_, fun h h' => hne (old _ h (by omega)) (old _ h' (by omega))⟩
        · have := hfr.put (i := m + 3) s3 dist
          rwa [v3] at this
        · obtain ⟨q1, q2, q3⟩ := hB (old _ h (by omega))
          exact ⟨q1, fun h => q2 (old _ h (by omega)), fun h => q3 fun hh => h (.inl hh)⟩
  · rintro D a' W ⟨hW, u, b, hfr, hO, hB, hne⟩ hall
    have dst1 : ∀ i o, i < m + 4 → ops[i]? = some o → ∀ j oj d, j < i → ops[j]? = some oj → o.dst = some d → oj.dst ≠ some d := fun i o hi ho j oj d hj hoj hd hd2 => by
      have := hok.dsts i o hi ho j oj (by omega) hoj d hd hd2
      omega
    have f1 := ((hF u b m (Nat.le_refl _)).put (i := m) s0 (fun j oj d hj hoj => dst1 m _ (by omega) s0 j oj d hj hoj)).same (E := fun j => j < m + 1) (fun j => by show (j < m ∨ j = m) ↔ j < m + 1; omega)
    have f2 := (f1.put (i := m + 1) s1 (fun j oj d hj hoj => dst1 (m + 1) _ (by omega) s1 j oj d hj hoj)).same (E := fun j => j < m + 2) (fun j => by show (j < m + 1 ∨ j = m + 1) ↔ j < m + 2; omega)
    have f3 := (f2.put (i := m + 2) s2 (fun j oj d hj hoj => dst1 (m + 2) _ (by omega) s2 j oj d hj hoj)).same (E := fun j => j < m + 3) (fun j => by show (j < m + 2 ∨ j = m + 2) ↔ j < m + 3; omega)
    have f4 := (f3.put (i := m + 3) s3 (fun j oj d hj hoj => dst1 (m + 3) _ (by omega) s3 j oj d hj hoj)).same (E := fun j => j < m + 4) (fun j => by show (j < m + 3 ∨ j = m + 3) ↔ j < m + 4; omega)
    have e := hfr.ext f4 (fun j hj => ⟨fun _ => by omega, fun _ => hall j hj⟩)
    rw [e, v0, v1, v3, hoc]
    exact hfin u b W hW (hO (hall m (by omega))) ((hB (hall (m + 1) (by omega))).2.1 (hall (m + 2) (by omega)))
end
end Go.Proofs.YtomnaabadohecaaGreat
namespace Go.Proofs.YtomnaabadohecaaGreat
open Go.RowKit
set_option maxHeartbeats 4000000 in
theorem configurationsOk_any (v : Value) (l : List (List Int)) (size labels : Int) (w : World) (h : IntSS w v l) (hl : 1 ≤ labels ∧ labels ≤ 8) :
    Calls Tryz.prog 163 #[v, .int .i64 size, .int .i64 labels] w fun e w' => e = .returned (.bool (cfgs l size labels)) ∧ Below w.heap.size w w' := by
  have H := Lib.hid h
  obtain ⟨A, c, rfl, hlc, hm, -⟩ := h
  unfold maxLen at hm
  have wl : IntKind.i64.wrap (labels - 1) = labels - 1 := wr64 _ (by omega) (by omega)
  go_enter Tryz.func163, Tryz.ntmps163
  go_wp2
  go_loopw [11] (fun i wr => ∃ k : Nat, k ≤ l.length ∧ i = .int .i64 k ∧ (List.range k).all (cfgAt l size labels) = true ∧ Below w.heap.size w wr) (fun i _ => l.length - (intOf i).toNat)
  case atStart => exact ⟨0, Nat.zero_le _, rfl, rfl, Below.refl _ _⟩
  case round =>
    obtain ⟨k, hk, rfl, hall, hb⟩ := hrel
    have Hall := Lib.hid hall
    have Hb := Lib.hid hb
    clear hall hb
    by_cases hlt : k < l.length
    · obtain ⟨x, b, off, A1, z, hx, rfl, hc1, hz1, hz2, hxs⟩ := rows_get H.out hlt
      replace hc1 := bc Hb.out hc1
      have Hx := Lib.hid hx
      have HX := Lib.hid (show ∀ X, Since wr X → IntS X (.slice A1 x.length z) x from fun X hX => hxs.keep (Hb.out.trans (hX.mono Hb.out.size)))
      clear hx hxs
      have hcf : Hid (cfgAt l size labels k = (((x.length : Int) == size) && (sortedB x && allB x 0 (labels - 1)) && (k == 0 || decide (cmpL (l.getD (k - 1) []) x < 0)))) := by show _ = _; unfold cfgAt rowB; rw [getD_of Hx.out]
      by_cases hlen : (x.length : Int) = size
      · cases hsb : sortedB x
        · have Hsb := Lib.hid hsb
          clear hsb
          go_wp2_with (go_at_call 228; refine (isSorted_any _ x _ (HX.out _ (since_refl _))).mono ?_; rw [Hsb.out]; rintro e w1 ⟨rfl, hb1⟩)
          go_ret
          exact ⟨ret_false (cfgs_no hlt (by rw [hcf.out, Hsb.out]; simp)), Hb.out.trans (hb1.mono Hb.out.size)⟩
        · have Hsb := Lib.hid hsb
          clear hsb
          cases hab : allB x 0 (labels - 1)
          · have Hab := Lib.hid hab
            clear hab
            go_wp2_with (first | (go_at_call 228; refine (isSorted_any _ x _ (HX.out _ (since_refl _))).mono ?_; rw [Hsb.out]; rintro e w1 ⟨rfl, hb1⟩) | (go_at_call 152; refine (allWithin_b _ x 0 (labels - 1) _ (HX.out _ hb1)).mono ?_; rw [Hab.out]; rintro e w2 ⟨rfl, hb2⟩))
            go_ret
            exact ⟨ret_false (cfgs_no hlt (by rw [hcf.out, Hab.out]; simp)), Hb.out.trans ((Since.trans hb1 hb2).mono Hb.out.size)⟩
          · have Hab := Lib.hid hab
            have Hlen := Lib.hid hlen
            clear hab
            rcases Nat.eq_zero_or_pos k with h0 | h0
            · have hkn : ¬ (k : Int) > 0 := by omega
              have hok : Hid (cfgAt l size labels k = true) := by show _ = _; rw [hcf.out, Hsb.out, Hab.out, h0]; simp [Hlen.out]
              clear h0
              go_wp2_with (first | (go_at_call 228; refine (isSorted_any _ x _ (HX.out _ (since_refl _))).mono ?_; rw [Hsb.out]; rintro e w1 ⟨rfl, hb1⟩) | (go_at_call 152; refine (allWithin_b _ x 0 (labels - 1) _ (HX.out _ hb1)).mono ?_; rw [Hab.out]; rintro e w2 ⟨rfl, hb2⟩))
              have HB2 := Lib.hid (Hb.out.trans ((Since.trans hb1 hb2).mono Hb.out.size))
              clear hb1 hb2
              go_wp2
              go_roundw
              case rel => exact ⟨k + 1, by omega, by go_num, cfg_step Hall.out hok.out, HB2.out⟩
              case measure => simp [intOf]; omega
            · obtain ⟨y, b', off', A2, z2, hy, he, hc2, hy1, hy2, hys⟩ := rows_get H.out (k := k - 1) (by omega)
              cases he
              replace hc2 := bc Hb.out hc2
              have HY := Lib.hid (show ∀ X, Since wr X → IntS X (.slice A2 y.length z2) y from fun X hX => hys.keep (Hb.out.trans (hX.mono Hb.out.size)))
              have Hy := Lib.hid hy
              obtain ⟨cv, hcv⟩ : ∃ cv, cmpL y x = cv := ⟨_, rfl⟩
              have Hcv := Lib.hid hcv
              have wk : IntKind.i64.wrap ((k : Int) - 1) = ((k - 1 : Nat) : Int) := by rw [wr64 _ (by omega) (by omega)]; omega
              have hk1 : k - 1 < l.length := by omega
              have q2 := have_cell hc2
              clear hy hys hcv hc2
              by_cases hneg : cv ≥ 0
              · go_wp2_with (first | (go_at_call 228; refine (isSorted_any _ x _ (HX.out _ (since_refl _))).mono ?_; rw [Hsb.out]; rintro e w1 ⟨rfl, hb1⟩) | (go_at_call 152; refine (allWithin_b _ x 0 (labels - 1) _ (HX.out _ hb1)).mono ?_; rw [Hab.out]; rintro e w2 ⟨rfl, hb2⟩; have hs2 : Since wr w2 := Since.trans hb1 hb2) | (go_at_call 229; refine (slicesCompare_any _ _ y x _ (HY.out _ (Since.trans hb1 hb2)) (HX.out _ (Since.trans hb1 hb2))).mono ?_; rw [Hcv.out]; rintro e w3 ⟨rfl, hb3⟩))
                go_ret
                exact ⟨ret_false (cfgs_no hlt (by rw [hcf.out, getD_of Hy.out, Hcv.out]; simp; omega)), Hb.out.trans ((Since.trans (Since.trans hb1 hb2) hb3).mono Hb.out.size)⟩
              · have hok : Hid (cfgAt l size labels k = true) := by show _ = _; rw [hcf.out, Hsb.out, Hab.out, getD_of Hy.out, Hcv.out]; simp [Hlen.out]; omega
                go_wp2_with (first | (go_at_call 228; refine (isSorted_any _ x _ (HX.out _ (since_refl _))).mono ?_; rw [Hsb.out]; rintro e w1 ⟨rfl, hb1⟩) | (go_at_call 152; refine (allWithin_b _ x 0 (labels - 1) _ (HX.out _ hb1)).mono ?_; rw [Hab.out]; rintro e w2 ⟨rfl, hb2⟩; have hs2 : Since wr w2 := Since.trans hb1 hb2) | (go_at_call 229; refine (slicesCompare_any _ _ y x _ (HY.out _ (Since.trans hb1 hb2)) (HX.out _ (Since.trans hb1 hb2))).mono ?_; rw [Hcv.out]; rintro e w3 ⟨rfl, hb3⟩))
                have HB2 := Lib.hid (Hb.out.trans ((Since.trans (Since.trans hb1 hb2) hb3).mono Hb.out.size))
                clear hb1 hb2 hb3 hs2 q2
                go_wp2
                go_roundw
                case rel => exact ⟨k + 1, by omega, by go_num, cfg_step Hall.out hok.out, HB2.out⟩
                case measure => simp [intOf]; omega
      · have Hlen := Lib.hid hlen
        go_wp2
        go_ret
        exact ⟨ret_false (cfgs_no hlt (by rw [hcf.out]; simp [Hlen.out])), Hb.out⟩
    · obtain rfl : k = l.length := by omega
      go_wp2
      go_ret
      exact ⟨ret_true Hall.out, Hb.out⟩
theorem has_no {l : List (List Int)} {t : List Int} (h : ∀ (k : Nat) (x : List Int), l[k]? = some x → x ≠ t) : l.contains t = false := by
  rw [Bool.eq_false_iff]
  intro hc
  rw [List.contains_iff_mem] at hc
  obtain ⟨k, hk⟩ := List.mem_iff_getElem?.1 hc
  exact h k t hk rfl
theorem prHas_any (v u : Value) (l : List (List Int)) (t : List Int) (w : World) (h : IntSS w v l) (h' : IntS w u t) :
    Calls Tryz.prog 259 #[v, u] w fun e w' => e = .returned (.bool (l.contains t)) ∧ Below w.heap.size w w' := by
  have H := Lib.hid h
  have HT := Lib.hid h'
  obtain ⟨A, c, rfl, hlc, hm, -⟩ := h
  obtain ⟨AT, cT, rfl, -⟩ := h'
  unfold maxLen at hm
  go_enter Tryz.func259, Tryz.ntmps259
  go_wp2
  go_loopw [9] (fun i wr => ∃ k : Nat, k ≤ l.length ∧ i = .int .i64 k ∧ (∀ (q : Nat) (x : List Int), q < k → l[q]? = some x → x ≠ t) ∧ Below w.heap.size w wr) (fun i _ => l.length - (intOf i).toNat)
  case atStart => exact ⟨0, Nat.zero_le _, rfl, fun q x h => by omega, Below.refl _ _⟩
  case round =>
    obtain ⟨k, hk, rfl, hall, hb⟩ := hrel
    have Hall := Lib.hid hall
    have Hb := Lib.hid hb
    clear hall hb
    by_cases hlt : k < l.length
    · obtain ⟨x, b, off, A1, z, hx, rfl, hc1, hz1, hz2, hxs⟩ := rows_get H.out hlt
      replace hc1 := bc Hb.out hc1
      have Hx := Lib.hid hx
      have Hxs := Lib.hid (hxs.keep Hb.out)
      clear hx hxs
      by_cases htx : t = x
      · have Hd := Lib.hid (decide_eq_true htx)
        have Hr : Hid (l.contains t = true) := by show _ = _; rw [List.contains_iff_mem]; exact htx ▸ List.mem_of_getElem? Hx.out
        clear htx
        go_wp2_with (go_at_call 284; refine (l1Same_any _ _ t x _ (HT.out.keep Hb.out) Hxs.out).mono ?_; rw [Hd.out]; rintro e w1 ⟨rfl, hb1⟩)
        go_ret
        exact ⟨ret_true Hr.out, Hb.out.trans (hb1.mono Hb.out.size)⟩
      · have Hd := Lib.hid (decide_eq_false htx)
        have Htx := Lib.hid htx
        clear htx
        go_wp2_with (go_at_call 284; refine (l1Same_any _ _ t x _ (HT.out.keep Hb.out) Hxs.out).mono ?_; rw [Hd.out]; rintro e w1 ⟨rfl, hb1⟩)
        have HB2 := Lib.hid (Hb.out.trans (hb1.mono Hb.out.size))
        clear hb1
        go_wp2
        go_roundw
        case rel =>
          refine ⟨k + 1, by omega, by go_num, fun q y h1 h2 => ?_, HB2.out⟩
          rcases Nat.lt_or_ge q k with h3 | h3
          · exact Hall.out q y h3 h2
          · obtain rfl : q = k := by omega
            have h4 := Hx.out
            rw [h2] at h4
            cases h4
            exact fun e => Htx.out e.symm
        case measure => simp [intOf]; omega
    · obtain rfl : k = l.length := by omega
      go_wp2
      go_ret
      exact ⟨ret_false (has_no fun q x hq => Hall.out q x (lt_of_get hq) hq), Hb.out⟩
end Go.Proofs.YtomnaabadohecaaGreat
namespace Go.Proofs.YtomnaabadohecaaGreat
open Go.RowKit Go.Shelf
attribute [local go_sem] Oper.semAt_some
/-! slices.Sorted(slices.Values(xs)) -/
def encI1 (x : Int) : Array Value := #[.int .i64 x]
set_option maxRecDepth 100000 in
set_option maxHeartbeats 2000000 in
theorem vals1_stops (F : Fence) (n : Nat) (hf : F.fn 299) (hro : F.round = none) (hn : 1 ≤ n) (Bs : Nat) (sv : Value) (xs : List Int) (w : World) (hc : w.cell? ⟨Bs, 0, none⟩ = some sv) (hI : IntS w sv xs) :
    SeqStopsK F n Tryz.prog 299 #[.pointer (some ⟨Bs, 0, none⟩)] encI1 (KeepMid 0 w.heap.size) (fun ys => ys = xs) (fun _ => True) xs.length w := fun l J Jx W hW _ _ hY h0 => by
  have hc' := bc hW hc
  obtain ⟨A, c, rfl, hlc, hm, hA⟩ := hI
  unfold maxLen at hm
  have HA := Lib.hid hA
  have HW := Lib.hid hW
  have HY := Lib.hid hY
  clear hA hW hc hY
  refine callsIn_of_wp Tryz.func299 rfl hf ?_ hro
  simp only [Tryz.ntmps299, List.size_toArray, List.length_cons, List.length_nil, Nat.reduceAdd, Nat.reduceSub, Array.replicate_succ, Array.replicate_zero, List.push_toArray, List.append_toArray, List.nil_append, List.cons_append]
  gi_wp2
  gi_loopw [7] (fun i wr => ∃ k : Nat, k ≤ xs.length ∧ i = .int .i64 k ∧ J (xs.take k) wr ∧ KeepMid 0 w.heap.size W wr) (fun i _ => xs.length - (intOf i).toNat)
  case atStart => exact ⟨0, Nat.zero_le _, rfl, by simpa using h0, KeepMid.refl _ _ _⟩
  case round =>
    obtain ⟨k, hk, rfl, hJs, hnx⟩ := hrel
    have Hnx := Lib.hid hnx
    clear hnx
    by_cases hlt : k < xs.length
    · obtain ⟨x, b, off, hx, rfl, hc1⟩ := ints_get HA.out hlt
      have hbw : b < w.heap.size := World.block_lt_of_cell? w _ hc1
      have hcx : wr.cell? ⟨b, off + k, none⟩ = some (.int .i64 x) := Hnx.out.cell (Nat.zero_le _) hbw (bc HW.out hc1)
      obtain ⟨fn, tmps, assign, body, hy, hR⟩ := HY.out _ x wr hJs (by rw [List.length_take]; omega)
      unfold encI1 at hy
      have Hx := Lib.hid hx
      clear hx hc1
      gi_wp2
      refine hR.mono ?_
      rintro e W3 (⟨rfl, hJ3, hk3⟩ | ⟨rfl, hJx3⟩)
      · gi_wp2
        go_roundw
        case rel => exact ⟨k + 1, by omega, by go_num, by rw [take_snoc Hx.out]; exact hJ3, Hnx.out.t hk3⟩
        case measure => simp [intOf]; omega
      · gi_wp2
        refine bodyPost_ret (results_none rfl _ _ _) rfl ?_
        exact ⟨⟨_, rfl⟩, .inr ⟨_, trivial, hJx3⟩⟩
    · obtain rfl : k = xs.length := by omega
      rw [List.take_length] at hJs
      gi_wp2
      go_end0
      exact ⟨⟨_, rfl⟩, .inl ⟨_, rfl, hJs⟩⟩
set_option maxHeartbeats 1000000 in
theorem values_in (n : Nat) (A : Option Addr) (k c : Nat) (w : World) :
    CallsIn Fence.wide n Tryz.prog 288 #[.slice A k c] w fun e w' => e = .returned (.func (.func 299) #[] #[.pointer (some ⟨w.heap.size, 0, none⟩)]) ∧ w' = w.alloc (.cells #[.slice A k c] 24) := by
  refine callsIn_of_wp Tryz.func288 rfl trivial ?_ rfl
  simp only [Tryz.ntmps288, List.size_toArray, List.length_cons, List.length_nil, Nat.reduceAdd, Nat.reduceSub, Array.replicate_succ, Array.replicate_zero, List.push_toArray, List.append_toArray, List.nil_append, List.cons_append]
  gi_wp2
  go_ret
  exact ⟨rfl, rfl⟩
/-- between two rounds of AppendSeq -/
def SInv (b0 : Nat) (w : World) (pre : List Int) (W : World) : Prop :=
  (∃ v, Boxed W b0 24 v ∧ Own W (b0 + 1) v pre) ∧ Below b0 w W ∧ b0 + 1 ≤ W.heap.size
theorem sinv_own (b0 : Nat) (w : World) (hb : b0 ≤ w.heap.size) (B : Nat) (hB : b0 ≤ B) : OwnFrom B (SInv b0 w) := by
  refine OwnFrom.and ?_ (OwnFrom.and (ownFrom_below hb hB) (fun _ _ _ _ hs hg _ => Nat.le_trans hs hg.size))
  have := _root_.Go.Own.from (holdsRow_own (β := List Int) (b0 + 1) b0 24 3 1 (fun pre => pre.length) (fun pre => pre.map (Value.int .i64)) (fun _ _ => True)) B
  intro s W W' row hs hg hr
  obtain ⟨v, h1, h2⟩ := hs
  obtain ⟨v', h1', h2', _⟩ := this s W W' row ⟨v, h1, h2, trivial⟩ hg hr
  exact ⟨v', h1', h2'⟩
theorem sinv_step {b0 g' c' : Nat} {w W w2 : World} {pre : List Int} {x : Int} {v : Value} {o : Obj}
    (hb2 : Boxed W b0 24 v) (hown : Own W (b0 + 1) v pre) (hB : Below b0 w W) (hsz : b0 + 1 ≤ W.heap.size)
    (hown2 : Own w2 (b0 + 1) (.slice (some ⟨g', 0, none⟩) (pre.length + 1) c') (pre ++ [x])) (hgr : (W.alloc o).grownBy w2 v.ownBlock) :
    Boxed w2 b0 24 v ∧ KeepsFrom (b0 + 1) W (w2.setCell ⟨b0, 0, none⟩ (.slice (some ⟨g', 0, none⟩) (pre.length + 1) c')) ∧
      KeepMid 0 b0 W (w2.setCell ⟨b0, 0, none⟩ (.slice (some ⟨g', 0, none⟩) (pre.length + 1) c')) ∧
      SInv b0 w (pre ++ [x]) (w2.setCell ⟨b0, 0, none⟩ (.slice (some ⟨g', 0, none⟩) (pre.length + 1) c')) := by
  have hlt : ∀ k, v.ownBlock = some k → b0 + 1 ≤ k := fun k hk => (World.ownsRow.lt hown k hk).1
  have hne0 : some b0 ≠ v.ownBlock := fun e => by have := hlt b0 e.symm; omega
  have k2 : Boxed w2 b0 24 v := (hb2.alloc o).kept hgr hne0
  have hg := hown2.blk
  have k3 := (k2.set (.slice (some ⟨g', 0, none⟩) (pre.length + 1) c'))
  have o3 : Own (w2.setCell ⟨b0, 0, none⟩ (.slice (some ⟨g', 0, none⟩) (pre.length + 1) c')) (b0 + 1) (.slice (some ⟨g', 0, none⟩) (pre.length + 1) c') (pre ++ [x]) :=
    World.ownsRow.kept hown2 (grownBy_setCell' w2 b0 _) (.inr (by simp [Value.ownBlock]; omega))
  have hblk : ∀ k, k < W.heap.size → k ≠ b0 → v.ownBlock ≠ some k → (w2.setCell ⟨b0, 0, none⟩ (.slice (some ⟨g', 0, none⟩) (pre.length + 1) c')).heap[k]? = W.heap[k]? := by
    intro k hk h1 h3
    rw [Below.heap_setCell _ _ _ k h1, hgr.block k (by show k < (W.alloc o).heap.size; simp; omega) (fun e => h3 e.symm)]
    exact Below.heap_alloc W o k hk
  have hsz2 : W.heap.size ≤ (w2.setCell ⟨b0, 0, none⟩ (.slice (some ⟨g', 0, none⟩) (pre.length + 1) c')).heap.size := by
    have := hgr.size
    simp [World.setCell] at *
    omega
  refine ⟨k2, ⟨hsz2, ?_⟩, ⟨hsz2, fun k h1 h2 => hblk k (by omega) (by omega) (fun e => by have := hlt k e; omega)⟩, ⟨_, k3, o3⟩, ?_, by omega⟩
  · intro k o' hk hko hc
    refine (hblk k (Array.getElem?_eq_some_iff.1 hko).1 (by omega) (fun e => ?_)).trans hko
    rcases hown.2 with ⟨rfl, _⟩ | ⟨gg, cap, cur, rfl, _, hgg, _⟩
    · simp [Value.ownBlock] at e
    · simp only [Value.ownBlock, Option.some.injEq] at e
      subst e
      rw [hgg] at hko
      cases hko
      simp [Obj.isCells] at hc
  · refine hB.trans ⟨?_, ?_, ?_, hsz2, fun k hk => hblk k (by have := hB.size; omega) (by omega) (fun e => by have := hlt k e; omega)⟩
    · exact hgr.os
    · exact hgr.tape
    · exact hgr.output
set_option maxRecDepth 100000 in
set_option maxHeartbeats 2000000 in
theorem appSeq_in (n : Nat) (hn : 3 ≤ n) (Bs : Nat) (sv : Value) (xs : List Int) (w : World) (hc : w.cell? ⟨Bs, 0, none⟩ = some sv) (hI : IntS w sv xs) (hl : xs.length ≤ 1000) :
    CallsIn Fence.wide n Tryz.prog 304 #[.slice none 0 0, .func (.func 299) #[] #[.pointer (some ⟨Bs, 0, none⟩)]] w fun e W' => ∃ v, e = .returned v ∧ Own W' w.heap.size v xs ∧ Below w.heap.size w W' := by
  have hn1 : 1 ≤ n := by omega
  refine callsIn_of_wp_marks Tryz.func304 rfl trivial ?_ rfl
  simp only [Tryz.ntmps304, List.size_toArray, List.length_cons, List.length_nil, Nat.reduceAdd, Nat.reduceSub, Array.replicate_succ, Array.replicate_zero, List.push_toArray, List.append_toArray, List.nil_append, List.cons_append]
  have Hc := Lib.hid hc
  have HI := Lib.hid hI
  clear hc hI
  gi_wp2
  have hW0 : (w.alloc (.cells #[.slice none 0 0] 24)).heap.size = w.heap.size + 1 := by simp
  refine wpIn_rangeFunc_ownG rfl hn1 (gf := 299) (lb := #[.pointer (some ⟨Bs, 0, none⟩)]) rfl trivial (enters_of Tryz.func299 (by kernel_rfl) rfl)
    (vals1_stops Fence.wide (n - 1) trivial rfl (by omega) Bs sv xs w Hc.out HI.out) KeepMid.t (KeepMid.b (by simp)) (below_alloc _ _) (fun _ => rfl)
    (SInv w.heap.size w)
    (fun _ _ _ => False)
    (sinv_own w.heap.size w (Nat.le_refl _) _ (by simp))
    (fun _ _ _ _ _ hs _ _ => hs)
    ⟨⟨_, Boxed.new w _ _, own_nil _ _⟩, below_alloc _ _, by simp⟩
    (fun x => { tmps := #[.slice none 0 0, .func (.func 299) #[] #[.pointer (some ⟨Bs, 0, none⟩)], .pointer (some ⟨w.heap.size, 0, none⟩), undef, .slice none 0 0, .int .i64 x, .func (.func 299) #[] #[.pointer (some ⟨Bs, 0, none⟩)], .int .i64 x, undef, undef, undef, undef, undef], defers := [] }) ?assign ?body ?done ?stop
  case assign =>
    intro l x W K hK
    unfold encI1
    gi_wp2
    exact hK
  case body =>
    rintro lr pre x W ⟨⟨v, hb2, hown⟩, hB, hszW⟩ hlt
    obtain ⟨g', c', w2, hrun, hown2, hgr2, hg2⟩ := app1 (w := W.alloc (.cells #[.int .i64 x] 3)) (hown.keep (below_alloc W _)) x 24 W.heap.size (by simp) (by omega) (by simp; omega)
    have hc2 := hb2.cell
    obtain ⟨k2, s1, s2, s3⟩ := sinv_step hb2 hown hB hszW hown2 hgr2
    have hd2 := k2.cell
    have hf2 := k2.frozen
    have hres : AppRes Tryz.prog 24 v (Value.slice (some { block := W.heap.size, off := 0 }) 1 1) (W.alloc (Obj.cells #[Value.int IntKind.i64 x] 3)) = .ok (.value (Value.slice (some { block := g', off := 0 }) (pre.length + 1) c')) w2 := by unfold AppRes; rw [hrun]; rfl
    have s0 := s1
    rw [← hW0] at s0
    clear hrun hb2 hown hB hown2 hgr2 hg2 k2 s1 hW0
    generalize hpn : pre.length = pn at *
    gi_wp2_with (gi_at_builtin; refine wpListIn_res (.tmp 8) (.tmp 10) rfl rfl _ w2 hres ?_)
    exact ⟨s0, s2, s3⟩
  case done =>
    rintro D ys W hD rfl ⟨⟨v, hb2, hown⟩, hB, hszW⟩ hK
    simp only [hW0] at hD
    have hc2 := hb2.cell
    have HO := Lib.hid hown
    have HB := Lib.hid hB
    have HK := Lib.hid hK
    have Hb2 := Lib.hid hb2
    clear hown hB hK hb2
    gi_wp2
    refine ⟨by simp, .inl ⟨_, _, rfl, run_takeDeferred HK.out, ?_⟩⟩
    exact ⟨_, results_tmp rfl _ _ _, v, rfl, own_putObj (HO.out.mono (by omega)) _ HK.out rfl, HB.out.trans (belowK_b (w := w) (Nat.le_refl _) W D _ _ (by omega) HK.out rfl rfl)⟩
  case stop =>
    rintro D c pre W _ _ h _
    exact h.elim
theorem collect_in (n : Nat) (hn : 4 ≤ n) (Bs : Nat) (sv : Value) (xs : List Int) (w : World) (hc : w.cell? ⟨Bs, 0, none⟩ = some sv) (hI : IntS w sv xs) (hl : xs.length ≤ 1000) :
    CallsIn Fence.wide n Tryz.prog 298 #[.func (.func 299) #[] #[.pointer (some ⟨Bs, 0, none⟩)]] w fun e W' => ∃ v, e = .returned v ∧ Own W' w.heap.size v xs ∧ Below w.heap.size w W' := by
  have Hc := Lib.hid hc
  have HI := Lib.hid hI
  clear hc hI
  have hn1 : 1 ≤ n := by omega
  refine callsIn_of_wp Tryz.func298 rfl trivial ?_ rfl
  simp only [Tryz.ntmps298, List.size_toArray, List.length_cons, List.length_nil, Nat.reduceAdd, Nat.reduceSub, Array.replicate_succ, Array.replicate_zero, List.push_toArray, List.append_toArray, List.nil_append, List.cons_append]
  gi_wp2_with (refine ⟨trivial, ?_⟩; gi_at_call 304; refine (appSeq_in (n - 1) (by omega) Bs sv xs _ Hc.out HI.out hl).mono ?_; rintro e w1 ⟨v, rfl, ho, hb⟩)
  go_ret
  exact ⟨_, rfl, ho, hb⟩
theorem sorted_in (n : Nat) (hn : 5 ≤ n) (Bs : Nat) (sv : Value) (xs : List Int) (w : World) (hc : w.cell? ⟨Bs, 0, none⟩ = some sv) (hI : IntS w sv xs) (hl : xs.length ≤ 1000) :
    CallsIn Fence.wide n Tryz.prog 287 #[.func (.func 299) #[] #[.pointer (some ⟨Bs, 0, none⟩)]] w fun e W' => ∃ v, e = .returned v ∧ Own W' w.heap.size v (sortI xs) ∧ Below w.heap.size w W' := by
  have Hc := Lib.hid hc
  have HI := Lib.hid hI
  clear hc hI
  have hn1 : 1 ≤ n := by omega
  refine callsIn_of_wp Tryz.func287 rfl trivial ?_ rfl
  simp only [Tryz.ntmps287, List.size_toArray, List.length_cons, List.length_nil, Nat.reduceAdd, Nat.reduceSub, Array.replicate_succ, Array.replicate_zero, List.push_toArray, List.append_toArray, List.nil_append, List.cons_append]
  gi_wp2_with (refine ⟨trivial, ?_⟩; gi_at_call 298; refine (collect_in (n - 1) (by omega) Bs sv xs _ Hc.out HI.out hl).mono ?_; rintro e w1 ⟨v, rfl, ho, hb⟩)
  have Ho := Lib.hid ho
  have Hb := Lib.hid hb
  clear ho hb
  gi_wp2_with (refine ⟨trivial, (callsIn_wide.2 (sort_any _ xs _ _ Ho.out (by omega))).mono ?_⟩; rintro e w2 ⟨rfl, ho2, hg2⟩)
  go_ret
  exact ⟨_, rfl, ho2, Hb.out.grown hg2 Hb.out.size (fun k e => (World.ownsRow.lt Ho.out k e).1)⟩
end Go.Proofs.YtomnaabadohecaaGreat
