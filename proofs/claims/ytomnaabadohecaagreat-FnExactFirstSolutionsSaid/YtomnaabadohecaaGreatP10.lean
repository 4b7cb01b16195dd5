/- Parts of the proof: walks of functions and plain laws. -/
import Derived.Test.YtomnaabadohecaaGreatP9
import Derived.Test.YtomnaabadohecaaGreatP3
import Derived.Test.YtomnaabadohecaaGreatP0
import Derived.Test.YtomnaabadohecaaGreatP4
import Derived.Test.YtomnaabadohecaaGreatP8
import Derived.Test.YtomnaabadohecaaGreatP2
namespace Go.Proofs.YtomnaabadohecaaGreat
open Go.RowKit
/-! orders of integers and of lists -/
theorem isNaN_any (x : Int) (w : World) : Calls Tryz.prog 285 #[.int .i64 x] w fun e w' => e = .returned (.bool false) ∧ w = w' := by
  go_enter Tryz.func285, Tryz.ntmps285
  go_wp2
  go_ret
  exact ⟨rfl, rfl⟩
theorem cmpLess_any (x y : Int) (w : World) : Calls Tryz.prog 262 #[.int .i64 x, .int .i64 y] w fun e w' => e = .returned (.bool (decide (x < y))) ∧ w = w' := by
  go_enter Tryz.func262, Tryz.ntmps262
  go_wp2_with (go_at_call 285; refine (isNaN_any _ _).mono ?_; rintro e w' ⟨rfl, rfl⟩)
  go_ret
  exact ⟨rfl, rfl⟩
theorem cmpLess_b (x y : Int) (w : World) : Calls Tryz.prog 262 #[.int .i64 x, .int .i64 y] w fun e w' => e = .returned (.bool (decide (x < y))) ∧ Below w.heap.size w w' := (cmpLess_any x y w).mono fun _ _ ⟨h1, h2⟩ => ⟨h1, h2 ▸ Below.refl _ _⟩
def cmpI (x y : Int) : Int := if x < y then -1 else if y < x then 1 else 0
theorem cmpInt_any (x y : Int) (w : World) : Calls Tryz.prog 263 #[.int .i64 x, .int .i64 y] w fun e w' => e = .returned (.int .i64 (cmpI x y)) ∧ w = w' := by
  have hc : cmpI x y = if x < y then -1 else if y < x then 1 else 0 := rfl
  rcases Int.lt_trichotomy x y with h | h | h
  · rw [if_pos h] at hc
    rw [hc]
    clear hc
    go_enter Tryz.func263, Tryz.ntmps263
    go_wp2_with (go_at_call 285; refine (isNaN_any _ _).mono ?_; rintro e w' ⟨rfl, rfl⟩)
    go_ret
    exact ⟨rfl, rfl⟩
  · subst h
    rw [if_neg (by omega), if_neg (by omega)] at hc
    rw [hc]
    clear hc
    go_enter Tryz.func263, Tryz.ntmps263
    go_wp2_with (go_at_call 285; refine (isNaN_any _ _).mono ?_; rintro e w' ⟨rfl, rfl⟩)
    go_ret
    exact ⟨rfl, rfl⟩
  · rw [if_neg (by omega), if_pos h] at hc
    rw [hc]
    clear hc
    have h2 : ¬ x < y := by omega
    go_enter Tryz.func263, Tryz.ntmps263
    go_wp2_with (go_at_call 285; refine (isNaN_any _ _).mono ?_; rintro e w' ⟨rfl, rfl⟩)
    go_ret
    exact ⟨rfl, rfl⟩
theorem ints_get {w : World} {A : Option Addr} {xs : List Int} (hA : ∀ k x, xs[k]? = some x → ∃ b off, A = some ⟨b, off, none⟩ ∧ w.cell? ⟨b, off + k, none⟩ = some (.int .i64 x)) {k : Nat} (hk : k < xs.length) : ∃ x b off, xs[k]? = some x ∧ A = some ⟨b, off, none⟩ ∧ w.cell? ⟨b, off + k, none⟩ = some (.int .i64 x) := by
  obtain ⟨x, hx⟩ := getx xs k hk
  obtain ⟨b, off, h1, h2⟩ := hA k x hx
  exact ⟨x, b, off, hx, h1, h2⟩
theorem sortedB_iff {c : List Int} : sortedB c = true ↔ ∀ i, i + 1 < c.length → c.getD i 0 ≤ c.getD (i + 1) 0 := by
  unfold sortedB
  rw [List.all_eq_true]
  constructor
  · intro h i hi
    have := h i (List.mem_range.2 (by omega))
    simpa using this
  · intro h i hi
    have := List.mem_range.1 hi
    simpa using h i (by omega)
theorem sortedB_no {c : List Int} {i : Nat} {x y : Int} (hx : c[i]? = some x) (hy : c[i + 1]? = some y) (h : y < x) : sortedB c = false := by
  rw [Bool.eq_false_iff]
  intro hc
  have := sortedB_iff.1 hc i (lt_of_get hy)
  rw [getD_of hx, getD_of hy] at this
  omega
theorem isSorted_any (v : Value) (xs : List Int) (w : World) (h : IntS w v xs) :
    Calls Tryz.prog 228 #[v] w fun e w' => e = .returned (.bool (sortedB xs)) ∧ Below w.heap.size w w' := by
  obtain ⟨A, c, rfl, hlc, hm, hA⟩ := h
  unfold maxLen at hm
  have HA := Lib.hid hA
  clear hA
  go_enter Tryz.func228, Tryz.ntmps228
  go_wp2
  go_loopw [3] (fun i wr => ∃ k : Int, -1 ≤ k ∧ k < xs.length ∧ i = .int .i64 k ∧ (∀ i : Nat, k ≤ i → i + 1 < xs.length → xs.getD i 0 ≤ xs.getD (i + 1) 0) ∧ Below w.heap.size w wr) (fun i _ => (intOf i + 1).toNat)
  case atStart => exact ⟨_, by omega, by omega, rfl, fun i h1 h2 => by omega, Below.refl _ _⟩
  case round =>
    obtain ⟨k, hk1, hk2, rfl, hall, hb⟩ := hrel
    have Hall := Lib.hid hall
    have Hb := Lib.hid hb
    clear hall hb
    by_cases hpos : k > 0
    · obtain ⟨m, hm'⟩ := Int.eq_ofNat_of_zero_le (by omega : 0 ≤ k - 1)
      obtain rfl : k = ((m + 1 : Nat) : Int) := by omega
      clear hm'
      obtain ⟨x, b, off, hx, rfl, hc1⟩ := ints_get HA.out (k := m + 1) (by omega)
      obtain ⟨y, b', off', hy, he, hc2⟩ := ints_get HA.out (k := m) (by omega)
      cases he
      have q1 := have_cell (bc Hb.out hc1)
      have q2 := have_cell (bc Hb.out hc2)
      have Hx := Lib.hid hx
      have Hy := Lib.hid hy
      have hlen : (m : Int) + 1 < xs.length := by have := lt_of_get hx; omega
      have hlen2 : (m : Int) < xs.length := by omega
      have hpm : (0 : Int) ≤ (m : Int) + 1 := by omega
      have wm : IntKind.i64.wrap (m : Int) = (m : Int) := wr64 _ (by omega) (by omega)
      have w1 : IntKind.i64.wrap (((m + 1 : Nat) : Int) - 1) = (m : Int) := by rw [wr64 _ (by omega) (by omega)]; omega
      clear hx hy hc1 hc2
      go_upto_region 4 with (fail)
      refine wp_region_flow 10 (Since wr) (by kernel_rfl) (by kernel_rfl) (by simp) (since_drew (since_refl _)) ?_
      simp only [List.take_succ_cons, List.take_zero, List.drop_succ_cons, List.drop_zero]
      refine flow_val (v := ?_) rfl ?_ ?_; rotate_left; (intro W hW; go_simp; with_reducible rfl)
      simp only [Act.put, List.setIfInBounds_toArray, List.set_cons_succ, List.set_cons_zero]
      refine flow_val (v := ?_) rfl ?_ ?_; rotate_left; (intro W hW; go_simp; with_reducible rfl)
      simp only [Act.put, List.setIfInBounds_toArray, List.set_cons_succ, List.set_cons_zero]
      refine flow_val (v := ?_) rfl ?_ ?_; rotate_left; (intro W hW; go_simp; with_reducible rfl)
      simp only [Act.put, List.setIfInBounds_toArray, List.set_cons_succ, List.set_cons_zero]
      refine flow_val (v := ?_) rfl ?_ ?_; rotate_left; (intro W hW; go_simp; with_reducible rfl)
      simp only [Act.put, List.setIfInBounds_toArray, List.set_cons_succ, List.set_cons_zero]
      refine flow_val (v := ?_) rfl ?_ ?_; rotate_left; (intro W hW; go_simp; with_reducible rfl)
      simp only [Act.put, List.setIfInBounds_toArray, List.set_cons_succ, List.set_cons_zero]
      refine flow_val (v := ?_) rfl ?_ ?_; rotate_left; (intro W hW; go_simp; with_reducible rfl)
      simp only [Act.put, List.setIfInBounds_toArray, List.set_cons_succ, List.set_cons_zero]
      refine flow_val (v := ?_) rfl ?_ ?_; rotate_left; (intro W hW; go_simp; with_reducible rfl)
      simp only [Act.put, List.setIfInBounds_toArray, List.set_cons_succ, List.set_cons_zero]
      refine flow_val (v := ?_) rfl ?_ ?_; rotate_left; (intro W hW; go_simp; with_reducible rfl)
      simp only [Act.put, List.setIfInBounds_toArray, List.set_cons_succ, List.set_cons_zero]
      refine flow_val (v := ?_) rfl ?_ ?_; rotate_left; (intro W hW; go_simp; with_reducible rfl)
      simp only [Act.put, List.setIfInBounds_toArray, List.set_cons_succ, List.set_cons_zero]
      refine flow_op ?_ rfl ?_ ?_; rotate_left; (intro W hW; unfold Gives; go_simp; (with_reducible refine (cmpLess_b _ _ W).mono ?_); rintro e W' ⟨rfl, hb3⟩; first | (refine ⟨?_, Since.trans hW hb3⟩; with_reducible rfl) | (subst hb3; refine ⟨?_, hW⟩; with_reducible rfl))
      simp only [Act.put, List.setIfInBounds_toArray, List.set_cons_succ, List.set_cons_zero]
      intro W5 hW5
      have HW5 := Lib.hid (Hb.out.trans (hW5.mono Hb.out.size))
      clear hW5 q1 q2
      by_cases hlt : x < y
      · have hd : decide (x < y) = true := by simpa using hlt
        go_wp2
        go_ret
        exact ⟨ret_false (sortedB_no Hy.out Hx.out hlt), HW5.out⟩
      · have hd : decide (x < y) = false := by simpa using hlt
        go_wp2
        go_roundw
        case rel =>
          refine ⟨(m : Int), by omega, by omega, by go_num, fun i h1 h2 => ?_, HW5.out⟩
          rcases Int.lt_or_le (m : Int) i with h3 | h3
          · exact Hall.out i (by omega) h2
          · obtain rfl : i = m := by omega
            rw [getD_of Hy.out, getD_of Hx.out]; omega
        case measure => simp [intOf]; omega
    · go_wp2
      go_ret
      exact ⟨ret_true (sortedB_iff.2 fun i hi => Hall.out i (by omega) hi), Hb.out⟩
/-- slices.Compare -/
theorem slicesCompare_any (v u : Value) (xs ys : List Int) (w : World) (h : IntS w v xs) (h' : IntS w u ys) :
    Calls Tryz.prog 229 #[v, u] w fun e w' => e = .returned (.int .i64 (cmpL xs ys)) ∧ Below w.heap.size w w' := by
  obtain ⟨A, c, rfl, hlc, hm, hA⟩ := h
  obtain ⟨A2, c2, rfl, hlc2, hm2, hA2⟩ := h'
  unfold maxLen at hm hm2
  have HA := Lib.hid hA
  have HA2 := Lib.hid hA2
  clear hA hA2
  go_enter Tryz.func229, Tryz.ntmps229
  go_wp2
  go_loop [11] (fun i => ∃ k : Nat, k ≤ xs.length ∧ k ≤ ys.length ∧ i = .int .i64 k ∧ xs.take k = ys.take k) (fun i => xs.length - (intOf i).toNat)
  case atStart => exact ⟨0, Nat.zero_le _, Nat.zero_le _, rfl, by simp⟩
  case round =>
    obtain ⟨k, hk, hk2, rfl, heq⟩ := hrel
    have Heq := Lib.hid heq
    clear heq
    by_cases hlt : k < xs.length
    · obtain ⟨x, b, off, hx, rfl, hc1⟩ := ints_get HA.out hlt
      have Hx := Lib.hid hx
      by_cases hlt2 : k < ys.length
      · obtain ⟨y, b', off', hy, rfl, hc2⟩ := ints_get HA2.out hlt2
        have Hy := Lib.hid hy
        clear hx hy
        by_cases hxy : x = y
        · subst hxy
          have hz : cmpI x x = 0 := by simp [cmpI]
          go_wp2_with (go_at_call 263; refine (cmpInt_any _ _ _).mono ?_; rw [hz]; rintro e w' ⟨rfl, rfl⟩)
          go_round
          case rel => exact ⟨k + 1, by omega, by omega, by go_num, by rw [take_snoc Hx.out, take_snoc Hy.out, Heq.out]⟩
          case measure => simp [intOf]; omega
        · have hr : Hid (cmpL xs ys = cmpI x y) := by
            show _ = _
            rw [cmpL_diff k Heq.out Hx.out Hy.out hxy]
            unfold cmpI
            split
            · rfl
            · rw [if_pos (by omega)]
          obtain ⟨z, hz⟩ : ∃ z, cmpI x y = z := ⟨_, rfl⟩
          have hz0 : z ≠ 0 := by rw [← hz]; unfold cmpI; split; omega; rw [if_pos (by omega)]; omega
          have Hz := Lib.hid hz
          clear hz
          go_wp2_with (go_at_call 263; refine (cmpInt_any _ _ _).mono ?_; rw [Hz.out]; rintro e w' ⟨rfl, rfl⟩)
          go_ret
          exact ⟨ret_int (by rw [hr.out, Hz.out]), Below.refl _ _⟩
      · have hr : Hid (cmpL xs ys = 1) := by
          show _ = _
          obtain rfl : k = ys.length := by omega
          rw [cmpL_drop ys.length Heq.out (by omega) (Nat.le_refl _), List.drop_eq_getElem_cons hlt, List.drop_length]
          rfl
        clear hx
        go_wp2
        go_ret
        exact ⟨ret_int hr.out.symm, Below.refl _ _⟩
    · obtain rfl : k = xs.length := by omega
      by_cases hl2 : xs.length < ys.length
      · have hr : Hid (cmpL xs ys = -1) := by
          show _ = _
          rw [cmpL_drop xs.length Heq.out (Nat.le_refl _) (by omega), List.drop_eq_getElem_cons hl2, List.drop_length]
          rfl
        go_wp2
        go_ret
        exact ⟨ret_int hr.out.symm, Below.refl _ _⟩
      · have hr : Hid (cmpL xs ys = 0) := by
          show _ = _
          rw [cmpL_drop xs.length Heq.out (Nat.le_refl _) (by omega), List.drop_length, List.drop_eq_nil_iff.2 (by omega)]
          rfl
        go_wp2
        go_ret
        exact ⟨ret_int hr.out.symm, Below.refl _ _⟩
/-- a sorted list has all labels of another -/
theorem includes_any (v u : Value) (c l : List Int) (w : World) (h : IntS w v c) (h' : IntS w u l) :
    Calls Tryz.prog 233 #[v, u] w fun e w' => e = .returned (.bool (inclB c l)) ∧ Below w.heap.size w w' := by
  obtain ⟨A, z, rfl, hlc, hm, hA⟩ := h
  obtain ⟨A2, z2, rfl, hlc2, hm2, hA2⟩ := h'
  unfold maxLen at hm hm2
  have HA := Lib.hid hA
  have HA2 := Lib.hid hA2
  clear hA hA2
  go_enter Tryz.func233, Tryz.ntmps233
  go_wp2
  go_loop [5, 10] (fun a i => ∃ k j : Nat, k ≤ c.length ∧ j ≤ l.length ∧ a = .int .i64 k ∧ i = .int .i64 j ∧ inclB c l = inclB (c.drop k) (l.drop j)) (fun _ i => l.length - (intOf i).toNat)
  case atStart => exact ⟨0, 0, Nat.zero_le _, Nat.zero_le _, rfl, rfl, by simp⟩
  case round =>
    obtain ⟨k, j, hk, hj, rfl, rfl, heq⟩ := hrel
    have Heq := Lib.hid heq
    clear heq
    by_cases hlt : j < l.length
    · obtain ⟨a, b2, off2, ha, rfl, hc2⟩ := ints_get HA2.out hlt
      have Ha : Hid (l.drop j = a :: l.drop (j + 1)) := by
        show _ = _
        obtain ⟨h1, h2⟩ := List.getElem?_eq_some_iff.1 ha
        rw [List.drop_eq_getElem_cons h1, h2]
      clear ha
      go_upto_region 5 with (fail)
      go_loop [5] (fun p => ∃ k : Nat, k ≤ c.length ∧ p = .int .i64 k ∧ inclB c l = inclB (c.drop k) (l.drop j)) (fun p => c.length - (intOf p).toNat)
      case atStart => exact ⟨k, hk, rfl, Heq.out⟩
      case round =>
        obtain ⟨k, hk, rfl, heq⟩ := hrel
        have Heq := Lib.hid heq
        clear heq
        by_cases hkc : k < c.length
        · obtain ⟨x, b, off, hx, rfl, hc1⟩ := ints_get HA.out hkc
          have Hx := Lib.hid hx
          clear hx
          by_cases hxa : x < a
          · go_wp2
            go_round
            case rel => exact ⟨k + 1, by omega, by go_num, by rw [Heq.out, Ha.out, incl_skip Hx.out hxa]⟩
            case measure => simp [intOf]; omega
          · by_cases hxe : x = a
            · subst hxe
              go_wp2
              go_round
              case rel => exact ⟨k + 1, j + 1, by omega, by omega, by go_num, by go_num, by rw [Heq.out, Ha.out, incl_hit Hx.out]⟩
              case measure => simp [intOf]; omega
            · have hxe2 : (x != a) = true := by simpa using hxe
              have hkn : ((k : Int) == (c.length : Int)) = false := by simp; omega
              go_wp2
              go_ret
              exact ⟨ret_false (by rw [Heq.out, Ha.out, incl_miss Hx.out (by omega) hxe]), Below.refl _ _⟩
        · obtain rfl : k = c.length := by omega
          go_wp2
          go_ret
          exact ⟨ret_false (by rw [Heq.out, Ha.out, incl_end (Nat.le_refl _)]), Below.refl _ _⟩
    · obtain rfl : j = l.length := by omega
      go_wp2
      go_ret
      exact ⟨ret_true (by rw [Heq.out, List.drop_length]; cases c.drop k <;> rfl), Below.refl _ _⟩
end Go.Proofs.YtomnaabadohecaaGreat
namespace Go.Proofs.YtomnaabadohecaaGreat
open Go.RowKit
/-! lists of configurations -/
def sgnI (x : Int) : Int := if x > 0 then 1 else if x < 0 then -1 else 0
theorem l1Sign_any (x : Int) (w : World) : Calls Tryz.prog 257 #[.int .i64 x] w fun e w' => e = .returned (.int .i64 (sgnI x)) ∧ w = w' := by
  have hc : sgnI x = if x > 0 then 1 else if x < 0 then -1 else 0 := rfl
  rcases Int.lt_trichotomy x 0 with h | h | h
  · have h2 : ¬ x > 0 := by omega
    rw [if_neg h2, if_pos h] at hc
    rw [hc]
    clear hc
    go_enter Tryz.func257, Tryz.ntmps257
    go_wp2
    go_ret
    exact ⟨rfl, rfl⟩
  · subst h
    rw [if_neg (by omega), if_neg (by omega)] at hc
    rw [hc]
    clear hc
    go_enter Tryz.func257, Tryz.ntmps257
    go_wp2
    go_ret
    exact ⟨rfl, rfl⟩
  · have h2 : ¬ x < 0 := by omega
    rw [if_pos h] at hc
    rw [hc]
    clear hc
    go_enter Tryz.func257, Tryz.ntmps257
    go_wp2
    go_ret
    exact ⟨rfl, rfl⟩
theorem prOrder_any (v u : Value) (xs ys : List Int) (w : World) (h : IntS w v xs) (h' : IntS w u ys) (hl : xs.length = ys.length) (hx : ∀ x ∈ xs, -1000 ≤ x ∧ x ≤ 1000) (hy : ∀ y ∈ ys, -1000 ≤ y ∧ y ≤ 1000) :
    Calls Tryz.prog 225 #[v, u] w fun e w' => e = .returned (.int .i64 (cmpL xs ys)) ∧ w = w' := by
  obtain ⟨A, c, rfl, hlc, hm, hA⟩ := h
  obtain ⟨A2, c2, rfl, hlc2, hm2, hA2⟩ := h'
  unfold maxLen at hm hm2
  have HA := Lib.hid hA
  have HA2 := Lib.hid hA2
  have Hl := Lib.hid hl
  have HX := Lib.hid hx
  have HY := Lib.hid hy
  clear hA hA2 hl hx hy
  go_enter Tryz.func225, Tryz.ntmps225
  go_wp2
  go_loop [9] (fun i => ∃ k : Nat, k ≤ xs.length ∧ i = .int .i64 k ∧ xs.take k = ys.take k) (fun i => xs.length - (intOf i).toNat)
  case atStart => exact ⟨0, Nat.zero_le _, rfl, by simp⟩
  case round =>
    obtain ⟨k, hk, rfl, heq⟩ := hrel
    have Heq := Lib.hid heq
    clear heq
    by_cases hlt : k < xs.length
    · obtain ⟨x, b, off, hx, rfl, hc1⟩ := ints_get HA.out hlt
      have Hx := Lib.hid hx
      have hlt2 : k < ys.length := by rw [← Hl.out]; exact hlt
      obtain ⟨y, b', off', hy, rfl, hc2⟩ := ints_get HA2.out hlt2
      have Hy := Lib.hid hy
      clear hx hy
      by_cases hxy : x = y
      · subst hxy
        go_wp2
        go_round
        case rel => exact ⟨k + 1, by omega, by go_num, by rw [take_snoc Hx.out, take_snoc Hy.out, Heq.out]⟩
        case measure => simp [intOf]; omega
      · have hr := Lib.hid (cmpL_diff k Heq.out Hx.out Hy.out hxy)
        have hbx := HX.out x (List.mem_of_getElem? Hx.out)
        have hby := HY.out y (List.mem_of_getElem? Hy.out)
        have w1 : IntKind.i64.wrap (x - y) = x - y := wr64 _ (by omega) (by omega)
        go_wp2_with (go_at_call 257; refine (l1Sign_any _ _).mono ?_; rintro e w' ⟨rfl, rfl⟩)
        go_ret
        refine ⟨ret_int ?_, rfl⟩
        rw [hr.out]
        unfold sgnI
        rcases Int.lt_or_lt_of_ne hxy with h | h
        · rw [if_neg (by omega), if_pos (by omega), if_pos h]
        · rw [if_pos (by omega), if_neg (by omega)]
    · obtain rfl : k = xs.length := by omega
      have hr : Hid (cmpL xs ys = 0) := by
        show _ = _
        rw [cmpL_drop xs.length Heq.out (Nat.le_refl _) (by have := Hl.out; omega), List.drop_length, List.drop_eq_nil_iff.2 (by have := Hl.out; omega)]
        rfl
      go_wp2
      go_ret
      exact ⟨ret_int hr.out.symm, rfl⟩
theorem l1Same_any (v u : Value) (xs ys : List Int) (w : World) (h : IntS w v xs) (h' : IntS w u ys) :
    Calls Tryz.prog 284 #[v, u] w fun e w' => e = .returned (.bool (decide (xs = ys))) ∧ Below w.heap.size w w' := by
  obtain ⟨A, c, rfl, hlc, hm, hA⟩ := h
  obtain ⟨A2, c2, rfl, hlc2, hm2, hA2⟩ := h'
  unfold maxLen at hm hm2
  have HA := Lib.hid hA
  have HA2 := Lib.hid hA2
  clear hA hA2
  by_cases hll : xs.length = ys.length
  · have Hll := Lib.hid hll
    have hll2 : (xs.length : Int) = ys.length := by omega
    clear hll
    go_enter Tryz.func284, Tryz.ntmps284
    go_wp2
    go_loopw [13] (fun i wr => ∃ k : Nat, k ≤ xs.length ∧ i = .int .i64 k ∧ xs.take k = ys.take k ∧ Below w.heap.size w wr) (fun i _ => xs.length - (intOf i).toNat)
    case atStart => exact ⟨0, Nat.zero_le _, rfl, by simp, Below.refl _ _⟩
    case round =>
      obtain ⟨k, hk, rfl, heq, hb⟩ := hrel
      have Heq := Lib.hid heq
      have Hb := Lib.hid hb
      clear heq hb
      by_cases hlt : k < xs.length
      · obtain ⟨x, b, off, hx, rfl, hc1⟩ := ints_get HA.out hlt
        have Hx := Lib.hid hx
        have hlt2 : k < ys.length := by have := Hll.out; omega
        obtain ⟨y, b', off', hy, rfl, hc2⟩ := ints_get HA2.out hlt2
        have Hy := Lib.hid hy
        have k1 := bc Hb.out hc1
        have k2 := bc Hb.out hc2
        clear hx hy hc1 hc2
        by_cases hxy : x = y
        · subst hxy
          go_upto_region 6 with (fail)
          go_region
          have Hb2 := Lib.hid (Below.trans Hb.out (below_drewN (Below.refl w.heap.size wr) 1))
          go_wp2
          go_roundw
          case rel => exact ⟨k + 1, by omega, by go_num, by rw [take_snoc Hx.out, take_snoc Hy.out, Heq.out], Hb2.out⟩
          case measure => simp [intOf]; omega
        · go_upto_region 6 with (fail)
          go_region
          have Hb2 := Lib.hid (Below.trans Hb.out (below_drewN (Below.refl w.heap.size wr) 1))
          go_wp2
          go_ret
          refine ⟨ret_false (decide_eq_false fun e => ?_), Hb2.out⟩
          have h1 := Hx.out
          rw [e, Hy.out] at h1
          exact hxy (Option.some.inj h1).symm
      · obtain rfl : k = xs.length := by omega
        go_wp2
        go_ret
        refine ⟨ret_true (decide_eq_true ?_), Hb.out⟩
        have h1 := Heq.out
        rw [List.take_length, Hll.out, List.take_length] at h1
        exact h1
  · have hll2 : ¬ (xs.length : Int) = ys.length := by omega
    have Hll := Lib.hid hll
    clear hll
    go_enter Tryz.func284, Tryz.ntmps284
    go_wp2
    go_ret
    exact ⟨ret_false (decide_eq_false fun e => Hll.out (by rw [e])), Below.refl _ _⟩
end Go.Proofs.YtomnaabadohecaaGreat
namespace Go.Proofs.YtomnaabadohecaaGreat
open Go.RowKit
theorem rows_get {w : World} {A : Option Addr} {c : Nat} {xss : List (List Int)} (h : IntSS w (.slice A xss.length c) xss) {k : Nat} (hk : k < xss.length) : ∃ xs b off A1 z, xss[k]? = some xs ∧ A = some ⟨b, off, none⟩ ∧ w.cell? ⟨b, off + k, none⟩ = some (.slice A1 xs.length z) ∧ xs.length ≤ z ∧ z ≤ 9223372036854775807 ∧ IntS w (.slice A1 xs.length z) xs := by
  obtain ⟨A', c', e, _, _, hA⟩ := h
  cases e
  obtain ⟨xs, hx⟩ := getx xss k hk
  obtain ⟨b, off, u, hA', h1, hr⟩ := hA k xs hx
  have hr' := hr
  obtain ⟨A1, z, rfl, h2, h3, hA1⟩ := hr
  unfold maxLen at h3
  exact ⟨xs, b, off, A1, z, hx, hA', h1, h2, by omega, hr'⟩
theorem cfg_step {l : List (List Int)} {size labels : Int} {k : Nat} (h : (List.range k).all (cfgAt l size labels) = true) (hk : cfgAt l size labels k = true) : (List.range (k + 1)).all (cfgAt l size labels) = true := by
  rw [range_all_succ, h, hk]; rfl
theorem cfg_prev {l : List (List Int)} {size labels : Int} {k : Nat} {c : List Int} (h : (List.range k).all (cfgAt l size labels) = true) (hk : 0 < k) (hc : l[k - 1]? = some c) : rowB size labels c = true := by
  have := List.all_eq_true.1 h (k - 1) (List.mem_range.2 (by omega))
  unfold cfgAt at this
  rw [Bool.and_eq_true, getD_of hc] at this
  exact this.1
theorem row_bd {size labels : Int} {c : List Int} (h : rowB size labels c = true) (hl : labels ≤ 1000) : (c.length : Int) = size ∧ ∀ x ∈ c, -1000 ≤ x ∧ x ≤ 1000 := by
  unfold rowB at h
  simp only [Bool.and_eq_true, beq_iff_eq] at h
  refine ⟨h.1, fun x hx => ?_⟩
  have := List.all_eq_true.1 h.2.2 x hx
  rw [inB_iff] at this
  omega
set_option maxHeartbeats 4000000 in
theorem prLists_any (v : Value) (l : List (List Int)) (size labels : Int) (w : World) (h : IntSS w v l) (hs : 1 ≤ size ∧ size ≤ 4) (hl : 1 ≤ labels ∧ labels ≤ 8) :
    Calls Tryz.prog 159 #[v, .int .i64 size, .int .i64 labels] w fun e w' => e = .returned (.bool (cfgs l size labels)) ∧ Below w.heap.size w w' := by
  have H := Lib.hid h
  obtain ⟨A, c, rfl, hlc, hm, -⟩ := h
  unfold maxLen at hm
  have wl : IntKind.i64.wrap (labels - 1) = labels - 1 := wr64 _ (by omega) (by omega)
  go_enter Tryz.func159, Tryz.ntmps159
  go_wp2
  go_loopw [12] (fun i wr => ∃ k : Nat, k ≤ l.length ∧ i = .int .i64 k ∧ (List.range k).all (cfgAt l size labels) = true ∧ Below w.heap.size w wr) (fun i _ => l.length - (intOf i).toNat)
  case atStart => exact ⟨0, Nat.zero_le _, rfl, rfl, Below.refl _ _⟩
  case round =>
    obtain ⟨k, hk, rfl, hall, hb⟩ := hrel
    have Hall := Lib.hid hall
    have Hb := Lib.hid hb
    clear hall hb
    by_cases hlt : k < l.length
    · obtain ⟨x, b, off, A1, z, hx, rfl, hc1, hz1, hz2, hxs⟩ := rows_get H.out hlt
      replace hc1 := bc Hb.out hc1
      have Hx := Lib.hid hx
      have Hx0 := Lib.hid hxs
      have Hxs := Lib.hid (hxs.keep Hb.out)
      obtain ⟨_, _, e1, _, _, hxc⟩ := id hxs
      cases e1
      have Hxc := Lib.hid hxc
      clear hx hxs hxc
      have hcf : Hid (cfgAt l size labels k = (((x.length : Int) == size) && (sortedB x && allB x 0 (labels - 1)) && (k == 0 || decide (cmpL (l.getD (k - 1) []) x < 0)))) := by show _ = _; unfold cfgAt rowB; rw [getD_of Hx.out]
      by_cases hlen : (x.length : Int) = size
      · cases hab : allB x 0 (labels - 1)
        · have Hab := Lib.hid hab
          go_wp2_with (go_at_call 147; refine (l1All_b _ x 0 (labels - 1) _ Hxs.out).mono ?_; rw [Hab.out]; rintro e w1 ⟨rfl, rfl⟩)
          go_ret
          exact ⟨ret_false (cfgs_no hlt (by rw [hcf.out, Hab.out]; simp)), Hb.out⟩
        · have Hab := Lib.hid hab
          clear hab
          have hp : k = 0 ∨ ∃ y b' off' A2 z2, l[k - 1]? = some y ∧ (some ⟨b, off, none⟩ : Option Addr) = some ⟨b', off', none⟩ ∧ wr.cell? ⟨b', off' + (k - 1), none⟩ = some (.slice A2 y.length z2) ∧ y.length ≤ z2 ∧ z2 ≤ 9223372036854775807 ∧ IntS wr (.slice A2 y.length z2) y ∧ 0 < k := by
            rcases Nat.eq_zero_or_pos k with h0 | h0
            · exact .inl h0
            · obtain ⟨y, b', off', A2, z2, g1, g2, g3, g4, g5, g6⟩ := rows_get (H.out.keep Hb.out) (k := k - 1) (by omega)
              exact .inr ⟨y, b', off', A2, z2, g1, g2, g3, g4, g5, g6, h0⟩
          rcases hp with h0 | ⟨y, b', off', A2, z2, hy, he, hc2, hy1, hy2, hys, hk0⟩
          case' inl =>
            have Hg : Hid ((k == 0 || decide (cmpL (l.getD (k - 1) []) x < 0)) = true) := by show _ = _; rw [h0]; rfl
            have hkn : ¬ (k : Int) > 0 := by omega
            clear h0
            go_upto_region 6 with (go_at_call 147; refine (l1All_b _ x 0 (labels - 1) _ Hxs.out).mono ?_; rw [Hab.out]; rintro e w1 ⟨rfl, rfl⟩)
          case' inr =>
            cases he
            have Hys := Lib.hid hys
            have Hpr := Lib.hid (row_bd (cfg_prev Hall.out hk0 hy) (by omega))
            have Hxb : Hid (∀ q ∈ x, -1000 ≤ q ∧ q ≤ 1000) := fun q hq => by have := inB_iff.1 (List.all_eq_true.1 Hab.out q hq); omega
            have Hel : Hid (y.length = x.length) := by have := Hpr.out.1; exact show _ = _ by omega
            have wk : IntKind.i64.wrap ((k : Int) - 1) = ((k - 1 : Nat) : Int) := by rw [wr64 _ (by omega) (by omega)]; omega
            obtain ⟨cv, hcv⟩ : ∃ cv, cmpL y x = cv := ⟨_, rfl⟩
            have Hcv := Lib.hid hcv
            have Hy := Lib.hid hy
            clear hy hys hcv
            by_cases hneg : cv ≥ 0
            · go_wp2_with (first | (go_at_call 147; refine (l1All_b _ x 0 (labels - 1) _ Hxs.out).mono ?_; rw [Hab.out]; rintro e w1 ⟨rfl, rfl⟩) | (go_at_call 225; refine (prOrder_any _ _ y x _ Hys.out Hxs.out Hel.out Hpr.out.2 Hxb.out).mono ?_; rw [Hcv.out]; rintro e w1 ⟨rfl, rfl⟩))
              go_ret
              exact ⟨ret_false (cfgs_no hlt (by rw [hcf.out, getD_of Hy.out, Hcv.out]; simp; omega)), Hb.out⟩
            have Hg : Hid ((k == 0 || decide (cmpL (l.getD (k - 1) []) x < 0)) = true) := by show _ = _; rw [getD_of Hy.out, Hcv.out]; simp; omega
            go_upto_region 6 with (first | (go_at_call 147; refine (l1All_b _ x 0 (labels - 1) _ Hxs.out).mono ?_; rw [Hab.out]; rintro e w1 ⟨rfl, rfl⟩) | (go_at_call 225; refine (prOrder_any _ _ y x _ Hys.out Hxs.out Hel.out Hpr.out.2 Hxb.out).mono ?_; rw [Hcv.out]; rintro e w1 ⟨rfl, rfl⟩))
          all_goals
            have hcf2 := Lib.hid hcf.out
            rw [Hg.out, Hab.out] at hcf2
            clear hc1
            try clear hc2 hy1 hy2 wk hk0
            go_wp2
            go_loopw [9] (fun i ws => ∃ j : Nat, 1 ≤ j ∧ i = .int .i64 j ∧ (∀ q, q + 1 < j → q + 1 < x.length → x.getD q 0 ≤ x.getD (q + 1) 0) ∧ Below w.heap.size w ws) (fun i _ => x.length - (intOf i).toNat)
            case atStart => exact ⟨1, Nat.le_refl _, rfl, fun q h => by omega, Hb.out⟩
            case round =>
              obtain ⟨j, hj1, rfl, hso, hb⟩ := hrel
              have Hso := Lib.hid hso
              have Hb2 := Lib.hid hb
              have Hj1 := Lib.hid hj1
              clear hso hb
              by_cases hjl : (j : Int) < size
              · obtain ⟨m, rfl⟩ : ∃ m, j = m + 1 := ⟨j - 1, by omega⟩
                obtain ⟨p, bp, op, hp, rfl, hp1⟩ := ints_get Hxc.out (k := m) (by omega)
                obtain ⟨q, bq, oq, hq, he, hq1⟩ := ints_get Hxc.out (k := m + 1) (by omega)
                cases he
                have k1 := have_cell (bc Hb2.out hp1)
                have k2 := have_cell (bc Hb2.out hq1)
                have wj : IntKind.i64.wrap (((m + 1 : Nat) : Int) - 1) = (m : Int) := by rw [wr64 _ (by omega) (by omega)]; omega
                have wm : IntKind.i64.wrap (m : Int) = (m : Int) := wr64 _ (by omega) (by omega)
                have hm1 : (m : Int) < size := by omega
                have hm2 : (m : Int) + 1 < size := by omega
                have hm3 : (0 : Int) ≤ (m : Int) + 1 := by omega
                have Hp := Lib.hid hp
                have Hq := Lib.hid hq
                clear hp hq hp1 hq1
                go_upto_region 9 with (fail)
                refine wp_region_flow 10 (Since wr) (by kernel_rfl) (by kernel_rfl) (by simp) (since_drew (since_refl _)) ?_
                simp only [List.take_succ_cons, List.take_zero, List.drop_succ_cons, List.drop_zero]
                refine flow_val (v := ?_) rfl ?_ ?_; rotate_left; (intro W hW; go_simp; with_reducible rfl)
                simp only [Act.put, List.setIfInBounds_toArray, List.set_cons_succ, List.set_cons_zero]
                refine flow_val (v := ?_) rfl ?_ ?_; rotate_left; (intro W hW; go_simp; with_reducible rfl)
                simp only [Act.put, List.setIfInBounds_toArray, List.set_cons_succ, List.set_cons_zero]
                refine flow_val (v := ?_) rfl ?_ ?_; rotate_left; (intro W hW; go_simp; with_reducible rfl)
                simp only [Act.put, List.setIfInBounds_toArray, List.set_cons_succ, List.set_cons_zero]
                refine flow_val (v := ?_) rfl ?_ ?_; rotate_left; (intro W hW; go_simp; with_reducible rfl)
                simp only [Act.put, List.setIfInBounds_toArray, List.set_cons_succ, List.set_cons_zero]
                refine flow_val (v := ?_) rfl ?_ ?_; rotate_left; (intro W hW; go_simp; with_reducible rfl)
                simp only [Act.put, List.setIfInBounds_toArray, List.set_cons_succ, List.set_cons_zero]
                refine flow_val (v := ?_) rfl ?_ ?_; rotate_left; (intro W hW; go_simp; with_reducible rfl)
                simp only [Act.put, List.setIfInBounds_toArray, List.set_cons_succ, List.set_cons_zero]
                refine flow_val (v := ?_) rfl ?_ ?_; rotate_left; (intro W hW; go_simp; with_reducible rfl)
                simp only [Act.put, List.setIfInBounds_toArray, List.set_cons_succ, List.set_cons_zero]
                refine flow_val (v := ?_) rfl ?_ ?_; rotate_left; (intro W hW; go_simp; with_reducible rfl)
                simp only [Act.put, List.setIfInBounds_toArray, List.set_cons_succ, List.set_cons_zero]
                refine flow_val (v := ?_) rfl ?_ ?_; rotate_left; (intro W hW; go_simp; with_reducible rfl)
                simp only [Act.put, List.setIfInBounds_toArray, List.set_cons_succ, List.set_cons_zero]
                refine flow_val (v := ?_) rfl ?_ ?_; rotate_left; (intro W hW; go_simp; with_reducible rfl)
                simp only [Act.put, List.setIfInBounds_toArray, List.set_cons_succ, List.set_cons_zero]
                intro W5 hW5
                have HW5 := Lib.hid (Hb2.out.trans (hW5.mono Hb2.out.size))
                clear hW5 k1 k2
                by_cases hpq : p > q
                · go_wp2
                  go_ret
                  exact ⟨ret_false (cfgs_no hlt (by rw [hcf2.out, sortedB_no Hp.out Hq.out (by omega)]; simp)), HW5.out⟩
                · go_wp2
                  go_roundw
                  case rel =>
                    refine ⟨m + 1 + 1, by omega, by go_num, fun i h1 h2 => ?_, HW5.out⟩
                    rcases Nat.lt_or_ge i m with h3 | h3
                    · exact Hso.out i (by omega) h2
                    · obtain rfl : i = m := by omega
                      rw [getD_of Hp.out, getD_of Hq.out]; omega
                  case measure => simp [intOf]; omega
              · have hok : Hid (cfgAt l size labels k = true) := by
                  show _ = _
                  rw [hcf2.out, sortedB_iff.2 fun i hi => Hso.out i (by omega) hi]
                  simp [hlen]
                go_wp2
                go_roundw
                case rel => exact ⟨k + 1, by omega, by go_num, cfg_step Hall.out hok.out, Hb2.out⟩
                case measure => simp [intOf]; omega
      · have Hlen := Lib.hid hlen
        go_wp2
        go_ret
        exact ⟨ret_false (cfgs_no hlt (by rw [hcf.out]; simp [Hlen.out])), Hb.out⟩
    · obtain rfl : k = l.length := by omega
      go_wp2
      go_ret
      exact ⟨ret_true Hall.out, Hb.out⟩
end Go.Proofs.YtomnaabadohecaaGreat
namespace Go.Proofs.YtomnaabadohecaaGreat
open Go Go.RowKit
/-! A region that draws its order: reads, a call that makes a row of integers, a new variable of type int, a slot for the row. -/
def I1 (W : World) (b : Nat) (x : Int) : Prop := W.heap[b]? = some (.cells #[.int .i64 x] 3)
theorem I1.cells {W : World} {b : Nat} {x : Int} (h : I1 W b x) : W.cell? ⟨b, 0, none⟩ = some (.int .i64 x) ∧ W.frozen? ⟨b, 0, none⟩ = false := by
  unfold I1 at h
  simp [World.cell?, World.frozen?, h]
theorem I1.lt {W : World} {b : Nat} {x : Int} (h : I1 W b x) : b < W.heap.size := (Array.getElem?_eq_some_iff.1 h).1
theorem I1.since {W W' : World} {b : Nat} {x : Int} (h : I1 W b x) (hs : Since W W') : I1 W' b x := (hs.below.block b h.lt).trans h
theorem I1.set {W : World} {b : Nat} {x : Int} (h : I1 W b x) (y : Int) : I1 (W.setCell ⟨b, 0, none⟩ (.int .i64 y)) b y := by
  unfold I1 at *
  simp [World.setCell, Array.getElem?_modify, h]
theorem I1.new (W : World) (x : Int) : I1 (W.alloc (.cells #[.int .i64 x] 3)) W.heap.size x := by
  show (W.heap.push _)[W.heap.size]? = _
  rw [Array.getElem?_push_size]
section
variable {ops : Array Oper}
end
end Go.Proofs.YtomnaabadohecaaGreat
namespace Go.Proofs.YtomnaabadohecaaGreat
open Go.RowKit
set_option maxHeartbeats 4000000 in
theorem configurationsOk_any (v : Value) (l : List (List Int)) (size labels : Int) (w : World) (h : IntSS w v l) (hl : 1 ≤ labels ∧ labels ≤ 8) :
    Calls Tryz.prog 163 #[v, .int .i64 size, .int .i64 labels] w fun e w' => e = .returned (.bool (cfgs l size labels)) ∧ Below w.heap.size w w' := by
  have H := Lib.hid h
  obtain ⟨A, c, rfl, hlc, hm, -⟩ := h
  unfold maxLen at hm
  have wl : IntKind.i64.wrap (labels - 1) = labels - 1 := wr64 _ (by omega) (by omega)
  go_enter Tryz.func163, Tryz.ntmps163
  go_wp2
  go_loopw [11] (fun i wr => ∃ k : Nat, k ≤ l.length ∧ i = .int .i64 k ∧ (List.range k).all (cfgAt l size labels) = true ∧ Below w.heap.size w wr) (fun i _ => l.length - (intOf i).toNat)
  case atStart => exact ⟨0, Nat.zero_le _, rfl, rfl, Below.refl _ _⟩
  case round =>
    obtain ⟨k, hk, rfl, hall, hb⟩ := hrel
    have Hall := Lib.hid hall
    have Hb := Lib.hid hb
    clear hall hb
    by_cases hlt : k < l.length
    · obtain ⟨x, b, off, A1, z, hx, rfl, hc1, hz1, hz2, hxs⟩ := rows_get H.out hlt
      replace hc1 := bc Hb.out hc1
      have Hx := Lib.hid hx
      have HX := Lib.hid (show ∀ X, Since wr X → IntS X (.slice A1 x.length z) x from fun X hX => hxs.keep (Hb.out.trans (hX.mono Hb.out.size)))
      clear hx hxs
      have hcf : Hid (cfgAt l size labels k = (((x.length : Int) == size) && (sortedB x && allB x 0 (labels - 1)) && (k == 0 || decide (cmpL (l.getD (k - 1) []) x < 0)))) := by show _ = _; unfold cfgAt rowB; rw [getD_of Hx.out]
      by_cases hlen : (x.length : Int) = size
      · cases hsb : sortedB x
        · have Hsb := Lib.hid hsb
          clear hsb
          go_wp2_with (go_at_call 228; refine (isSorted_any _ x _ (HX.out _ (since_refl _))).mono ?_; rw [Hsb.out]; rintro e w1 ⟨rfl, hb1⟩)
          go_ret
          exact ⟨ret_false (cfgs_no hlt (by rw [hcf.out, Hsb.out]; simp)), Hb.out.trans (hb1.mono Hb.out.size)⟩
        · have Hsb := Lib.hid hsb
          clear hsb
          cases hab : allB x 0 (labels - 1)
          · have Hab := Lib.hid hab
            clear hab
            go_wp2_with (first | (go_at_call 228; refine (isSorted_any _ x _ (HX.out _ (since_refl _))).mono ?_; rw [Hsb.out]; rintro e w1 ⟨rfl, hb1⟩) | (go_at_call 152; refine (allWithin_b _ x 0 (labels - 1) _ (HX.out _ hb1)).mono ?_; rw [Hab.out]; rintro e w2 ⟨rfl, hb2⟩))
            go_ret
            exact ⟨ret_false (cfgs_no hlt (by rw [hcf.out, Hab.out]; simp)), Hb.out.trans ((Since.trans hb1 hb2).mono Hb.out.size)⟩
          · have Hab := Lib.hid hab
            have Hlen := Lib.hid hlen
            clear hab
            rcases Nat.eq_zero_or_pos k with h0 | h0
            · have hkn : ¬ (k : Int) > 0 := by omega
              have hok : Hid (cfgAt l size labels k = true) := by show _ = _; rw [hcf.out, Hsb.out, Hab.out, h0]; simp [Hlen.out]
              clear h0
              go_wp2_with (first | (go_at_call 228; refine (isSorted_any _ x _ (HX.out _ (since_refl _))).mono ?_; rw [Hsb.out]; rintro e w1 ⟨rfl, hb1⟩) | (go_at_call 152; refine (allWithin_b _ x 0 (labels - 1) _ (HX.out _ hb1)).mono ?_; rw [Hab.out]; rintro e w2 ⟨rfl, hb2⟩))
              have HB2 := Lib.hid (Hb.out.trans ((Since.trans hb1 hb2).mono Hb.out.size))
              clear hb1 hb2
              go_wp2
              go_roundw
              case rel => exact ⟨k + 1, by omega, by go_num, cfg_step Hall.out hok.out, HB2.out⟩
              case measure => simp [intOf]; omega
            · obtain ⟨y, b', off', A2, z2, hy, he, hc2, hy1, hy2, hys⟩ := rows_get H.out (k := k - 1) (by omega)
              cases he
              replace hc2 := bc Hb.out hc2
              have HY := Lib.hid (show ∀ X, Since wr X → IntS X (.slice A2 y.length z2) y from fun X hX => hys.keep (Hb.out.trans (hX.mono Hb.out.size)))
              have Hy := Lib.hid hy
              obtain ⟨cv, hcv⟩ : ∃ cv, cmpL y x = cv := ⟨_, rfl⟩
              have Hcv := Lib.hid hcv
              have wk : IntKind.i64.wrap ((k : Int) - 1) = ((k - 1 : Nat) : Int) := by rw [wr64 _ (by omega) (by omega)]; omega
              have hk1 : k - 1 < l.length := by omega
              have q2 := have_cell hc2
              clear hy hys hcv hc2
              by_cases hneg : cv ≥ 0
              · go_wp2_with (first | (go_at_call 228; refine (isSorted_any _ x _ (HX.out _ (since_refl _))).mono ?_; rw [Hsb.out]; rintro e w1 ⟨rfl, hb1⟩) | (go_at_call 152; refine (allWithin_b _ x 0 (labels - 1) _ (HX.out _ hb1)).mono ?_; rw [Hab.out]; rintro e w2 ⟨rfl, hb2⟩; have hs2 : Since wr w2 := Since.trans hb1 hb2) | (go_at_call 229; refine (slicesCompare_any _ _ y x _ (HY.out _ (Since.trans hb1 hb2)) (HX.out _ (Since.trans hb1 hb2))).mono ?_; rw [Hcv.out]; rintro e w3 ⟨rfl, hb3⟩))
                go_ret
                exact ⟨ret_false (cfgs_no hlt (by rw [hcf.out, getD_of Hy.out, Hcv.out]; simp; omega)), Hb.out.trans ((Since.trans (Since.trans hb1 hb2) hb3).mono Hb.out.size)⟩
              · have hok : Hid (cfgAt l size labels k = true) := by show _ = _; rw [hcf.out, Hsb.out, Hab.out, getD_of Hy.out, Hcv.out]; simp [Hlen.out]; omega
                go_wp2_with (first | (go_at_call 228; refine (isSorted_any _ x _ (HX.out _ (since_refl _))).mono ?_; rw [Hsb.out]; rintro e w1 ⟨rfl, hb1⟩) | (go_at_call 152; refine (allWithin_b _ x 0 (labels - 1) _ (HX.out _ hb1)).mono ?_; rw [Hab.out]; rintro e w2 ⟨rfl, hb2⟩; have hs2 : Since wr w2 := Since.trans hb1 hb2) | (go_at_call 229; refine (slicesCompare_any _ _ y x _ (HY.out _ (Since.trans hb1 hb2)) (HX.out _ (Since.trans hb1 hb2))).mono ?_; rw [Hcv.out]; rintro e w3 ⟨rfl, hb3⟩))
                have HB2 := Lib.hid (Hb.out.trans ((Since.trans (Since.trans hb1 hb2) hb3).mono Hb.out.size))
                clear hb1 hb2 hb3 hs2 q2
                go_wp2
                go_roundw
                case rel => exact ⟨k + 1, by omega, by go_num, cfg_step Hall.out hok.out, HB2.out⟩
                case measure => simp [intOf]; omega
      · have Hlen := Lib.hid hlen
        go_wp2
        go_ret
        exact ⟨ret_false (cfgs_no hlt (by rw [hcf.out]; simp [Hlen.out])), Hb.out⟩
    · obtain rfl : k = l.length := by omega
      go_wp2
      go_ret
      exact ⟨ret_true Hall.out, Hb.out⟩
theorem has_no {l : List (List Int)} {t : List Int} (h : ∀ (k : Nat) (x : List Int), l[k]? = some x → x ≠ t) : l.contains t = false := by
  rw [Bool.eq_false_iff]
  intro hc
  rw [List.contains_iff_mem] at hc
  obtain ⟨k, hk⟩ := List.mem_iff_getElem?.1 hc
  exact h k t hk rfl
theorem prHas_any (v u : Value) (l : List (List Int)) (t : List Int) (w : World) (h : IntSS w v l) (h' : IntS w u t) :
    Calls Tryz.prog 259 #[v, u] w fun e w' => e = .returned (.bool (l.contains t)) ∧ Below w.heap.size w w' := by
  have H := Lib.hid h
  have HT := Lib.hid h'
  obtain ⟨A, c, rfl, hlc, hm, -⟩ := h
  obtain ⟨AT, cT, rfl, -⟩ := h'
  unfold maxLen at hm
  go_enter Tryz.func259, Tryz.ntmps259
  go_wp2
  go_loopw [9] (fun i wr => ∃ k : Nat, k ≤ l.length ∧ i = .int .i64 k ∧ (∀ (q : Nat) (x : List Int), q < k → l[q]? = some x → x ≠ t) ∧ Below w.heap.size w wr) (fun i _ => l.length - (intOf i).toNat)
  case atStart => exact ⟨0, Nat.zero_le _, rfl, fun q x h => by omega, Below.refl _ _⟩
  case round =>
    obtain ⟨k, hk, rfl, hall, hb⟩ := hrel
    have Hall := Lib.hid hall
    have Hb := Lib.hid hb
    clear hall hb
    by_cases hlt : k < l.length
    · obtain ⟨x, b, off, A1, z, hx, rfl, hc1, hz1, hz2, hxs⟩ := rows_get H.out hlt
      replace hc1 := bc Hb.out hc1
      have Hx := Lib.hid hx
      have Hxs := Lib.hid (hxs.keep Hb.out)
      clear hx hxs
      by_cases htx : t = x
      · have Hd := Lib.hid (decide_eq_true htx)
        have Hr : Hid (l.contains t = true) := by show _ = _; rw [List.contains_iff_mem]; exact htx ▸ List.mem_of_getElem? Hx.out
        clear htx
        go_wp2_with (go_at_call 284; refine (l1Same_any _ _ t x _ (HT.out.keep Hb.out) Hxs.out).mono ?_; rw [Hd.out]; rintro e w1 ⟨rfl, hb1⟩)
        go_ret
        exact ⟨ret_true Hr.out, Hb.out.trans (hb1.mono Hb.out.size)⟩
      · have Hd := Lib.hid (decide_eq_false htx)
        have Htx := Lib.hid htx
        clear htx
        go_wp2_with (go_at_call 284; refine (l1Same_any _ _ t x _ (HT.out.keep Hb.out) Hxs.out).mono ?_; rw [Hd.out]; rintro e w1 ⟨rfl, hb1⟩)
        have HB2 := Lib.hid (Hb.out.trans (hb1.mono Hb.out.size))
        clear hb1
        go_wp2
        go_roundw
        case rel =>
          refine ⟨k + 1, by omega, by go_num, fun q y h1 h2 => ?_, HB2.out⟩
          rcases Nat.lt_or_ge q k with h3 | h3
          · exact Hall.out q y h3 h2
          · obtain rfl : q = k := by omega
            have h4 := Hx.out
            rw [h2] at h4
            cases h4
            exact fun e => Htx.out e.symm
        case measure => simp [intOf]; omega
    · obtain rfl : k = l.length := by omega
      go_wp2
      go_ret
      exact ⟨ret_false (has_no fun q x hq => Hall.out q x (lt_of_get hq) hq), Hb.out⟩
end Go.Proofs.YtomnaabadohecaaGreat
namespace Go.Proofs.YtomnaabadohecaaGreat
open Go.RowKit Go.Shelf
attribute [local go_sem] Oper.semAt_some
/-! slices.Sorted(slices.Values(xs)) -/
def encI1 (x : Int) : Array Value := #[.int .i64 x]
set_option maxRecDepth 100000 in
set_option maxHeartbeats 2000000 in
theorem vals1_stops (F : Fence) (n : Nat) (hf : F.fn 299) (hro : F.round = none) (hn : 1 ≤ n) (Bs : Nat) (sv : Value) (xs : List Int) (w : World) (hc : w.cell? ⟨Bs, 0, none⟩ = some sv) (hI : IntS w sv xs) :
    SeqStopsK F n Tryz.prog 299 #[.pointer (some ⟨Bs, 0, none⟩)] encI1 (KeepMid 0 w.heap.size) (fun ys => ys = xs) (fun _ => True) xs.length w := fun l J Jx W hW _ _ hY h0 => by
  have hc' := bc hW hc
  obtain ⟨A, c, rfl, hlc, hm, hA⟩ := hI
  unfold maxLen at hm
  have HA := Lib.hid hA
  have HW := Lib.hid hW
  have HY := Lib.hid hY
  clear hA hW hc hY
  refine callsIn_of_wp Tryz.func299 rfl hf ?_ hro
  simp only [Tryz.ntmps299, List.size_toArray, List.length_cons, List.length_nil, Nat.reduceAdd, Nat.reduceSub, Array.replicate_succ, Array.replicate_zero, List.push_toArray, List.append_toArray, List.nil_append, List.cons_append]
  gi_wp2
  gi_loopw [7] (fun i wr => ∃ k : Nat, k ≤ xs.length ∧ i = .int .i64 k ∧ J (xs.take k) wr ∧ KeepMid 0 w.heap.size W wr) (fun i _ => xs.length - (intOf i).toNat)
  case atStart => exact ⟨0, Nat.zero_le _, rfl, by simpa using h0, KeepMid.refl _ _ _⟩
  case round =>
    obtain ⟨k, hk, rfl, hJs, hnx⟩ := hrel
    have Hnx := Lib.hid hnx
    clear hnx
    by_cases hlt : k < xs.length
    · obtain ⟨x, b, off, hx, rfl, hc1⟩ := ints_get HA.out hlt
      have hbw : b < w.heap.size := World.block_lt_of_cell? w _ hc1
      have hcx : wr.cell? ⟨b, off + k, none⟩ = some (.int .i64 x) := Hnx.out.cell (Nat.zero_le _) hbw (bc HW.out hc1)
      obtain ⟨fn, tmps, assign, body, hy, hR⟩ := HY.out _ x wr hJs (by rw [List.length_take]; omega)
      unfold encI1 at hy
      have Hx := Lib.hid hx
      clear hx hc1
      gi_wp2
      refine hR.mono ?_
      rintro e W3 (⟨rfl, hJ3, hk3⟩ | ⟨rfl, hJx3⟩)
      · gi_wp2
        go_roundw
        case rel => exact ⟨k + 1, by omega, by go_num, by rw [take_snoc Hx.out]; exact hJ3, Hnx.out.t hk3⟩
        case measure => simp [intOf]; omega
      · gi_wp2
        refine bodyPost_ret (results_none rfl _ _ _) rfl ?_
        exact ⟨⟨_, rfl⟩, .inr ⟨_, trivial, hJx3⟩⟩
    · obtain rfl : k = xs.length := by omega
      rw [List.take_length] at hJs
      gi_wp2
      go_end0
      exact ⟨⟨_, rfl⟩, .inl ⟨_, rfl, hJs⟩⟩
set_option maxHeartbeats 1000000 in
theorem values_in (n : Nat) (A : Option Addr) (k c : Nat) (w : World) :
    CallsIn Fence.wide n Tryz.prog 288 #[.slice A k c] w fun e w' => e = .returned (.func (.func 299) #[] #[.pointer (some ⟨w.heap.size, 0, none⟩)]) ∧ w' = w.alloc (.cells #[.slice A k c] 24) := by
  refine callsIn_of_wp Tryz.func288 rfl trivial ?_ rfl
  simp only [Tryz.ntmps288, List.size_toArray, List.length_cons, List.length_nil, Nat.reduceAdd, Nat.reduceSub, Array.replicate_succ, Array.replicate_zero, List.push_toArray, List.append_toArray, List.nil_append, List.cons_append]
  gi_wp2
  go_ret
  exact ⟨rfl, rfl⟩
/-- between two rounds of AppendSeq -/
def SInv (b0 : Nat) (w : World) (pre : List Int) (W : World) : Prop :=
  (∃ v, Boxed W b0 24 v ∧ Own W (b0 + 1) v pre) ∧ Below b0 w W ∧ b0 + 1 ≤ W.heap.size
theorem sinv_own (b0 : Nat) (w : World) (hb : b0 ≤ w.heap.size) (B : Nat) (hB : b0 ≤ B) : OwnFrom B (SInv b0 w) := by
  refine OwnFrom.and ?_ (OwnFrom.and (ownFrom_below hb hB) (fun _ _ _ _ hs hg _ => Nat.le_trans hs hg.size))
  have := _root_.Go.Own.from (holdsRow_own (β := List Int) (b0 + 1) b0 24 3 1 (fun pre => pre.length) (fun pre => pre.map (Value.int .i64)) (fun _ _ => True)) B
  intro s W W' row hs hg hr
  obtain ⟨v, h1, h2⟩ := hs
  obtain ⟨v', h1', h2', _⟩ := this s W W' row ⟨v, h1, h2, trivial⟩ hg hr
  exact ⟨v', h1', h2'⟩
theorem sinv_step {b0 g' c' : Nat} {w W w2 : World} {pre : List Int} {x : Int} {v : Value} {o : Obj}
    (hb2 : Boxed W b0 24 v) (hown : Own W (b0 + 1) v pre) (hB : Below b0 w W) (hsz : b0 + 1 ≤ W.heap.size)
    (hown2 : Own w2 (b0 + 1) (.slice (some ⟨g', 0, none⟩) (pre.length + 1) c') (pre ++ [x])) (hgr : (W.alloc o).grownBy w2 v.ownBlock) :
    Boxed w2 b0 24 v ∧ KeepsFrom (b0 + 1) W (w2.setCell ⟨b0, 0, none⟩ (.slice (some ⟨g', 0, none⟩) (pre.length + 1) c')) ∧
      KeepMid 0 b0 W (w2.setCell ⟨b0, 0, none⟩ (.slice (some ⟨g', 0, none⟩) (pre.length + 1) c')) ∧
      SInv b0 w (pre ++ [x]) (w2.setCell ⟨b0, 0, none⟩ (.slice (some ⟨g', 0, none⟩) (pre.length + 1) c')) := by
  have hlt : ∀ k, v.ownBlock = some k → b0 + 1 ≤ k := fun k hk => (World.ownsRow.lt hown k hk).1
  have hne0 : some b0 ≠ v.ownBlock := fun e => by have := hlt b0 e.symm; omega
  have k2 : Boxed w2 b0 24 v := (hb2.alloc o).kept hgr hne0
  have hg := hown2.blk
  have k3 := (k2.set (.slice (some ⟨g', 0, none⟩) (pre.length + 1) c'))
  have o3 : Own (w2.setCell ⟨b0, 0, none⟩ (.slice (some ⟨g', 0, none⟩) (pre.length + 1) c')) (b0 + 1) (.slice (some ⟨g', 0, none⟩) (pre.length + 1) c') (pre ++ [x]) :=
    World.ownsRow.kept hown2 (grownBy_setCell' w2 b0 _) (.inr (by simp [Value.ownBlock]; omega))
  have hblk : ∀ k, k < W.heap.size → k ≠ b0 → v.ownBlock ≠ some k → (w2.setCell ⟨b0, 0, none⟩ (.slice (some ⟨g', 0, none⟩) (pre.length + 1) c')).heap[k]? = W.heap[k]? := by
    intro k hk h1 h3
    rw [Below.heap_setCell _ _ _ k h1, hgr.block k (by show k < (W.alloc o).heap.size; simp; omega) (fun e => h3 e.symm)]
    exact Below.heap_alloc W o k hk
  have hsz2 : W.heap.size ≤ (w2.setCell ⟨b0, 0, none⟩ (.slice (some ⟨g', 0, none⟩) (pre.length + 1) c')).heap.size := by
    have := hgr.size
    simp [World.setCell] at *
    omega
  refine ⟨k2, ⟨hsz2, ?_⟩, ⟨hsz2, fun k h1 h2 => hblk k (by omega) (by omega) (fun e => by have := hlt k e; omega)⟩, ⟨_, k3, o3⟩, ?_, by omega⟩
  · intro k o' hk hko hc
    refine (hblk k (Array.getElem?_eq_some_iff.1 hko).1 (by omega) (fun e => ?_)).trans hko
    rcases hown.2 with ⟨rfl, _⟩ | ⟨gg, cap, cur, rfl, _, hgg, _⟩
    · simp [Value.ownBlock] at e
    · simp only [Value.ownBlock, Option.some.injEq] at e
      subst e
      rw [hgg] at hko
      cases hko
      simp [Obj.isCells] at hc
  · refine hB.trans ⟨?_, ?_, ?_, hsz2, fun k hk => hblk k (by have := hB.size; omega) (by omega) (fun e => by have := hlt k e; omega)⟩
    · exact hgr.os
    · exact hgr.tape
    · exact hgr.output
set_option maxRecDepth 100000 in
set_option maxHeartbeats 2000000 in
theorem appSeq_in (n : Nat) (hn : 3 ≤ n) (Bs : Nat) (sv : Value) (xs : List Int) (w : World) (hc : w.cell? ⟨Bs, 0, none⟩ = some sv) (hI : IntS w sv xs) (hl : xs.length ≤ 1000) :
    CallsIn Fence.wide n Tryz.prog 304 #[.slice none 0 0, .func (.func 299) #[] #[.pointer (some ⟨Bs, 0, none⟩)]] w fun e W' => ∃ v, e = .returned v ∧ Own W' w.heap.size v xs ∧ Below w.heap.size w W' := by
  have hn1 : 1 ≤ n := by omega
  refine callsIn_of_wp_marks Tryz.func304 rfl trivial ?_ rfl
  simp only [Tryz.ntmps304, List.size_toArray, List.length_cons, List.length_nil, Nat.reduceAdd, Nat.reduceSub, Array.replicate_succ, Array.replicate_zero, List.push_toArray, List.append_toArray, List.nil_append, List.cons_append]
  have Hc := Lib.hid hc
  have HI := Lib.hid hI
  clear hc hI
  gi_wp2
  have hW0 : (w.alloc (.cells #[.slice none 0 0] 24)).heap.size = w.heap.size + 1 := by simp
  refine wpIn_rangeFunc_ownG rfl hn1 (gf := 299) (lb := #[.pointer (some ⟨Bs, 0, none⟩)]) rfl trivial (enters_of Tryz.func299 (by kernel_rfl) rfl)
    (vals1_stops Fence.wide (n - 1) trivial rfl (by omega) Bs sv xs w Hc.out HI.out) KeepMid.t (KeepMid.b (by simp)) (below_alloc _ _) (fun _ => rfl)
    (SInv w.heap.size w)
    (fun _ _ _ => False)
    (sinv_own w.heap.size w (Nat.le_refl _) _ (by simp))
    (fun _ _ _ _ _ hs _ _ => hs)
    ⟨⟨_, Boxed.new w _ _, own_nil _ _⟩, below_alloc _ _, by simp⟩
    (fun x => { tmps := #[.slice none 0 0, .func (.func 299) #[] #[.pointer (some ⟨Bs, 0, none⟩)], .pointer (some ⟨w.heap.size, 0, none⟩), undef, .slice none 0 0, .int .i64 x, .func (.func 299) #[] #[.pointer (some ⟨Bs, 0, none⟩)], .int .i64 x, undef, undef, undef, undef, undef], defers := [] }) ?assign ?body ?done ?stop
  case assign =>
    intro l x W K hK
    unfold encI1
    gi_wp2
    exact hK
  case body =>
    rintro lr pre x W ⟨⟨v, hb2, hown⟩, hB, hszW⟩ hlt
    obtain ⟨g', c', w2, hrun, hown2, hgr2, hg2⟩ := app1 (w := W.alloc (.cells #[.int .i64 x] 3)) (hown.keep (below_alloc W _)) x 24 W.heap.size (by simp) (by omega) (by simp; omega)
    have hc2 := hb2.cell
    obtain ⟨k2, s1, s2, s3⟩ := sinv_step hb2 hown hB hszW hown2 hgr2
    have hd2 := k2.cell
    have hf2 := k2.frozen
    have hres : AppRes Tryz.prog 24 v (Value.slice (some { block := W.heap.size, off := 0 }) 1 1) (W.alloc (Obj.cells #[Value.int IntKind.i64 x] 3)) = .ok (.value (Value.slice (some { block := g', off := 0 }) (pre.length + 1) c')) w2 := by unfold AppRes; rw [hrun]; rfl
    have s0 := s1
    rw [← hW0] at s0
    clear hrun hb2 hown hB hown2 hgr2 hg2 k2 s1 hW0
    generalize hpn : pre.length = pn at *
    gi_wp2_with (gi_at_builtin; refine wpListIn_res (.tmp 8) (.tmp 10) rfl rfl _ w2 hres ?_)
    exact ⟨s0, s2, s3⟩
  case done =>
    rintro D ys W hD rfl ⟨⟨v, hb2, hown⟩, hB, hszW⟩ hK
    simp only [hW0] at hD
    have hc2 := hb2.cell
    have HO := Lib.hid hown
    have HB := Lib.hid hB
    have HK := Lib.hid hK
    have Hb2 := Lib.hid hb2
    clear hown hB hK hb2
    gi_wp2
    refine ⟨by simp, .inl ⟨_, _, rfl, run_takeDeferred HK.out, ?_⟩⟩
    exact ⟨_, results_tmp rfl _ _ _, v, rfl, own_putObj (HO.out.mono (by omega)) _ HK.out rfl, HB.out.trans (belowK_b (w := w) (Nat.le_refl _) W D _ _ (by omega) HK.out rfl rfl)⟩
  case stop =>
    rintro D c pre W _ _ h _
    exact h.elim
theorem collect_in (n : Nat) (hn : 4 ≤ n) (Bs : Nat) (sv : Value) (xs : List Int) (w : World) (hc : w.cell? ⟨Bs, 0, none⟩ = some sv) (hI : IntS w sv xs) (hl : xs.length ≤ 1000) :
    CallsIn Fence.wide n Tryz.prog 298 #[.func (.func 299) #[] #[.pointer (some ⟨Bs, 0, none⟩)]] w fun e W' => ∃ v, e = .returned v ∧ Own W' w.heap.size v xs ∧ Below w.heap.size w W' := by
  have Hc := Lib.hid hc
  have HI := Lib.hid hI
  clear hc hI
  have hn1 : 1 ≤ n := by omega
  refine callsIn_of_wp Tryz.func298 rfl trivial ?_ rfl
  simp only [Tryz.ntmps298, List.size_toArray, List.length_cons, List.length_nil, Nat.reduceAdd, Nat.reduceSub, Array.replicate_succ, Array.replicate_zero, List.push_toArray, List.append_toArray, List.nil_append, List.cons_append]
  gi_wp2_with (refine ⟨trivial, ?_⟩; gi_at_call 304; refine (appSeq_in (n - 1) (by omega) Bs sv xs _ Hc.out HI.out hl).mono ?_; rintro e w1 ⟨v, rfl, ho, hb⟩)
  go_ret
  exact ⟨_, rfl, ho, hb⟩
theorem sorted_in (n : Nat) (hn : 5 ≤ n) (Bs : Nat) (sv : Value) (xs : List Int) (w : World) (hc : w.cell? ⟨Bs, 0, none⟩ = some sv) (hI : IntS w sv xs) (hl : xs.length ≤ 1000) :
    CallsIn Fence.wide n Tryz.prog 287 #[.func (.func 299) #[] #[.pointer (some ⟨Bs, 0, none⟩)]] w fun e W' => ∃ v, e = .returned v ∧ Own W' w.heap.size v (sortI xs) ∧ Below w.heap.size w W' := by
  have Hc := Lib.hid hc
  have HI := Lib.hid hI
  clear hc hI
  have hn1 : 1 ≤ n := by omega
  refine callsIn_of_wp Tryz.func287 rfl trivial ?_ rfl
  simp only [Tryz.ntmps287, List.size_toArray, List.length_cons, List.length_nil, Nat.reduceAdd, Nat.reduceSub, Array.replicate_succ, Array.replicate_zero, List.push_toArray, List.append_toArray, List.nil_append, List.cons_append]
  gi_wp2_with (refine ⟨trivial, ?_⟩; gi_at_call 298; refine (collect_in (n - 1) (by omega) Bs sv xs _ Hc.out HI.out hl).mono ?_; rintro e w1 ⟨v, rfl, ho, hb⟩)
  have Ho := Lib.hid ho
  have Hb := Lib.hid hb
  clear ho hb
  gi_wp2_with (refine ⟨trivial, (callsIn_wide.2 (sort_any _ xs _ _ Ho.out (by omega))).mono ?_⟩; rintro e w2 ⟨rfl, ho2, hg2⟩)
  go_ret
  exact ⟨_, rfl, ho2, Hb.out.grown hg2 Hb.out.size (fun k e => (World.ownsRow.lt Ho.out k e).1)⟩
end Go.Proofs.YtomnaabadohecaaGreat
namespace Go.Proofs.YtomnaabadohecaaGreat
open Go.RowKit
/-! insertion by swaps -/
def InsInv (orig l : List Int) (i k : Nat) : Prop := ∃ (A : List Int) (x : Int) (B C : List Int), l = A ++ x :: (B ++ C) ∧ A.length = k ∧ A.length + B.length = i ∧ (A ++ B).Pairwise (· ≤ ·) ∧ (∀ b ∈ B, x ≤ b) ∧ l.Perm orig
def SortedTo (orig l : List Int) (i : Nat) : Prop := (l.take i).Pairwise (· ≤ ·) ∧ l.Perm orig
theorem ins_start {orig l : List Int} {i : Nat} (h : SortedTo orig l i) (hi : i < l.length) : InsInv orig l i i := by
  refine ⟨l.take i, l[i], [], l.drop (i + 1), ?_, by simp; omega, by simp; omega, by simpa using h.1, by simp, h.2⟩
  rw [List.nil_append, ← List.drop_eq_getElem_cons hi, List.take_append_drop]
theorem pairwise_mid {A B : List Int} {x : Int} (h : (A ++ B).Pairwise (· ≤ ·)) (ha : ∀ a ∈ A, a ≤ x) (hb : ∀ b ∈ B, x ≤ b) : (A ++ x :: B).Pairwise (· ≤ ·) := by
  rw [List.pairwise_append] at h ⊢
  refine ⟨h.1, List.pairwise_cons.2 ⟨hb, h.2.1⟩, ?_⟩
  intro a ha' b hb'
  rcases List.mem_cons.1 hb' with rfl | hb'
  · exact ha a ha'
  · exact h.2.2 a ha' b hb'
theorem ins_done {orig l : List Int} {i k : Nat} (h : InsInv orig l i k) (hk : k = 0 ∨ ∃ y x, l[k - 1]? = some y ∧ l[k]? = some x ∧ y ≤ x) : SortedTo orig l (i + 1) := by
  obtain ⟨A, x, B, C, rfl, h1, h2, h3, h4, h5⟩ := h
  refine ⟨?_, h5⟩
  have e : (A ++ x :: (B ++ C)).take (i + 1) = A ++ x :: B := by
    rw [show A ++ x :: (B ++ C) = (A ++ x :: B) ++ C by simp, List.take_append_of_le_length (by simp; omega), List.take_of_length_le (by simp; omega)]
  rw [e]
  refine pairwise_mid h3 ?_ h4
  intro a ha
  rcases hk with hk | ⟨y, z, hy, hz, hyz⟩
  · obtain rfl : A = [] := List.eq_nil_of_length_eq_zero (by omega)
    simp at ha
  · have hz' : z = x := by
      rw [List.getElem?_append_right (by omega), ← h1] at hz
      simpa using hz.symm
    subst hz'
    obtain ⟨j, hj, rfl⟩ := List.mem_iff_getElem.1 ha
    have hA : A.Pairwise (· ≤ ·) := (List.pairwise_append.1 h3).1
    rw [List.getElem?_append_left (by omega)] at hy
    obtain ⟨hl, he⟩ := List.getElem?_eq_some_iff.1 hy
    rcases Nat.lt_or_ge j (k - 1) with hlt | hge
    · have := List.pairwise_iff_getElem.1 hA j (k - 1) hj hl hlt
      omega
    · obtain rfl : j = k - 1 := by omega
      omega
theorem ins_swap {orig l : List Int} {i k : Nat} {x y : Int} (h : InsInv orig l i (k + 1)) (hy : l[k]? = some y) (hx : l[k + 1]? = some x) (hyx : x < y) : InsInv orig ((l.set (k + 1) y).set k x) i k := by
  obtain ⟨A, x', B, C, rfl, h1, h2, h3, h4, h5⟩ := h
  have hx' : x' = x := by
    rw [List.getElem?_append_right (by omega), ← h1] at hx
    simpa using hx
  subst hx'
  rw [List.getElem?_append_left (by omega)] at hy
  obtain ⟨hl, he⟩ := List.getElem?_eq_some_iff.1 hy
  obtain ⟨A', hA⟩ : ∃ A', A = A' ++ [y] := by
    refine ⟨A.take k, ?_⟩
    have : A.take (k + 1) = A := List.take_of_length_le (by omega)
    have e2 := List.take_succ_eq_append_getElem hl
    rw [this, he] at e2
    exact e2
  subst hA
  simp only [List.length_append, List.length_cons, List.length_nil, Nat.zero_add] at h1 h2
  have hk : A'.length = k := by omega
  have e : ((A' ++ [y] ++ x' :: (B ++ C)).set (k + 1) y).set k x' = A' ++ x' :: ((y :: B) ++ C) := by
    rw [show A' ++ [y] ++ x' :: (B ++ C) = A' ++ (y :: x' :: (B ++ C)) by simp, List.set_append_right _ _ (by omega), List.set_append_right _ _ (by omega), hk]
    simp
  rw [e]
  refine ⟨A', x', y :: B, C, rfl, hk, by simp; omega, by simpa using h3, ?_, ?_⟩
  · intro b hb
    rcases List.mem_cons.1 hb with rfl | hb
    · omega
    · exact h4 b hb
  · refine List.Perm.trans ?_ h5
    rw [show A' ++ [y] ++ x' :: (B ++ C) = A' ++ (y :: x' :: (B ++ C)) by simp]
    exact List.Perm.append_left _ (List.Perm.swap _ _ _)
theorem sorted_all {orig l : List Int} (h : SortedTo orig l l.length) : l = sortI orig := by
  have h1 := h.1
  rw [List.take_length] at h1
  exact sort_unique (h.2.trans (sortI_perm _).symm) h1 (sortI_sorted _)
theorem ins_len {orig l : List Int} {i k : Nat} (h : InsInv orig l i k) : l.length = orig.length ∧ k ≤ i ∧ i < l.length := by
  obtain ⟨A, x, B, C, rfl, h1, h2, h3, h4, h5⟩ := h
  refine ⟨h5.length_eq, by omega, by simp; omega⟩
end Go.Proofs.YtomnaabadohecaaGreat
