/- Parts of the proof: walks of functions and plain laws. -/
import Derived.Test.YtomnaabadohecaaGreatP3
import Derived.Test.YtomnaabadohecaaGreatP4
import Derived.Test.YtomnaabadohecaaGreatP2
import Derived.Test.YtomnaabadohecaaGreatP0
import Derived.Lib.SliceRun
import Derived.Laws.EntriesVeiled
import Derived.Test.YtomnaabadohecaaGreatP6
namespace Go.Proofs.YtomnaabadohecaaGreat
/-- the reference's test of identifiers -/
def sIdsB (ids : List Int) (nodes : Int) : Bool := ((List.range ids.length).all fun i => inB 1 999999 (ids.getD i 0) && !((ids.take i).contains (ids.getD i 0))) && ((ids.length : Int) == 0 || (ids.length : Int) == nodes)
theorem getD_of_lt {ids : List Int} {i : Nat} (h : i < ids.length) : ids.getD i 0 = ids[i] := by simp [List.getD_eq_getElem?_getD, h]
theorem takes_nodup (ids : List Int) : (∀ i (h : i < ids.length), ids[i] ∉ ids.take i) ↔ ids.Nodup := by
  unfold List.Nodup
  rw [List.pairwise_iff_getElem]
  constructor
  · intro h i j hi hj hij e
    refine h j hj (List.mem_iff_getElem.2 ⟨i, by simp; omega, ?_⟩)
    rw [List.getElem_take]; exact e
  · intro h i hi hm
    obtain ⟨j, hj, e⟩ := List.mem_iff_getElem.1 hm
    simp at hj
    rw [List.getElem_take] at e
    exact h j i (by omega) hi (by omega) e
theorem rising_iff (lo up : Int) (s : List Int) : risingB lo up s = true ↔ (∀ x ∈ s, inB lo up x = true) ∧ s.Pairwise (· < ·) := by
  unfold risingB
  rw [List.all_eq_true]
  constructor
  · intro h
    have h' : ∀ i (hl : i < s.length), inB lo up s[i] = true ∧ (i = 0 ∨ s.getD (i - 1) 0 < s[i]) := fun i hl => by
      have := h i (List.mem_range.2 hl)
      rw [getD_of_lt hl] at this
      simpa using this
    refine ⟨fun x hx => ?_, ?_⟩
    · obtain ⟨i, hi, rfl⟩ := List.mem_iff_getElem.1 hx
      exact (h' i hi).1
    · rw [List.pairwise_iff_getElem]
      intro i j hi hj hij
      induction j with
      | zero => omega
      | succ j ih =>
        have hs := (h' (j + 1) hj).2
        rw [Nat.add_sub_cancel, getD_of_lt (show j < s.length by omega)] at hs
        rcases Nat.lt_or_ge i j with h1 | h1
        · have := ih (by omega) h1
          omega
        · obtain rfl : i = j := by omega
          omega
  · rintro ⟨h1, h2⟩ i hi
    have hl := List.mem_range.1 hi
    rw [getD_of_lt hl]
    rw [List.pairwise_iff_getElem] at h2
    rw [Bool.and_eq_true]
    refine ⟨h1 _ (List.getElem_mem hl), ?_⟩
    rcases Nat.eq_zero_or_pos i with h0 | h0
    · simp [h0]
    · have := h2 (i - 1) i (by omega) hl (by omega)
      rw [getD_of_lt (show i - 1 < s.length by omega)]
      simp [this]
theorem sIds_iff (ids : List Int) (nodes : Int) : sIdsB ids nodes = true ↔ (∀ x ∈ ids, inB 1 999999 x = true) ∧ ids.Nodup ∧ ((ids.length : Int) = 0 ∨ (ids.length : Int) = nodes) := by
  unfold sIdsB
  rw [Bool.and_eq_true, List.all_eq_true, ← takes_nodup]
  constructor
  · rintro ⟨h, h2⟩
    have h' : ∀ i (hl : i < ids.length), inB 1 999999 ids[i] = true ∧ ids[i] ∉ ids.take i := fun i hl => by
      have := h i (List.mem_range.2 hl)
      rw [getD_of_lt hl] at this
      simpa using this
    refine ⟨fun x hx => ?_, fun i hl => (h' i hl).2, by simpa using h2⟩
    obtain ⟨i, hi, rfl⟩ := List.mem_iff_getElem.1 hx
    exact (h' i hi).1
  · rintro ⟨h1, h2, h3⟩
    refine ⟨fun i hi => ?_, by simpa using h3⟩
    have hl := List.mem_range.1 hi
    rw [getD_of_lt hl, Bool.and_eq_true]
    exact ⟨h1 _ (List.getElem_mem hl), by simpa using h2 i hl⟩
theorem sIds_eq (ids : List Int) (nodes : Int) : sIdsB ids nodes = idsB ids nodes := by
  rw [Bool.eq_iff_iff, sIds_iff]
  cases hids : ids with
  | nil => simp [idsB]
  | cons a l =>
    rw [← hids]
    have hne : ids.isEmpty = false := by rw [hids]; rfl
    have hl0 : ¬ (ids.length : Int) = 0 := by rw [hids]; simp; omega
    unfold idsB
    rw [hne, Bool.false_or, Bool.and_eq_true, rising_iff, beq_iff_eq]
    have hp := List.mergeSort_perm ids (fun x y => decide (x ≤ y))
    have hs : (ids.mergeSort fun x y => decide (x ≤ y)).Pairwise fun a b => decide (a ≤ b) = true :=
      List.pairwise_mergeSort (fun a b c h1 h2 => by simp at h1 h2 ⊢; omega) (fun a b => by simp; omega) ids
    constructor
    · rintro ⟨h1, h2, h3⟩
      refine ⟨by omega, fun x hx => h1 x (hp.mem_iff.1 hx), ?_⟩
      have hn := hp.nodup_iff.2 h2
      exact (hs.and hn).imp fun {a b} ⟨h, h'⟩ => by simp at h; omega
    · rintro ⟨h1, h2, h3⟩
      refine ⟨fun x hx => h2 x (hp.mem_iff.2 hx), hp.nodup_iff.1 (h3.imp fun {a b} h => by omega), .inr h1⟩
end Go.Proofs.YtomnaabadohecaaGreat
namespace Go.Proofs.YtomnaabadohecaaGreat
open Go.RowKit
def hasB (xs : List Int) (x : Int) : Bool := xs.contains x
set_option maxHeartbeats 1000000 in
theorem l1Has_any (v : Value) (xs : List Int) (x : Int) (w : World) (h : IntS w v xs) : Calls Tryz.prog 217 #[v, .int .i64 x] w fun e w' => e = .returned (.bool (hasB xs x)) ∧ w = w' := by
  obtain ⟨A, c, rfl, hlc, hm, hA⟩ := h
  unfold maxLen at hm
  have HA := Lib.hid hA
  clear hA
  go_enter Tryz.func217, Tryz.ntmps217
  go_wp2
  go_loop [9] (fun i => ∃ k : Nat, k ≤ xs.length ∧ i = .int .i64 k ∧ x ∉ xs.take k) (fun i => xs.length - (intOf i).toNat)
  case atStart => exact ⟨0, Nat.zero_le _, rfl, by simp⟩
  case round =>
    obtain ⟨k, hk, rfl, hno⟩ := hrel
    have Hno := Lib.hid hno
    clear hno
    by_cases hlt : k < xs.length
    · obtain ⟨y, hy⟩ := getx xs k hlt
      obtain ⟨b, off, rfl, hcell⟩ := HA.out k y hy
      have Hy := Lib.hid hy
      clear hy
      by_cases hxy : y = x
      · subst hxy
        go_wp2
        go_ret
        exact ⟨ret_true (by unfold hasB; simpa using List.mem_of_getElem? Hy.out), rfl⟩
      · go_wp2
        go_round
        case rel =>
          refine ⟨k + 1, by omega, by simp, ?_⟩
          rw [take_snoc Hy.out]
          simp only [List.mem_append, List.mem_singleton, not_or]
          exact ⟨Hno.out, fun e => hxy e.symm⟩
        case measure => simp [intOf]; omega
    · go_wp2
      go_ret
      have := Hno.out
      rw [take_all xs hlt] at this
      exact ⟨ret_false (by unfold hasB; simpa using this), rfl⟩
theorem IntS.take {w : World} {A : Option Addr} {c : Nat} {xs : List Int} (h : IntS w (.slice A xs.length c) xs) (k : Nat) (hk : k ≤ xs.length) : IntS w (.slice A k c) (xs.take k) := by
  obtain ⟨A', c', hv, hlc, hm, hA⟩ := h
  cases hv
  refine ⟨A, c, by simp [Nat.min_eq_left hk], by simp; omega, hm, fun j x hx => ?_⟩
  have hj : j < k := by have := lt_of_get hx; simp at this; omega
  rw [List.getElem?_take, if_pos hj] at hx
  exact hA j x hx
set_option maxHeartbeats 2000000 in
theorem neIds_any (v : Value) (ids : List Int) (nodes : Int) (w : World) (h : IntS w v ids) : Calls Tryz.prog 146 #[v, .int .i64 nodes] w fun e w' => e = .returned (.bool (sIdsB ids nodes)) ∧ w = w' := by
  have H := Lib.hid h
  obtain ⟨A, c, rfl, hlc, hm, hA⟩ := h
  unfold maxLen at hm
  have HA := Lib.hid hA
  clear hA
  go_enter Tryz.func146, Tryz.ntmps146
  go_wp2
  go_loop [9] (fun i => ∃ k : Nat, k ≤ ids.length ∧ i = .int .i64 k ∧ ∀ j, j < k → inB 1 999999 (ids.getD j 0) = true ∧ hasB (ids.take j) (ids.getD j 0) = false) (fun i => ids.length - (intOf i).toNat)
  case atStart => exact ⟨0, Nat.zero_le _, rfl, fun j hj => by omega⟩
  case round =>
    obtain ⟨k, hk, rfl, hno⟩ := hrel
    have Hno := Lib.hid hno
    clear hno
    by_cases hlt : k < ids.length
    · obtain ⟨y, hy⟩ := getx ids k hlt
      obtain ⟨b, off, rfl, hcell⟩ := HA.out k y hy
      have hgy : ids.getD k 0 = y := by simp [hy]
      have Hg := Lib.hid hgy
      clear hy hgy
      cases hi : inB 1 999999 y
      · go_wp2_with (go_at_call 107; refine (l1In_b _ _ _ _).mono ?_; rintro e w' ⟨rfl, rfl⟩)
        go_ret
        refine ⟨ret_false ?_, rfl⟩
        unfold sIdsB
        rw [Bool.and_eq_false_iff]
        left
        rw [List.all_eq_false]
        exact ⟨k, List.mem_range.2 hlt, by rw [Hg.out, hi]; simp⟩
      · cases hc : hasB (ids.take k) y
        · go_wp2_with (first | (go_at_call 107; refine (l1In_b _ _ _ _).mono ?_; rintro e w' ⟨rfl, rfl⟩) | (go_at_call 217; refine (l1Has_any _ (ids.take k) y _ (H.out.take k hk)).mono ?_; rintro e w' ⟨rfl, rfl⟩))
          go_round
          case rel =>
            refine ⟨k + 1, by omega, by simp, fun j hj => ?_⟩
            rcases Nat.lt_or_ge j k with h | h
            · exact Hno.out j h
            · obtain rfl : j = k := by omega
              rw [Hg.out]; exact ⟨hi, hc⟩
          case measure => simp [intOf]; omega
        · go_wp2_with (first | (go_at_call 107; refine (l1In_b _ _ _ _).mono ?_; rintro e w' ⟨rfl, rfl⟩) | (go_at_call 217; refine (l1Has_any _ (ids.take k) y _ (H.out.take k hk)).mono ?_; rintro e w' ⟨rfl, rfl⟩))
          go_ret
          refine ⟨ret_false ?_, rfl⟩
          unfold sIdsB
          rw [Bool.and_eq_false_iff]
          left
          rw [List.all_eq_false]
          exact ⟨k, List.mem_range.2 hlt, by rw [Hg.out, hi]; unfold hasB at hc; rw [hc]; simp⟩
    · have hall : Hid (sIdsB ids nodes = ((ids.length : Int) == 0 || (ids.length : Int) == nodes)) := by
        show _ = _
        unfold sIdsB
        rw [show ((List.range ids.length).all fun i => inB 1 999999 (ids.getD i 0) && !((ids.take i).contains (ids.getD i 0))) = true from List.all_eq_true.2 (fun j hj => by
          have := Hno.out j (by have := List.mem_range.1 hj; omega)
          unfold hasB at this
          rw [this.1, this.2]; rfl), Bool.true_and]
      by_cases h0 : (ids.length : Int) = 0
      · go_wp2
        go_ret
        exact ⟨ret_true (by rw [hall.out]; simp [h0]), rfl⟩
      · have hne : ¬ ids = [] := fun e => h0 (by simp [e])
        go_wp2
        go_ret
        refine ⟨ret_bool ?_, rfl⟩
        rw [hall.out, show ((ids.length : Int) == 0) = false by simpa using h0, Bool.false_or]
end Go.Proofs.YtomnaabadohecaaGreat
namespace Go.Proofs.YtomnaabadohecaaGreat
open Go.RowKit
set_option maxHeartbeats 2000000 in
theorem neGood_any (ve vi vn : Value) (n : Net) (w : World) (h : NetIn w ve vi vn n) :
    Calls Tryz.prog 81 #[.agg #[ve, vi, vn]] w fun e w' => e = .returned (.bool (netOk n)) ∧ Below w.heap.size w w' := by
  obtain ⟨w0, hw0⟩ : ∃ w0, w0 = w.alloc (.cells #[ve, vi, vn] 43) := ⟨_, rfl⟩
  have hb0 : Below w.heap.size w w0 := by rw [hw0]; exact below_alloc _ _
  have H := Lib.hid (h.keep hb0)
  obtain ⟨h1, h2, h3⟩ := h.keep hb0
  obtain ⟨A, c, rfl, hlc, hm, hA⟩ := h1
  obtain ⟨A2, c2, rfl, _, hm2, _⟩ := h2
  obtain ⟨A3, c3, rfl, _, hm3, _⟩ := h3
  unfold maxLen at hm hm2 hm3
  have p0 : ∀ W, Since w0 W → W.cell? ⟨w.heap.size, 0, none⟩ = some (.slice A n.ends.length c) := fun W hW => bc hW (by rw [hw0]; simp)
  have p1 : ∀ W, Since w0 W → W.cell? ⟨w.heap.size, 1, none⟩ = some (.slice A2 n.ids.length c2) := fun W hW => bc hW (by rw [hw0]; simp)
  have p2 : ∀ W, Since w0 W → W.cell? ⟨w.heap.size, 2, none⟩ = some (.slice A3 n.inputs.length c3) := fun W hW => bc hW (by rw [hw0]; simp)
  have Hb0 := Lib.hid hb0
  have HA := Lib.hid hA
  have Hw0 := Lib.hid hw0
  clear hb0 hA h hw0
  go_enter Tryz.func81, Tryz.ntmps81
  go_upto_region 1 with (fail)
  rw [← Hw0.out]
  refine wp_region_flow0 29 (Since w0) (since_refl _) ?_
  simp only [List.take_succ_cons, List.take_zero, List.drop_succ_cons, List.drop_zero]
  refine flow_val (v := ?_) rfl ?_ ?_; rotate_left; (intro W hW; go_simp; with_reducible rfl)
  simp only [Act.put, List.setIfInBounds_toArray, List.set_cons_succ, List.set_cons_zero]
  refine flow_val (v := ?_) rfl ?_ ?_; rotate_left; (intro W hW; go_simp; with_reducible rfl)
  simp only [Act.put, List.setIfInBounds_toArray, List.set_cons_succ, List.set_cons_zero]
  refine flow_val (v := ?_) rfl ?_ ?_; rotate_left; (intro W hW; go_simp; with_reducible rfl)
  simp only [Act.put, List.setIfInBounds_toArray, List.set_cons_succ, List.set_cons_zero]
  refine flow_op ?_ rfl ?_ ?_; rotate_left; (intro W hW; unfold Gives; go_simp; (with_reducible refine (l1In_b _ _ _ W).mono ?_); rintro e W' ⟨rfl, hb3⟩; first | (refine ⟨?_, Since.trans hW hb3⟩; with_reducible rfl) | (subst hb3; refine ⟨?_, hW⟩; with_reducible rfl))
  simp only [Act.put, List.setIfInBounds_toArray, List.set_cons_succ, List.set_cons_zero]
  refine flow_val (v := ?_) rfl ?_ ?_; rotate_left; (intro W hW; go_simp; with_reducible rfl)
  simp only [Act.put, List.setIfInBounds_toArray, List.set_cons_succ, List.set_cons_zero]
  refine flow_val (v := ?_) rfl ?_ ?_; rotate_left; (intro W hW; go_simp; with_reducible rfl)
  simp only [Act.put, List.setIfInBounds_toArray, List.set_cons_succ, List.set_cons_zero]
  refine flow_gval (v := ?_) rfl rfl ?_ ?_; rotate_left; (intro hb; intro W hW; go_simp; with_reducible rfl)
  simp only [Act.put, List.setIfInBounds_toArray, List.set_cons_succ, List.set_cons_zero]
  refine flow_gval (v := ?_) rfl rfl ?_ ?_; rotate_left; (intro hb; intro W hW; go_simp; with_reducible rfl)
  simp only [Act.put, List.setIfInBounds_toArray, List.set_cons_succ, List.set_cons_zero]
  refine flow_gval (v := ?_) rfl rfl ?_ ?_; rotate_left; (intro hb; intro W hW; go_simp; with_reducible rfl)
  simp only [Act.put, List.setIfInBounds_toArray, List.set_cons_succ, List.set_cons_zero]
  refine flow_gval (v := ?_) rfl rfl ?_ ?_; rotate_left; (intro hb; intro W hW; go_simp; with_reducible rfl)
  simp only [Act.put, List.setIfInBounds_toArray, List.set_cons_succ, List.set_cons_zero]
  refine flow_gval (v := ?_) rfl rfl ?_ ?_; rotate_left; (intro hb; intro W hW; go_simp; with_reducible rfl)
  simp only [Act.put, List.setIfInBounds_toArray, List.set_cons_succ, List.set_cons_zero]
  refine flow_gop (v := ?_) rfl rfl ?_ ?_; rotate_left; (intro hb; intro W hW; unfold Gives; go_simp; (with_reducible refine (neIds_any _ n.ids _ W (H.out.is.keep hW.below)).mono ?_); rintro e W' ⟨rfl, hb3⟩; first | (refine ⟨?_, Since.trans hW hb3⟩; with_reducible rfl) | (subst hb3; refine ⟨?_, hW⟩; with_reducible rfl))
  simp only [Act.put, List.setIfInBounds_toArray, List.set_cons_succ, List.set_cons_zero]
  refine flow_gval (v := ?_) rfl rfl ?_ ?_; rotate_left; (intro hb; intro W hW; go_simp; with_reducible rfl)
  simp only [Act.put, List.setIfInBounds_toArray, List.set_cons_succ, List.set_cons_zero]
  first | refine flow_or rfl rfl ?_ | (refine flow_val (v := ?_) rfl ?_ ?_; rotate_left; (intro W hW; go_simp; with_reducible rfl))
  simp only [Act.put, List.setIfInBounds_toArray, List.set_cons_succ, List.set_cons_zero]
  refine flow_val (v := ?_) rfl ?_ ?_; rotate_left; (intro W hW; go_simp; with_reducible rfl)
  simp only [Act.put, List.setIfInBounds_toArray, List.set_cons_succ, List.set_cons_zero]
  refine flow_gval (v := ?_) rfl rfl ?_ ?_; rotate_left; (intro hb; intro W hW; go_simp; with_reducible rfl)
  simp only [Act.put, List.setIfInBounds_toArray, List.set_cons_succ, List.set_cons_zero]
  refine flow_gval (v := ?_) rfl rfl ?_ ?_; rotate_left; (intro hb; intro W hW; go_simp; with_reducible rfl)
  simp only [Act.put, List.setIfInBounds_toArray, List.set_cons_succ, List.set_cons_zero]
  refine flow_gval (v := ?_) rfl rfl ?_ ?_; rotate_left; (intro hb; intro W hW; go_simp; with_reducible rfl)
  simp only [Act.put, List.setIfInBounds_toArray, List.set_cons_succ, List.set_cons_zero]
  refine flow_gval (v := ?_) rfl rfl ?_ ?_; rotate_left; (intro hb; intro W hW; go_simp; with_reducible rfl)
  simp only [Act.put, List.setIfInBounds_toArray, List.set_cons_succ, List.set_cons_zero]
  refine flow_gval (v := ?_) rfl rfl ?_ ?_; rotate_left; (intro hb; intro W hW; go_simp; with_reducible rfl)
  simp only [Act.put, List.setIfInBounds_toArray, List.set_cons_succ, List.set_cons_zero]
  refine flow_gval (v := ?_) rfl rfl ?_ ?_; rotate_left; (intro hb; intro W hW; go_simp; with_reducible rfl)
  simp only [Act.put, List.setIfInBounds_toArray, List.set_cons_succ, List.set_cons_zero]
  refine flow_gval (v := ?_) rfl rfl ?_ ?_; rotate_left; (intro hb; intro W hW; go_simp; with_reducible rfl)
  simp only [Act.put, List.setIfInBounds_toArray, List.set_cons_succ, List.set_cons_zero]
  first | refine flow_or rfl rfl ?_ | (refine flow_val (v := ?_) rfl ?_ ?_; rotate_left; (intro W hW; go_simp; with_reducible rfl))
  simp only [Act.put, List.setIfInBounds_toArray, List.set_cons_succ, List.set_cons_zero]
  refine flow_val (v := ?_) rfl ?_ ?_; rotate_left; (intro W hW; go_simp; with_reducible rfl)
  simp only [Act.put, List.setIfInBounds_toArray, List.set_cons_succ, List.set_cons_zero]
  refine flow_gval (v := ?_) rfl rfl ?_ ?_; rotate_left; (intro hb; intro W hW; go_simp; with_reducible rfl)
  simp only [Act.put, List.setIfInBounds_toArray, List.set_cons_succ, List.set_cons_zero]
  refine flow_gval (v := ?_) rfl rfl ?_ ?_; rotate_left; (intro hb; intro W hW; go_simp; with_reducible rfl)
  simp only [Act.put, List.setIfInBounds_toArray, List.set_cons_succ, List.set_cons_zero]
  refine flow_gop (v := ?_) rfl rfl ?_ ?_; rotate_left; (intro hb; intro W hW; unfold Gives; go_simp; (with_reducible refine (l1All_any _ n.inputs _ _ W (H.out.ns.keep hW.below)).mono ?_); rintro e W' ⟨rfl, hb3⟩; first | (refine ⟨?_, Since.trans hW hb3⟩; with_reducible rfl) | (subst hb3; refine ⟨?_, hW⟩; with_reducible rfl))
  simp only [Act.put, List.setIfInBounds_toArray, List.set_cons_succ, List.set_cons_zero]
  refine flow_gval (v := ?_) rfl rfl ?_ ?_; rotate_left; (intro hb; intro W hW; go_simp; with_reducible rfl)
  simp only [Act.put, List.setIfInBounds_toArray, List.set_cons_succ, List.set_cons_zero]
  first | refine flow_or rfl rfl ?_ | (refine flow_val (v := ?_) rfl ?_ ?_; rotate_left; (intro W hW; go_simp; with_reducible rfl))
  simp only [Act.put, List.setIfInBounds_toArray, List.set_cons_succ, List.set_cons_zero]
  intro W hW
  cases hg : (!inB 1 40 (n.ends.length : Int) || !sIdsB n.ids n.ends.length || ((n.inputs.length : Int) != n.ends.length) || !n.inputs.all (inB 0 9))
  · have hr := Lib.hid (show netOk n = (List.range n.ends.length).all fun v => rowOkB n.ends v (n.ends.getD v []) by
      simp only [Bool.or_eq_false_iff, Bool.not_eq_false', bne_eq_false_iff_eq] at hg
      simp [netOk, hg, ← sIds_eq, inputsB])
    have Hg := Lib.hid hg
    have HW := Lib.hid hW
    clear hg
    go_wp2
    go_loopw [39] (fun i wr => ∃ k : Nat, k ≤ n.ends.length ∧ i = .int .i64 k ∧ ((List.range k).all fun v => rowOkB n.ends v (n.ends.getD v [])) = true ∧ Since w0 wr) (fun i _ => n.ends.length - (intOf i).toNat)
    case atStart => exact ⟨0, Nat.zero_le _, rfl, rfl, HW.out⟩
    case round =>
      obtain ⟨k, hk, rfl, hall, hbr⟩ := hrel
      have Hall := Lib.hid hall
      clear hall hW
      by_cases hlt : k < n.ends.length
      · obtain ⟨es, hes⟩ := getx n.ends k hlt
        obtain ⟨b, off, u, rfl, hc1, hrow⟩ := HA.out k es hes
        have hc2 := have_cell hc1
        obtain ⟨A1, z1, rfl, hz1, hz2, hA1⟩ := hrow
        have HA1 := Lib.hid hA1
        unfold maxLen at hz2
        have Hes := Lib.hid hes
        clear hes hc1 hA1
        by_cases h6 : es.length ≤ 6
        · go_wp2
          obtain ⟨wo, rfl⟩ : ∃ wo : World, wo = wr := ⟨_, rfl⟩
          go_loopw [49] (fun i wq => ∃ j : Nat, j ≤ es.length ∧ i = .int .i64 j ∧ ((List.range j).all fun i => endOkB n.ends k i (es.getD i (0, 0))) = true ∧ Since w0 wq) (fun i _ => es.length - (intOf i).toNat)
          case atStart => exact ⟨0, Nat.zero_le _, rfl, rfl, hbr⟩
          case round =>
            obtain ⟨j, hj, rfl, hall2, hbq⟩ := hrel
            have Hall2 := Lib.hid hall2
            clear hall2 hbr
            by_cases hlt2 : j < es.length
            · obtain ⟨⟨x1, x2⟩, he⟩ := getx es j hlt2
              obtain ⟨b1, off1, rfl, hd1, hd2⟩ := HA1.out j _ he
              have q1 := have_cell hd1
              have q2 := have_cell hd2
              have He := Lib.hid he
              clear he hd1 hd2
              have hsw : w.heap.size < wr.heap.size := World.block_lt_of_cell? wr _ (p0 wr hbq)
              go_wp2
              obtain ⟨w1, hw1⟩ : ∃ w1, (wr.alloc (Obj.cells #[Value.int IntKind.i64 x1, Value.int IntKind.i64 x2] 114)) = w1 := ⟨_, rfl⟩
              rw [hw1]
              have hs1 : Since w0 w1 := by rw [← hw1]; exact since_alloc _ hbq
              have r0 := lift_cell p0 hs1
              have r3 : ∀ W, Since w1 W → W.cell? ⟨wr.heap.size, 0, none⟩ = some (.int .i64 x1) := have_cell (by rw [← hw1]; simp)
              have r4 : ∀ W, Since w1 W → W.cell? ⟨wr.heap.size, 1, none⟩ = some (.int .i64 x2) := have_cell (by rw [← hw1]; simp)
              have Hs1 := Lib.hid hs1
              have HP := Lib.hid (And.intro p0 (And.intro p1 p2))
              have HQ := Lib.hid (And.intro hc2 (And.intro q1 q2))
              have Hbq := Lib.hid hbq
              clear hw1 hs1 p0 p1 p2 hc2 q1 q2 hbq
              by_cases hx1 : inB 0 ((n.ends.length : Int) - 1) x1 = true
              · obtain ⟨p3, p4⟩ := inB_iff.1 hx1
                obtain ⟨k1, rfl⟩ := Int.eq_ofNat_of_zero_le p3
                have hk1 : k1 < n.ends.length := by omega
                obtain ⟨es1, hes1⟩ := getx n.ends k1 hk1
                obtain ⟨b2, off2, u', hA', hc3, hrow'⟩ := HA.out k1 es1 hes1
                injection hA' with hA'
                injection hA' with q3 q4
                subst q3 q4
                obtain ⟨A1', z1', rfl, hz1', hz2', hA1'⟩ := hrow'
                unfold maxLen at hz2'
                have r5 := lift_cell (have_cell hc3) Hs1.out
                have Hes1 := Lib.hid hes1
                have HA1' := Lib.hid hA1'
                clear hes1 hc3 hA1'
                by_cases hx2 : inB 0 ((es1.length : Int) - 1) x2 = true
                · obtain ⟨p5, p6⟩ := inB_iff.1 hx2
                  obtain ⟨i1, rfl⟩ := Int.eq_ofNat_of_zero_le p5
                  have hi1 : i1 < es1.length := by omega
                  obtain ⟨⟨y1, y2⟩, hy⟩ := getx es1 i1 hi1
                  obtain ⟨b3, off3, rfl, hc5, hc6⟩ := HA1'.out i1 _ hy
                  have r6 := lift_cell (have_cell hc5) Hs1.out
                  have r7 := lift_cell (have_cell hc6) Hs1.out
                  have Hy := Lib.hid hy
                  have Hx := Lib.hid (And.intro hx1 hx2)
                  clear hy hc5 hc6 hx1 hx2
                  have m1 : IntKind.i64.wrap ((n.ends.length : Int) - 1) = n.ends.length - 1 := wr64 _ (by omega) (by omega)
                  have m2 : IntKind.i64.wrap ((es1.length : Int) - 1) = es1.length - 1 := wr64 _ (by omega) (by omega)
                  refine wp_region_flow 38 (Since w1) (by kernel_rfl) (by kernel_rfl) (by simp) (since_drew (since_refl _)) ?_
                  simp only [List.take_succ_cons, List.take_zero, List.drop_succ_cons, List.drop_zero]
                  refine flow_val (v := ?_) rfl ?_ ?_; rotate_left; (intro W hW; go_simp; with_reducible rfl)
                  simp only [Act.put, List.setIfInBounds_toArray, List.set_cons_succ, List.set_cons_zero]
                  refine flow_val (v := ?_) rfl ?_ ?_; rotate_left; (intro W hW; go_simp; with_reducible rfl)
                  simp only [Act.put, List.setIfInBounds_toArray, List.set_cons_succ, List.set_cons_zero]
                  refine flow_val (v := ?_) rfl ?_ ?_; rotate_left; (intro W hW; go_simp; with_reducible rfl)
                  simp only [Act.put, List.setIfInBounds_toArray, List.set_cons_succ, List.set_cons_zero]
                  refine flow_val (v := ?_) rfl ?_ ?_; rotate_left; (intro W hW; go_simp; with_reducible rfl)
                  simp only [Act.put, List.setIfInBounds_toArray, List.set_cons_succ, List.set_cons_zero]
                  refine flow_val (v := ?_) rfl ?_ ?_; rotate_left; (intro W hW; go_simp; with_reducible rfl)
                  simp only [Act.put, List.setIfInBounds_toArray, List.set_cons_succ, List.set_cons_zero]
                  refine flow_val (v := ?_) rfl ?_ ?_; rotate_left; (intro W hW; go_simp; with_reducible rfl)
                  simp only [Act.put, List.setIfInBounds_toArray, List.set_cons_succ, List.set_cons_zero]
                  refine flow_op ?_ rfl ?_ ?_; rotate_left; (intro W hW; unfold Gives; go_simp; (with_reducible refine (l1In_b _ _ _ W).mono ?_); rintro e W' ⟨rfl, hb3⟩; first | (refine ⟨?_, Since.trans hW hb3⟩; with_reducible rfl) | (subst hb3; refine ⟨?_, hW⟩; with_reducible rfl))
                  simp only [Act.put, List.setIfInBounds_toArray, List.set_cons_succ, List.set_cons_zero]
                  refine flow_val (v := ?_) rfl ?_ ?_; rotate_left; (intro W hW; go_simp; with_reducible rfl)
                  simp only [Act.put, List.setIfInBounds_toArray, List.set_cons_succ, List.set_cons_zero]
                  refine flow_val (v := ?_) rfl ?_ ?_; rotate_left; (intro W hW; go_simp; with_reducible rfl)
                  simp only [Act.put, List.setIfInBounds_toArray, List.set_cons_succ, List.set_cons_zero]
                  refine flow_gval (v := ?_) rfl rfl ?_ ?_; rotate_left; (intro hb; intro W hW; go_simp; with_reducible rfl)
                  simp only [Act.put, List.setIfInBounds_toArray, List.set_cons_succ, List.set_cons_zero]
                  refine flow_gval (v := ?_) rfl rfl ?_ ?_; rotate_left; (intro hb; intro W hW; go_simp; with_reducible rfl)
                  simp only [Act.put, List.setIfInBounds_toArray, List.set_cons_succ, List.set_cons_zero]
                  refine flow_gval (v := ?_) rfl rfl ?_ ?_; rotate_left; (intro hb; intro W hW; go_simp; with_reducible rfl)
                  simp only [Act.put, List.setIfInBounds_toArray, List.set_cons_succ, List.set_cons_zero]
                  refine flow_gval (v := ?_) rfl rfl ?_ ?_; rotate_left; (intro hb; intro W hW; go_simp; with_reducible rfl)
                  simp only [Act.put, List.setIfInBounds_toArray, List.set_cons_succ, List.set_cons_zero]
                  refine flow_gval (v := ?_) rfl rfl ?_ ?_; rotate_left; (intro hb; intro W hW; go_simp; with_reducible rfl)
                  simp only [Act.put, List.setIfInBounds_toArray, List.set_cons_succ, List.set_cons_zero]
                  refine flow_gval (v := ?_) rfl rfl ?_ ?_; rotate_left; (intro hb; intro W hW; go_simp; with_reducible rfl)
                  simp only [Act.put, List.setIfInBounds_toArray, List.set_cons_succ, List.set_cons_zero]
                  refine flow_gval (v := ?_) rfl rfl ?_ ?_; rotate_left; (intro hb; intro W hW; go_simp; with_reducible rfl)
                  simp only [Act.put, List.setIfInBounds_toArray, List.set_cons_succ, List.set_cons_zero]
                  refine flow_gval (v := ?_) rfl rfl ?_ ?_; rotate_left; (intro hb; intro W hW; go_simp; with_reducible rfl)
                  simp only [Act.put, List.setIfInBounds_toArray, List.set_cons_succ, List.set_cons_zero]
                  refine flow_gval (v := ?_) rfl rfl ?_ ?_; rotate_left; (intro hb; intro W hW; go_simp; with_reducible rfl)
                  simp only [Act.put, List.setIfInBounds_toArray, List.set_cons_succ, List.set_cons_zero]
                  refine flow_gval (v := ?_) rfl rfl ?_ ?_; rotate_left; (intro hb; intro W hW; go_simp; with_reducible rfl)
                  simp only [Act.put, List.setIfInBounds_toArray, List.set_cons_succ, List.set_cons_zero]
                  refine flow_gop (v := ?_) rfl rfl ?_ ?_; rotate_left; (intro hb; intro W hW; unfold Gives; go_simp; (with_reducible refine (l1In_b _ _ _ W).mono ?_); rintro e W' ⟨rfl, hb3⟩; first | (refine ⟨?_, Since.trans hW hb3⟩; with_reducible rfl) | (subst hb3; refine ⟨?_, hW⟩; with_reducible rfl))
                  simp only [Act.put, List.setIfInBounds_toArray, List.set_cons_succ, List.set_cons_zero]
                  refine flow_gval (v := ?_) rfl rfl ?_ ?_; rotate_left; (intro hb; intro W hW; go_simp; with_reducible rfl)
                  simp only [Act.put, List.setIfInBounds_toArray, List.set_cons_succ, List.set_cons_zero]
                  first | refine flow_or rfl rfl ?_ | (refine flow_val (v := ?_) rfl ?_ ?_; rotate_left; (intro W hW; go_simp; with_reducible rfl))
                  simp only [Act.put, List.setIfInBounds_toArray, List.set_cons_succ, List.set_cons_zero]
                  refine flow_val (v := ?_) rfl ?_ ?_; rotate_left; (intro W hW; go_simp; with_reducible rfl)
                  simp only [Act.put, List.setIfInBounds_toArray, List.set_cons_succ, List.set_cons_zero]
                  refine flow_gval (v := ?_) rfl rfl ?_ ?_; rotate_left; (intro hb; intro W hW; go_simp; with_reducible rfl)
                  simp only [Act.put, List.setIfInBounds_toArray, List.set_cons_succ, List.set_cons_zero]
                  refine flow_gval (v := ?_) rfl rfl ?_ ?_; rotate_left; (intro hb; intro W hW; go_simp; with_reducible rfl)
                  simp only [Act.put, List.setIfInBounds_toArray, List.set_cons_succ, List.set_cons_zero]
                  refine flow_gval (v := ?_) rfl rfl ?_ ?_; rotate_left; (intro hb; intro W hW; go_simp; with_reducible rfl)
                  simp only [Act.put, List.setIfInBounds_toArray, List.set_cons_succ, List.set_cons_zero]
                  refine flow_gval (v := ?_) rfl rfl ?_ ?_; rotate_left; (intro hb; intro W hW; go_simp; with_reducible rfl)
                  simp only [Act.put, List.setIfInBounds_toArray, List.set_cons_succ, List.set_cons_zero]
                  refine flow_gval (v := ?_) rfl rfl ?_ ?_; rotate_left; (intro hb; intro W hW; go_simp; with_reducible rfl)
                  simp only [Act.put, List.setIfInBounds_toArray, List.set_cons_succ, List.set_cons_zero]
                  refine flow_gval (v := ?_) rfl rfl ?_ ?_; rotate_left; (intro hb; intro W hW; go_simp; with_reducible rfl)
                  simp only [Act.put, List.setIfInBounds_toArray, List.set_cons_succ, List.set_cons_zero]
                  refine flow_gval (v := ?_) rfl rfl ?_ ?_; rotate_left; (intro hb; intro W hW; go_simp; with_reducible rfl)
                  simp only [Act.put, List.setIfInBounds_toArray, List.set_cons_succ, List.set_cons_zero]
                  refine flow_gval (v := ?_) rfl rfl ?_ ?_; rotate_left; (intro hb; intro W hW; go_simp; with_reducible rfl)
                  simp only [Act.put, List.setIfInBounds_toArray, List.set_cons_succ, List.set_cons_zero]
                  refine flow_gval (v := ?_) rfl rfl ?_ ?_; rotate_left; (intro hb; intro W hW; go_simp; with_reducible rfl)
                  simp only [Act.put, List.setIfInBounds_toArray, List.set_cons_succ, List.set_cons_zero]
                  refine flow_gval (v := ?_) rfl rfl ?_ ?_; rotate_left; (intro hb; intro W hW; go_simp; with_reducible rfl)
                  simp only [Act.put, List.setIfInBounds_toArray, List.set_cons_succ, List.set_cons_zero]
                  refine flow_gval (v := ?_) rfl rfl ?_ ?_; rotate_left; (intro hb; intro W hW; go_simp; with_reducible rfl)
                  simp only [Act.put, List.setIfInBounds_toArray, List.set_cons_succ, List.set_cons_zero]
                  refine flow_gval (v := ?_) rfl rfl ?_ ?_; rotate_left; (intro hb; intro W hW; go_simp; with_reducible rfl)
                  simp only [Act.put, List.setIfInBounds_toArray, List.set_cons_succ, List.set_cons_zero]
                  refine flow_gval (v := ?_) rfl rfl ?_ ?_; rotate_left; (intro hb; intro W hW; go_simp; with_reducible rfl)
                  simp only [Act.put, List.setIfInBounds_toArray, List.set_cons_succ, List.set_cons_zero]
                  refine flow_gval (v := ?_) rfl rfl ?_ ?_; rotate_left; (intro hb; intro W hW; go_simp; with_reducible rfl)
                  simp only [Act.put, List.setIfInBounds_toArray, List.set_cons_succ, List.set_cons_zero]
                  first | refine flow_or rfl rfl ?_ | (refine flow_val (v := ?_) rfl ?_ ?_; rotate_left; (intro W hW; go_simp; with_reducible rfl))
                  simp only [Act.put, List.setIfInBounds_toArray, List.set_cons_succ, List.set_cons_zero]
                  intro W2 hW2
                  have HW2 := Lib.hid hW2
                  rw [Hx.out.1, Hx.out.2]
                  cases hq : eqE (y1, y2) ((k : Int), (j : Int))
                  all_goals
                    have Hq := Lib.hid hq
                    clear hq hW2 m1 m2
                    go_wp2
                  · go_ret
                    exact ⟨ret_false (by rw [hr.out]; refine range_all_stop hlt ?_; rw [getD_of Hes.out]; simp only [rowOkB]; rw [Bool.and_eq_false_iff]; exact .inr (range_all_stop hlt2 (by rw [getD_of He.out]; simp [endOkB, Hes1.out, Hy.out, Hq.out]))), Since.after Hb0.out (Hs1.out.after HW2.out)⟩
                  · go_roundw
                    case rel => exact ⟨j + 1, by omega, by go_num, by rw [range_all_succ, Hall2.out, getD_of He.out]; simp [endOkB, hasPortB, Hx.out.1, Hx.out.2, Hes1.out, Hy.out, Hq.out], Hs1.out.after HW2.out⟩
                    case measure => simp [intOf]; omega
                · have hx2' : inB 0 ((es1.length : Int) - 1) x2 = false := by simpa using hx2
                  have Hx := Lib.hid (And.intro hx1 hx2')
                  clear hx1 hx2
                  have m1 : IntKind.i64.wrap ((n.ends.length : Int) - 1) = n.ends.length - 1 := wr64 _ (by omega) (by omega)
                  have m2 : IntKind.i64.wrap ((es1.length : Int) - 1) = es1.length - 1 := wr64 _ (by omega) (by omega)
                  refine wp_region_flow 38 (Since w1) (by kernel_rfl) (by kernel_rfl) (by simp) (since_drew (since_refl _)) ?_
                  simp only [List.take_succ_cons, List.take_zero, List.drop_succ_cons, List.drop_zero]
                  refine flow_val (v := ?_) rfl ?_ ?_; rotate_left; (intro W hW; go_simp; with_reducible rfl)
                  simp only [Act.put, List.setIfInBounds_toArray, List.set_cons_succ, List.set_cons_zero]
                  refine flow_val (v := ?_) rfl ?_ ?_; rotate_left; (intro W hW; go_simp; with_reducible rfl)
                  simp only [Act.put, List.setIfInBounds_toArray, List.set_cons_succ, List.set_cons_zero]
                  refine flow_val (v := ?_) rfl ?_ ?_; rotate_left; (intro W hW; go_simp; with_reducible rfl)
                  simp only [Act.put, List.setIfInBounds_toArray, List.set_cons_succ, List.set_cons_zero]
                  refine flow_val (v := ?_) rfl ?_ ?_; rotate_left; (intro W hW; go_simp; with_reducible rfl)
                  simp only [Act.put, List.setIfInBounds_toArray, List.set_cons_succ, List.set_cons_zero]
                  refine flow_val (v := ?_) rfl ?_ ?_; rotate_left; (intro W hW; go_simp; with_reducible rfl)
                  simp only [Act.put, List.setIfInBounds_toArray, List.set_cons_succ, List.set_cons_zero]
                  refine flow_val (v := ?_) rfl ?_ ?_; rotate_left; (intro W hW; go_simp; with_reducible rfl)
                  simp only [Act.put, List.setIfInBounds_toArray, List.set_cons_succ, List.set_cons_zero]
                  refine flow_op ?_ rfl ?_ ?_; rotate_left; (intro W hW; unfold Gives; go_simp; (with_reducible refine (l1In_b _ _ _ W).mono ?_); rintro e W' ⟨rfl, hb3⟩; first | (refine ⟨?_, Since.trans hW hb3⟩; with_reducible rfl) | (subst hb3; refine ⟨?_, hW⟩; with_reducible rfl))
                  simp only [Act.put, List.setIfInBounds_toArray, List.set_cons_succ, List.set_cons_zero]
                  refine flow_val (v := ?_) rfl ?_ ?_; rotate_left; (intro W hW; go_simp; with_reducible rfl)
                  simp only [Act.put, List.setIfInBounds_toArray, List.set_cons_succ, List.set_cons_zero]
                  refine flow_val (v := ?_) rfl ?_ ?_; rotate_left; (intro W hW; go_simp; with_reducible rfl)
                  simp only [Act.put, List.setIfInBounds_toArray, List.set_cons_succ, List.set_cons_zero]
                  refine flow_gval (v := ?_) rfl rfl ?_ ?_; rotate_left; (intro hb; intro W hW; go_simp; with_reducible rfl)
                  simp only [Act.put, List.setIfInBounds_toArray, List.set_cons_succ, List.set_cons_zero]
                  refine flow_gval (v := ?_) rfl rfl ?_ ?_; rotate_left; (intro hb; intro W hW; go_simp; with_reducible rfl)
                  simp only [Act.put, List.setIfInBounds_toArray, List.set_cons_succ, List.set_cons_zero]
                  refine flow_gval (v := ?_) rfl rfl ?_ ?_; rotate_left; (intro hb; intro W hW; go_simp; with_reducible rfl)
                  simp only [Act.put, List.setIfInBounds_toArray, List.set_cons_succ, List.set_cons_zero]
                  refine flow_gval (v := ?_) rfl rfl ?_ ?_; rotate_left; (intro hb; intro W hW; go_simp; with_reducible rfl)
                  simp only [Act.put, List.setIfInBounds_toArray, List.set_cons_succ, List.set_cons_zero]
                  refine flow_gval (v := ?_) rfl rfl ?_ ?_; rotate_left; (intro hb; intro W hW; go_simp; with_reducible rfl)
                  simp only [Act.put, List.setIfInBounds_toArray, List.set_cons_succ, List.set_cons_zero]
                  refine flow_gval (v := ?_) rfl rfl ?_ ?_; rotate_left; (intro hb; intro W hW; go_simp; with_reducible rfl)
                  simp only [Act.put, List.setIfInBounds_toArray, List.set_cons_succ, List.set_cons_zero]
                  refine flow_gval (v := ?_) rfl rfl ?_ ?_; rotate_left; (intro hb; intro W hW; go_simp; with_reducible rfl)
                  simp only [Act.put, List.setIfInBounds_toArray, List.set_cons_succ, List.set_cons_zero]
                  refine flow_gval (v := ?_) rfl rfl ?_ ?_; rotate_left; (intro hb; intro W hW; go_simp; with_reducible rfl)
                  simp only [Act.put, List.setIfInBounds_toArray, List.set_cons_succ, List.set_cons_zero]
                  refine flow_gval (v := ?_) rfl rfl ?_ ?_; rotate_left; (intro hb; intro W hW; go_simp; with_reducible rfl)
                  simp only [Act.put, List.setIfInBounds_toArray, List.set_cons_succ, List.set_cons_zero]
                  refine flow_gval (v := ?_) rfl rfl ?_ ?_; rotate_left; (intro hb; intro W hW; go_simp; with_reducible rfl)
                  simp only [Act.put, List.setIfInBounds_toArray, List.set_cons_succ, List.set_cons_zero]
                  refine flow_gop (v := ?_) rfl rfl ?_ ?_; rotate_left; (intro hb; intro W hW; unfold Gives; go_simp; (with_reducible refine (l1In_b _ _ _ W).mono ?_); rintro e W' ⟨rfl, hb3⟩; first | (refine ⟨?_, Since.trans hW hb3⟩; with_reducible rfl) | (subst hb3; refine ⟨?_, hW⟩; with_reducible rfl))
                  simp only [Act.put, List.setIfInBounds_toArray, List.set_cons_succ, List.set_cons_zero]
                  refine flow_gval (v := ?_) rfl rfl ?_ ?_; rotate_left; (intro hb; intro W hW; go_simp; with_reducible rfl)
                  simp only [Act.put, List.setIfInBounds_toArray, List.set_cons_succ, List.set_cons_zero]
                  first | refine flow_or rfl rfl ?_ | (refine flow_val (v := ?_) rfl ?_ ?_; rotate_left; (intro W hW; go_simp; with_reducible rfl))
                  simp only [Act.put, List.setIfInBounds_toArray, List.set_cons_succ, List.set_cons_zero]
                  refine flow_val (v := ?_) rfl ?_ ?_; rotate_left; (intro W hW; go_simp; with_reducible rfl)
                  simp only [Act.put, List.setIfInBounds_toArray, List.set_cons_succ, List.set_cons_zero]
                  refine flow_dead rfl rfl (by simp [*]) ?_
                  simp only [Act.put, List.setIfInBounds_toArray, List.set_cons_succ, List.set_cons_zero]
                  refine flow_dead rfl rfl (by simp [*]) ?_
                  simp only [Act.put, List.setIfInBounds_toArray, List.set_cons_succ, List.set_cons_zero]
                  refine flow_dead rfl rfl (by simp [*]) ?_
                  simp only [Act.put, List.setIfInBounds_toArray, List.set_cons_succ, List.set_cons_zero]
                  refine flow_dead rfl rfl (by simp [*]) ?_
                  simp only [Act.put, List.setIfInBounds_toArray, List.set_cons_succ, List.set_cons_zero]
                  refine flow_dead rfl rfl (by simp [*]) ?_
                  simp only [Act.put, List.setIfInBounds_toArray, List.set_cons_succ, List.set_cons_zero]
                  refine flow_dead rfl rfl (by simp [*]) ?_
                  simp only [Act.put, List.setIfInBounds_toArray, List.set_cons_succ, List.set_cons_zero]
                  refine flow_dead rfl rfl (by simp [*]) ?_
                  simp only [Act.put, List.setIfInBounds_toArray, List.set_cons_succ, List.set_cons_zero]
                  refine flow_dead rfl rfl (by simp [*]) ?_
                  simp only [Act.put, List.setIfInBounds_toArray, List.set_cons_succ, List.set_cons_zero]
                  refine flow_dead rfl rfl (by simp [*]) ?_
                  simp only [Act.put, List.setIfInBounds_toArray, List.set_cons_succ, List.set_cons_zero]
                  refine flow_dead rfl rfl (by simp [*]) ?_
                  simp only [Act.put, List.setIfInBounds_toArray, List.set_cons_succ, List.set_cons_zero]
                  refine flow_dead rfl rfl (by simp [*]) ?_
                  simp only [Act.put, List.setIfInBounds_toArray, List.set_cons_succ, List.set_cons_zero]
                  refine flow_dead rfl rfl (by simp [*]) ?_
                  simp only [Act.put, List.setIfInBounds_toArray, List.set_cons_succ, List.set_cons_zero]
                  refine flow_dead rfl rfl (by simp [*]) ?_
                  simp only [Act.put, List.setIfInBounds_toArray, List.set_cons_succ, List.set_cons_zero]
                  refine flow_dead rfl rfl (by simp [*]) ?_
                  simp only [Act.put, List.setIfInBounds_toArray, List.set_cons_succ, List.set_cons_zero]
                  first | refine flow_or rfl rfl ?_ | (refine flow_val (v := ?_) rfl ?_ ?_; rotate_left; (intro W hW; go_simp; with_reducible rfl))
                  simp only [Act.put, List.setIfInBounds_toArray, List.set_cons_succ, List.set_cons_zero]
                  intro W2 hW2
                  have HW2 := Lib.hid hW2
                  rw [Hx.out.1, Hx.out.2]
                  clear hx2' hW2 m1 m2
                  go_wp2
                  go_ret
                  exact ⟨ret_false (by rw [hr.out]; refine range_all_stop hlt ?_; rw [getD_of Hes.out]; simp only [rowOkB]; rw [Bool.and_eq_false_iff]; exact .inr (range_all_stop hlt2 (by rw [getD_of He.out]; simp [endOkB, hasPortB, Hes1.out, Hx.out.2]))), Since.after Hb0.out (Hs1.out.after HW2.out)⟩
              · have hx1' : inB 0 ((n.ends.length : Int) - 1) x1 = false := by simpa using hx1
                have Hx := Lib.hid hx1'
                clear hx1
                have m1 : IntKind.i64.wrap ((n.ends.length : Int) - 1) = n.ends.length - 1 := wr64 _ (by omega) (by omega)
                refine wp_region_flow 38 (Since w1) (by kernel_rfl) (by kernel_rfl) (by simp) (since_drew (since_refl _)) ?_
                simp only [List.take_succ_cons, List.take_zero, List.drop_succ_cons, List.drop_zero]
                refine flow_val (v := ?_) rfl ?_ ?_; rotate_left; (intro W hW; go_simp; with_reducible rfl)
                simp only [Act.put, List.setIfInBounds_toArray, List.set_cons_succ, List.set_cons_zero]
                refine flow_val (v := ?_) rfl ?_ ?_; rotate_left; (intro W hW; go_simp; with_reducible rfl)
                simp only [Act.put, List.setIfInBounds_toArray, List.set_cons_succ, List.set_cons_zero]
                refine flow_val (v := ?_) rfl ?_ ?_; rotate_left; (intro W hW; go_simp; with_reducible rfl)
                simp only [Act.put, List.setIfInBounds_toArray, List.set_cons_succ, List.set_cons_zero]
                refine flow_val (v := ?_) rfl ?_ ?_; rotate_left; (intro W hW; go_simp; with_reducible rfl)
                simp only [Act.put, List.setIfInBounds_toArray, List.set_cons_succ, List.set_cons_zero]
                refine flow_val (v := ?_) rfl ?_ ?_; rotate_left; (intro W hW; go_simp; with_reducible rfl)
                simp only [Act.put, List.setIfInBounds_toArray, List.set_cons_succ, List.set_cons_zero]
                refine flow_val (v := ?_) rfl ?_ ?_; rotate_left; (intro W hW; go_simp; with_reducible rfl)
                simp only [Act.put, List.setIfInBounds_toArray, List.set_cons_succ, List.set_cons_zero]
                refine flow_op ?_ rfl ?_ ?_; rotate_left; (intro W hW; unfold Gives; go_simp; (with_reducible refine (l1In_b _ _ _ W).mono ?_); rintro e W' ⟨rfl, hb3⟩; first | (refine ⟨?_, Since.trans hW hb3⟩; with_reducible rfl) | (subst hb3; refine ⟨?_, hW⟩; with_reducible rfl))
                simp only [Act.put, List.setIfInBounds_toArray, List.set_cons_succ, List.set_cons_zero]
                refine flow_val (v := ?_) rfl ?_ ?_; rotate_left; (intro W hW; go_simp; with_reducible rfl)
                simp only [Act.put, List.setIfInBounds_toArray, List.set_cons_succ, List.set_cons_zero]
                refine flow_val (v := ?_) rfl ?_ ?_; rotate_left; (intro W hW; go_simp; with_reducible rfl)
                simp only [Act.put, List.setIfInBounds_toArray, List.set_cons_succ, List.set_cons_zero]
                refine flow_dead rfl rfl (by simp [*]) ?_
                simp only [Act.put, List.setIfInBounds_toArray, List.set_cons_succ, List.set_cons_zero]
                refine flow_dead rfl rfl (by simp [*]) ?_
                simp only [Act.put, List.setIfInBounds_toArray, List.set_cons_succ, List.set_cons_zero]
                refine flow_dead rfl rfl (by simp [*]) ?_
                simp only [Act.put, List.setIfInBounds_toArray, List.set_cons_succ, List.set_cons_zero]
                refine flow_dead rfl rfl (by simp [*]) ?_
                simp only [Act.put, List.setIfInBounds_toArray, List.set_cons_succ, List.set_cons_zero]
                refine flow_dead rfl rfl (by simp [*]) ?_
                simp only [Act.put, List.setIfInBounds_toArray, List.set_cons_succ, List.set_cons_zero]
                refine flow_dead rfl rfl (by simp [*]) ?_
                simp only [Act.put, List.setIfInBounds_toArray, List.set_cons_succ, List.set_cons_zero]
                refine flow_dead rfl rfl (by simp [*]) ?_
                simp only [Act.put, List.setIfInBounds_toArray, List.set_cons_succ, List.set_cons_zero]
                refine flow_dead rfl rfl (by simp [*]) ?_
                simp only [Act.put, List.setIfInBounds_toArray, List.set_cons_succ, List.set_cons_zero]
                refine flow_dead rfl rfl (by simp [*]) ?_
                simp only [Act.put, List.setIfInBounds_toArray, List.set_cons_succ, List.set_cons_zero]
                refine flow_dead rfl rfl (by simp [*]) ?_
                simp only [Act.put, List.setIfInBounds_toArray, List.set_cons_succ, List.set_cons_zero]
                refine flow_dead rfl rfl (by simp [*]) ?_
                simp only [Act.put, List.setIfInBounds_toArray, List.set_cons_succ, List.set_cons_zero]
                refine flow_dead rfl rfl (by simp [*]) ?_
                simp only [Act.put, List.setIfInBounds_toArray, List.set_cons_succ, List.set_cons_zero]
                first | refine flow_or rfl rfl ?_ | (refine flow_val (v := ?_) rfl ?_ ?_; rotate_left; (intro W hW; go_simp; with_reducible rfl))
                simp only [Act.put, List.setIfInBounds_toArray, List.set_cons_succ, List.set_cons_zero]
                refine flow_val (v := ?_) rfl ?_ ?_; rotate_left; (intro W hW; go_simp; with_reducible rfl)
                simp only [Act.put, List.setIfInBounds_toArray, List.set_cons_succ, List.set_cons_zero]
                refine flow_dead rfl rfl (by simp [*]) ?_
                simp only [Act.put, List.setIfInBounds_toArray, List.set_cons_succ, List.set_cons_zero]
                refine flow_dead rfl rfl (by simp [*]) ?_
                simp only [Act.put, List.setIfInBounds_toArray, List.set_cons_succ, List.set_cons_zero]
                refine flow_dead rfl rfl (by simp [*]) ?_
                simp only [Act.put, List.setIfInBounds_toArray, List.set_cons_succ, List.set_cons_zero]
                refine flow_dead rfl rfl (by simp [*]) ?_
                simp only [Act.put, List.setIfInBounds_toArray, List.set_cons_succ, List.set_cons_zero]
                refine flow_dead rfl rfl (by simp [*]) ?_
                simp only [Act.put, List.setIfInBounds_toArray, List.set_cons_succ, List.set_cons_zero]
                refine flow_dead rfl rfl (by simp [*]) ?_
                simp only [Act.put, List.setIfInBounds_toArray, List.set_cons_succ, List.set_cons_zero]
                refine flow_dead rfl rfl (by simp [*]) ?_
                simp only [Act.put, List.setIfInBounds_toArray, List.set_cons_succ, List.set_cons_zero]
                refine flow_dead rfl rfl (by simp [*]) ?_
                simp only [Act.put, List.setIfInBounds_toArray, List.set_cons_succ, List.set_cons_zero]
                refine flow_dead rfl rfl (by simp [*]) ?_
                simp only [Act.put, List.setIfInBounds_toArray, List.set_cons_succ, List.set_cons_zero]
                refine flow_dead rfl rfl (by simp [*]) ?_
                simp only [Act.put, List.setIfInBounds_toArray, List.set_cons_succ, List.set_cons_zero]
                refine flow_dead rfl rfl (by simp [*]) ?_
                simp only [Act.put, List.setIfInBounds_toArray, List.set_cons_succ, List.set_cons_zero]
                refine flow_dead rfl rfl (by simp [*]) ?_
                simp only [Act.put, List.setIfInBounds_toArray, List.set_cons_succ, List.set_cons_zero]
                refine flow_dead rfl rfl (by simp [*]) ?_
                simp only [Act.put, List.setIfInBounds_toArray, List.set_cons_succ, List.set_cons_zero]
                refine flow_dead rfl rfl (by simp [*]) ?_
                simp only [Act.put, List.setIfInBounds_toArray, List.set_cons_succ, List.set_cons_zero]
                first | refine flow_or rfl rfl ?_ | (refine flow_val (v := ?_) rfl ?_ ?_; rotate_left; (intro W hW; go_simp; with_reducible rfl))
                simp only [Act.put, List.setIfInBounds_toArray, List.set_cons_succ, List.set_cons_zero]
                intro W2 hW2
                have HW2 := Lib.hid hW2
                rw [Hx.out]
                clear hx1' hW2 m1
                go_wp2
                go_ret
                exact ⟨ret_false (by rw [hr.out]; refine range_all_stop hlt ?_; rw [getD_of Hes.out]; simp only [rowOkB]; rw [Bool.and_eq_false_iff]; exact .inr (range_all_stop hlt2 (by rw [getD_of He.out]; simp [endOkB, hasPortB, Hx.out]))), Since.after Hb0.out (Hs1.out.after HW2.out)⟩
            · obtain rfl : j = es.length := by omega
              go_wp2
              go_roundw
              case rel => exact ⟨k + 1, by omega, by go_num, by rw [range_all_succ, Hall.out, getD_of Hes.out, Bool.true_and]; unfold rowOkB; rw [Hall2.out]; simp [h6], hbq⟩
              case measure => simp [intOf]; omega
        · go_wp2
          go_ret
          exact ⟨ret_false (by rw [hr.out]; exact range_all_stop hlt (by rw [getD_of Hes.out]; simp [rowOkB, h6])), Since.after Hb0.out hbr⟩
      · obtain rfl : k = n.ends.length := by omega
        go_wp2
        go_ret
        exact ⟨ret_true (by rw [hr.out]; exact Hall.out), Since.after Hb0.out hbr⟩
  · have hr := Lib.hid (show netOk n = false by
      simp only [Bool.or_eq_true, Bool.not_eq_true', bne_iff_ne, ne_eq] at hg
      rcases hg with ((hg | hg) | hg) | hg <;> simp [netOk, hg, ← sIds_eq, inputsB])
    have Hg := Lib.hid hg
    have HW := Lib.hid hW
    clear hg
    go_wp2
    go_ret
    exact ⟨ret_false hr.out, Since.after Hb0.out HW.out⟩
end Go.Proofs.YtomnaabadohecaaGreat
namespace Go.Proofs.YtomnaabadohecaaGreat
open Go.RowKit
theorem netOk_len {n : Net} (h : netOk n = true) : 1 ≤ n.ends.length ∧ n.ends.length ≤ 40 := by
  unfold netOk at h
  simp only [Bool.and_eq_true] at h
  have := inB_iff.1 h.1.1.1
  omega
theorem hasPort_lt {ess : List (List (Int × Int))} {v i : Int} (hp : hasPortB ess v i = true) : 0 ≤ v ∧ v < ess.length := by
  unfold hasPortB at hp
  rw [Bool.and_eq_true] at hp
  have := inB_iff.1 hp.1
  omega
end Go.Proofs.YtomnaabadohecaaGreat
namespace Go.Proofs.YtomnaabadohecaaGreat
open Go.RowKit
end Go.Proofs.YtomnaabadohecaaGreat
namespace Go.Proofs.YtomnaabadohecaaGreat
open Go.RowKit
theorem Own.since {w w' : World} {base : Nat} {v : Value} {xs : List Int} (h : Own w base v xs) (hs : Since w w') : Own w' base v xs := h.keep hs
/-- append of one integer to a row of its own, behind w0 -/
theorem app_int_s {w w0 : World} {ops : Array Oper} {rest : List Oper} {o : Oper} {a : Act} {Q : Exit → Act → World → Prop} (hgd : o.guard = none) (s x : Operand)
    (ho : o.op = .call { callee := .builtin .append, args := #[s, x], argTypes := #[24, 24] }) {v : Value} {xs : List Int} (hs : a.eval s = v) (h : Own w w0.heap.size v xs) (b : Nat) (y : Int)
    (hx : a.eval x = .slice (some ⟨b, 0, none⟩) 1 1) (hc : w.cell? ⟨b, 0, none⟩ = some (.int .i64 y)) (hl : xs.length + 1 ≤ 17592186044416) (hsn : Since w0 w)
    (k : ∀ g cap w', Own w' w0.heap.size (.slice (some ⟨g, 0, none⟩) (xs.length + 1) cap) (xs ++ [y]) → Since w0 w' → wpList Tryz.prog ops Q rest (a.put o.dst (.slice (some ⟨g, 0, none⟩) (xs.length + 1) cap)) w') : wpList Tryz.prog ops Q (o :: rest) a w := by
  refine app_int hgd s x ho hs h b y hx hc hl hsn.size ?_
  intro g cap w' h1 h2 h3 h4
  exact k g cap w' h1 (Below.grown hsn h2 hsn.size (fun j hj => (World.ownsRow.lt h j hj).1))
theorem row_at {w : World} {v : Value} {ess : List (List (Int × Int))} {k : Nat} {es : List (Int × Int)} (h : EndSS w v ess) (hes : ess[k]? = some es) :
    ∃ (b off c : Nat) (u : Value), v = .slice (some ⟨b, off, none⟩) ess.length c ∧ k < ess.length ∧ w.cell? ⟨b, off + k, none⟩ = some u ∧ EndS w u es := by
  obtain ⟨A, c, rfl, hlc, hm, hA⟩ := h
  obtain ⟨b, off, u, rfl, hc, hrow⟩ := hA k es hes
  exact ⟨b, off, c, u, rfl, lt_of_get hes, hc, hrow⟩
end Go.Proofs.YtomnaabadohecaaGreat
namespace Go.Proofs.YtomnaabadohecaaGreat
end Go.Proofs.YtomnaabadohecaaGreat
namespace Go.Proofs.YtomnaabadohecaaGreat
open Go.RowKit
theorem netOk_row {n : Net} (h : netOk n = true) {k : Nat} {es : List (Int × Int)} (hes : n.ends[k]? = some es) : es.length ≤ 6 ∧ ∀ e ∈ es, 0 ≤ e.1 ∧ e.1 < n.ends.length := by
  have hk := lt_of_get hes
  have h' := h
  unfold netOk at h
  rw [Bool.and_eq_true, List.all_eq_true] at h
  have := h.2 k (List.mem_range.2 hk)
  rw [getD_of hes] at this
  unfold rowOkB at this
  rw [Bool.and_eq_true, List.all_eq_true] at this
  refine ⟨by simpa using this.1, fun e he => ?_⟩
  obtain ⟨j, hj⟩ := List.getElem?_of_mem he
  have := this.2 j (List.mem_range.2 (lt_of_get hj))
  rw [getD_of hj] at this
  unfold endOkB at this
  rw [Bool.and_eq_true] at this
  exact hasPort_lt this.1
end Go.Proofs.YtomnaabadohecaaGreat
namespace Go.Proofs.YtomnaabadohecaaGreat
open Go.RowKit
theorem Own.clear {base g n c : Nat} (m : Nat) : ∀ {w : World} {xs : List Int} (o : Nat), Own w base (.slice (some ⟨g, 0, none⟩) n c) xs → ∃ ys, Own (w.setCells g o (List.replicate m (.int .i64 0))) base (.slice (some ⟨g, 0, none⟩) n c) ys ∧ ys.take o = xs.take o := by
  induction m with
  | zero => intro w xs o h; exact ⟨xs, h, rfl⟩
  | succ m ih =>
    intro w xs o h
    obtain ⟨ys, h1, h2⟩ := ih (o + 1) (h.set (k := o) 0)
    refine ⟨ys, h1, ?_⟩
    have := congrArg (List.take o) h2
    rw [List.take_take, List.take_take, Nat.min_eq_left (by omega)] at this
    rw [this]
    apply List.ext_getElem?
    intro j
    rw [List.getElem?_take, List.getElem?_take]
    split
    · rw [List.getElem?_set_ne (by omega)]
    · rfl
end Go.Proofs.YtomnaabadohecaaGreat
namespace Go.Proofs.YtomnaabadohecaaGreat
open Go.RowKit
theorem Own.grown {w w' : World} {base : Nat} {v : Value} {xs : List Int} {row : Option Nat} (h : Own w base v xs) (hg : w.grownBy w' row) (hd : ∀ q, v.ownBlock = some q → row ≠ some q) : Own w' base v xs :=
  ownsRow_stable h fun q hq => hg.block q (World.ownsRow.lt h q (by simpa using hq)).2 (fun e => hd q (by simpa using hq) e.symm)
end Go.Proofs.YtomnaabadohecaaGreat
namespace Go.Proofs.YtomnaabadohecaaGreat
open Go.RowKit
end Go.Proofs.YtomnaabadohecaaGreat
namespace Go.Proofs.YtomnaabadohecaaGreat
open Go.RowKit
def allB (ls : List Int) (lo hi : Int) : Bool := ls.all (inB lo hi)
theorem l1All_b (v : Value) (xs : List Int) (lo hi : Int) (w : World) (h : IntS w v xs) :
    Calls Tryz.prog 147 #[v, .int .i64 lo, .int .i64 hi] w fun e w' => e = .returned (.bool (allB xs lo hi)) ∧ w = w' := l1All_any v xs lo hi w h
theorem allWithin_b (v : Value) (xs : List Int) (lo hi : Int) (w : World) (h : IntS w v xs) :
    Calls Tryz.prog 152 #[v, .int .i64 lo, .int .i64 hi] w fun e w' => e = .returned (.bool (allB xs lo hi)) ∧ Below w.heap.size w w' := allWithin_any v xs lo hi w h
end Go.Proofs.YtomnaabadohecaaGreat
namespace Go.Proofs.YtomnaabadohecaaGreat
open Go.RowKit
end Go.Proofs.YtomnaabadohecaaGreat
namespace Go.Proofs.YtomnaabadohecaaGreat
open Go.RowKit
/-! the search for solutions, plain law -/
structure Prob where
  labels : Int
  degree : Int
  nodes : List (List Int)
  edges : List (List Int)
def known (row : List Int) : List Int := row.filter fun a => decide (0 ≤ a)
end Go.Proofs.YtomnaabadohecaaGreat
namespace Go.Proofs.YtomnaabadohecaaGreat
open Go.RowKit
/-! problems (written by tools/probgen.py) -/
def PrIn (w : World) (a b : Value) (x : Prob) : Prop := IntSS w a x.nodes ∧ IntSS w b x.edges
theorem PrIn.keep {w w' : World} {a b : Value} {x : Prob} (h : PrIn w a b x) (hb : Below w.heap.size w w') : PrIn w' a b x := ⟨h.1.keep hb, h.2.keep hb⟩
end Go.Proofs.YtomnaabadohecaaGreat
namespace Go.Proofs.YtomnaabadohecaaGreat
open Go.ChangeShapes Go.WideShapes Go.ChangeAt Go.RowKit Go.Joins Go.Deep
/-! problems and lists of lists, opened -/
section
variable {H : Type} {enc : TypeId × Value → H} {W : World}
end
end Go.Proofs.YtomnaabadohecaaGreat
