import Derived.Test.YtbfoefkfcnaimaaGreatMod1
namespace Go.Proofs.YtbfoefkfcnaimaaGreat
open Go.RowKit
set_option maxHeartbeats 4000000 in
theorem coThrough_any (vl va : Value) (ls at' : List Int) (w : World) (hl : IntS w vl ls) (ha : IntS w va at') (hle : at'.length ≤ 1000000) (hin : ∀ x ∈ at', 0 ≤ x ∧ x < ls.length) :
    Calls Tryz.prog 79 #[vl, va] w fun e w' => ∃ u, e = .returned u ∧ Own w' w.heap.size u (at'.map fun x => ls.getD x.toNat 0) ∧ Below w.heap.size w w' := by
  have HL := Lib.hid hl
  have Hin := Lib.hid hin
  obtain ⟨AL, cL, rfl, hlL, hmL, _⟩ := hl
  obtain ⟨A1, z1, rfl, hz1, hz2, hA1⟩ := ha
  unfold maxLen at hmL hz2
  have HA1 := Lib.hid hA1
  have hs0 : Since w w := since_refl _
  clear hA1 hin
  go_enter Tryz.func79, Tryz.ntmps79
  go_wp2
  go_loopw [5, 10] (fun u i wr => ∃ j : Nat, j ≤ at'.length ∧ i = .int .i64 j ∧ Own wr w.heap.size u ((at'.take j).map fun x => ls.getD x.toNat 0) ∧ Since w wr) (fun _ i _ => at'.length - (intOf i).toNat)
  case atStart => exact ⟨0, Nat.zero_le _, rfl, by simpa using own_nil w w.heap.size, hs0⟩
  case round =>
    obtain ⟨j, hj, rfl, ho, hs⟩ := hrel
    have Ho := Lib.hid ho
    clear hs0 ho
    by_cases hlt : j < at'.length
    · obtain ⟨x1, hx⟩ := getx at' j hlt
      obtain ⟨b1, off1, rfl, hd1⟩ := HA1.out j _ hx
      obtain ⟨i1, i2⟩ := Hin.out _ (List.mem_of_getElem? hx)
      obtain ⟨m1, bl, ol, cl, y, rfl, hv, hm1, hg0, hg1, hd3⟩ := lab_at HL.out i1 i2
      cases hv
      have t1 := have_cell hd1
      have t3 := have_cell hd3
      have Hx := Lib.hid hx
      have Hg := Lib.hid hg1
      have hlen : Hid (((at'.take j).map fun x => ls.getD x.toNat 0).length + 1 ≤ 17592186044416) := by show _ ≤ _; simp; omega
      have E2 : Hid (((at'.take j).map fun x => ls.getD x.toNat 0).length = j) := by show _ = _; simp; omega
      clear hx hd1 hd3 hg0 hg1
      go_wp2_with (at_builtin; refine app_int_s rfl _ _ rfl rfl (Ho.out.since (since_alloc _ (since_refl _))) wr.heap.size y rfl (by simp [go_sem]) hlen.out (since_alloc _ hs) ?_; intro g cc w2 ho2 hs2)
      have e1 : ((at'.take j).map fun x => ls.getD x.toNat 0) ++ [y] = (at'.take (j + 1)).map fun x => ls.getD x.toNat 0 := by rw [take_snoc Hx.out]; simp only [List.map_append, List.map_cons, List.map_nil, Hg.out]
      rw [e1] at ho2
      have Ho2 := Lib.hid ho2
      have Hs2 := Lib.hid hs2
      clear ho2 hs2 hs e1
      go_wp2
      go_roundw
      case rel => exact ⟨j + 1, by omega, by go_num, by first | exact Ho2.out | (have := Ho2.out; rw [E2.out] at this; exact this), Hs2.out⟩
      case measure => simp [intOf]; omega
    · obtain rfl : j = at'.length := by omega
      go_wp2
      go_ret
      exact ⟨_, rfl, by have := Ho.out; rwa [List.take_length] at this, hs⟩
/-- the reference's test of distances -/
def forS (own : Int) (xs : List Int) : Bool := (xs.all fun x => x == own - 1 || x == own + 1) && ((own == 0 && (xs.countP (fun x => x == own - 1) == 0)) || (decide (0 < own) && (xs.countP (fun x => x == own - 1) == 1)))
/-- the program's test of distances -/
def forI (own : Int) (xs : List Int) : Bool := if own = 0 then xs.countP (fun x => x == own + 1) == xs.length else (xs.countP (fun x => x == own - 1) == 1) && (((xs.countP (fun x => x == own + 1) : Nat) : Int) == (xs.length : Int) - 1)
theorem for_eq {own : Int} {xs : List Int} (h0 : 0 ≤ own) : forI own xs = forS own xs := by
  have hs := count_sum (p := fun x => x == own - 1) (q := fun x => x == own + 1) (xs := xs) (fun x _ hp => by
    simp only [beq_iff_eq] at hp
    simp; omega)
  unfold forI forS
  generalize xs.countP (fun x => x == own - 1) = a at *
  generalize xs.countP (fun x => x == own + 1) = b at *
  rw [Bool.eq_iff_iff]
  by_cases h : own = 0
  · rw [if_pos h]
    simp only [Bool.and_eq_true, decide_eq_true_eq, beq_iff_eq, Bool.or_eq_true, List.all_eq_true] at *
    rw [← hs.2]
    omega
  · rw [if_neg h]
    simp only [Bool.and_eq_true, decide_eq_true_eq, beq_iff_eq, Bool.or_eq_true, List.all_eq_true] at *
    rw [← hs.2]
    omega
set_option maxHeartbeats 4000000 in
theorem plForest_any (own : Int) (va : Value) (xs : List Int) (w : World) (h0 : 0 ≤ own) (h1 : own ≤ 999999999999) (ha : IntS w va xs) (hle : xs.length ≤ 1000000) :
    Calls Tryz.prog 80 #[.int .i64 own, va] w fun e w' => e = .returned (.bool (forS own xs)) ∧ Below w.heap.size w w' := by
  obtain ⟨A1, z1, rfl, hz1, hz2, hA1⟩ := ha
  unfold maxLen at hz2
  have HA1 := Lib.hid hA1
  clear hA1
  go_enter Tryz.func80, Tryz.ntmps80
  go_wp2
  go_loop [5, 10] (fun c i => ∃ j : Nat, j ≤ xs.length ∧ i = .int .i64 j ∧ c = .int .i64 (((xs.take j).countP fun x => x == own - 1 : Nat) : Int) ∧ ((xs.take j).all fun x => x == own - 1 || x == own + 1) = true) (fun _ i => xs.length - (intOf i).toNat)
  case atStart => exact ⟨0, Nat.zero_le _, rfl, by simp, by simp⟩
  case round =>
    obtain ⟨j, hj, rfl, rfl, hall⟩ := hrel
    have Hall := Lib.hid hall
    have hcb : ((xs.take j).countP fun x => x == own - 1) ≤ 1000000 := by
      have := List.countP_le_length (p := fun x => x == own - 1) (l := xs.take j)
      simp at this ⊢
      omega
    clear hall
    generalize hc : ((xs.take j).countP fun x => x == own - 1) = c at hcb ⊢
    have Hc := Lib.hid hc
    clear hc
    by_cases hlt : j < xs.length
    · obtain ⟨y, hx⟩ := getx xs j hlt
      obtain ⟨b1, off1, rfl, hd1⟩ := HA1.out j y hx
      have Hx := Lib.hid hx
      clear hx
      cases f1 : (y == own - 1)
      · cases f2 : (y == own + 1)
        · have F := Lib.hid (And.intro f1 f2)
          have f3 : (y != own + 1) = true := by simp [bne, f2]
          go_wp2
          go_ret
          refine ⟨ret_false ?_, Below.refl _ _⟩
          unfold forS
          rw [Bool.and_eq_false_iff]
          left
          rw [List.all_eq_false]
          exact ⟨y, List.mem_of_getElem? Hx.out, by simp [F.out.1, F.out.2]⟩
        · have F := Lib.hid (And.intro f1 f2)
          have f3 : (y != own + 1) = false := by simp [bne, f2]
          go_wp2
          go_round
          case rel => exact ⟨j + 1, by omega, by go_num, by rw [take_snoc Hx.out, countP_snoc, Hc.out]; simp [F.out.1], by rw [take_snoc Hx.out, List.all_append, Hall.out]; simp [F.out.2]⟩
          case measure => simp [intOf]; omega
      · have F := Lib.hid f1
        go_wp2
        go_round
        case rel => exact ⟨j + 1, by omega, by go_num, by rw [take_snoc Hx.out, countP_snoc, Hc.out]; simp [F.out], by rw [take_snoc Hx.out, List.all_append, Hall.out]; simp [F.out]⟩
        case measure => simp [intOf]; omega
    · obtain rfl : j = xs.length := by omega
      have hr : Hid (forS own xs = ((own == 0 && (c == 0)) || (decide (0 < own) && (c == 1)))) := by
        show _ = _
        have h1 := Hall.out
        have h2 := Hc.out
        rw [List.take_length] at h1 h2
        unfold forS
        rw [h1, h2, Bool.true_and]
      go_upto_region 10 with (fail)
      refine wp_region_flow0 15 (Since w) (since_refl _) ?_
      simp only [List.take_succ_cons, List.take_zero, List.drop_succ_cons, List.drop_zero]
      refine flow_val (v := ?_) rfl ?_ ?_; rotate_left; (intro W hW; go_simp; with_reducible rfl)
      simp only [Act.put, List.setIfInBounds_toArray, List.set_cons_succ, List.set_cons_zero]
      refine flow_val (v := ?_) rfl ?_ ?_; rotate_left; (intro W hW; go_simp; with_reducible rfl)
      simp only [Act.put, List.setIfInBounds_toArray, List.set_cons_succ, List.set_cons_zero]
      refine flow_val (v := ?_) rfl ?_ ?_; rotate_left; (intro W hW; go_simp; with_reducible rfl)
      simp only [Act.put, List.setIfInBounds_toArray, List.set_cons_succ, List.set_cons_zero]
      refine flow_gval (v := ?_) rfl rfl ?_ ?_; rotate_left; (intro hb W hW; go_simp; with_reducible rfl)
      simp only [Act.put, List.setIfInBounds_toArray, List.set_cons_succ, List.set_cons_zero]
      refine flow_gval (v := ?_) rfl rfl ?_ ?_; rotate_left; (intro hb W hW; go_simp; with_reducible rfl)
      simp only [Act.put, List.setIfInBounds_toArray, List.set_cons_succ, List.set_cons_zero]
      first | refine flow_and rfl rfl ?_ | (refine flow_val (v := ?_) rfl ?_ ?_; rotate_left; (intro W hW; go_simp; with_reducible rfl))
      simp only [Act.put, List.setIfInBounds_toArray, List.set_cons_succ, List.set_cons_zero]
      refine flow_val (v := ?_) rfl ?_ ?_; rotate_left; (intro W hW; go_simp; with_reducible rfl)
      simp only [Act.put, List.setIfInBounds_toArray, List.set_cons_succ, List.set_cons_zero]
      refine flow_gval (v := ?_) rfl rfl ?_ ?_; rotate_left; (intro hb W hW; go_simp; with_reducible rfl)
      simp only [Act.put, List.setIfInBounds_toArray, List.set_cons_succ, List.set_cons_zero]
      refine flow_gval (v := ?_) rfl rfl ?_ ?_; rotate_left; (intro hb W hW; go_simp; with_reducible rfl)
      simp only [Act.put, List.setIfInBounds_toArray, List.set_cons_succ, List.set_cons_zero]
      refine flow_gval (v := ?_) rfl rfl ?_ ?_; rotate_left; (intro hb W hW; go_simp; with_reducible rfl)
      simp only [Act.put, List.setIfInBounds_toArray, List.set_cons_succ, List.set_cons_zero]
      refine flow_gval2 (v := ?_) rfl rfl ?_ ?_; rotate_left; (intro hb hb2 W hW; go_simp; with_reducible rfl)
      simp only [Act.put, List.setIfInBounds_toArray, List.set_cons_succ, List.set_cons_zero]
      refine flow_gval2 (v := ?_) rfl rfl ?_ ?_; rotate_left; (intro hb hb2 W hW; go_simp; with_reducible rfl)
      simp only [Act.put, List.setIfInBounds_toArray, List.set_cons_succ, List.set_cons_zero]
      refine flow_gand rfl rfl rfl ?_
      simp only [Act.put, List.setIfInBounds_toArray, List.set_cons_succ, List.set_cons_zero]
      first | refine flow_or rfl rfl ?_ | (refine flow_val (v := ?_) rfl ?_ ?_; rotate_left; (intro W hW; go_simp; with_reducible rfl))
      simp only [Act.put, List.setIfInBounds_toArray, List.set_cons_succ, List.set_cons_zero]
      refine flow_val (v := ?_) rfl ?_ ?_; rotate_left; (intro W hW; go_simp; with_reducible rfl)
      simp only [Act.put, List.setIfInBounds_toArray, List.set_cons_succ, List.set_cons_zero]
      intro W2 hW2
      have HW2 := Lib.hid hW2
      clear hW2
      go_wp2
      go_ret
      refine ⟨ret_bool ?_, HW2.out⟩
      rw [hr.out, cast_beq1, cast_beq0]
set_option maxHeartbeats 4000000 in
theorem acceptsForest_any (own : Int) (va : Value) (xs : List Int) (w : World) (h0 : 0 ≤ own) (h1 : own ≤ 999999999999) (ha : IntS w va xs) (hle : xs.length ≤ 1000000) :
    Calls Tryz.prog 60 #[.int .i64 own, va] w fun e w' => e = .returned (.bool (forI own xs)) ∧ Below w.heap.size w w' := by
  obtain ⟨A1, z1, rfl, hz1, hz2, hA1⟩ := ha
  unfold maxLen at hz2
  have HA1 := Lib.hid hA1
  clear hA1
  go_enter Tryz.func60, Tryz.ntmps60
  go_wp2
  go_loop [5, 6, 11] (fun c g i => ∃ j : Nat, j ≤ xs.length ∧ i = .int .i64 j ∧ c = .int .i64 (((xs.take j).countP fun x => x == own - 1 : Nat) : Int) ∧ g = .int .i64 (((xs.take j).countP fun x => x == own + 1 : Nat) : Int)) (fun _ _ i => xs.length - (intOf i).toNat)
  case atStart => exact ⟨0, Nat.zero_le _, rfl, by simp, by simp⟩
  case round =>
    obtain ⟨j, hj, rfl, rfl, rfl⟩ := hrel
    have hcb : ((xs.take j).countP fun x => x == own - 1) ≤ 1000000 ∧ ((xs.take j).countP fun x => x == own + 1) ≤ 1000000 := by
      have h1 := List.countP_le_length (p := fun x => x == own - 1) (l := xs.take j)
      have h2 := List.countP_le_length (p := fun x => x == own + 1) (l := xs.take j)
      simp at h1 h2 ⊢
      omega
    generalize hc : ((xs.take j).countP fun x => x == own - 1) = c at hcb ⊢
    generalize hg : ((xs.take j).countP fun x => x == own + 1) = g at hcb ⊢
    obtain ⟨hcb, hgb⟩ := hcb
    have Hc := Lib.hid hc
    have Hg := Lib.hid hg
    clear hc hg
    by_cases hlt : j < xs.length
    · obtain ⟨y, hx⟩ := getx xs j hlt
      obtain ⟨b1, off1, rfl, hd1⟩ := HA1.out j y hx
      have Hx := Lib.hid hx
      clear hx
      cases f1 : (y == own - 1)
      all_goals
        cases f2 : (y == own + 1)
      all_goals
        have F := Lib.hid (And.intro f1 f2)
        go_wp2_with (go_at_call 75; refine (oneIf_any _ _).mono ?_; rintro e w' ⟨rfl, rfl⟩)
        go_round
        case rel => exact ⟨j + 1, by omega, by go_num, by rw [take_snoc Hx.out, countP_snoc, Hc.out, F.out.1]; simp, by rw [take_snoc Hx.out, countP_snoc, Hg.out, F.out.2]; simp⟩
        case measure => simp [intOf]; omega
    · obtain rfl : j = xs.length := by omega
      have h1 := Hc.out
      have h2 := Hg.out
      rw [List.take_length] at h1 h2
      by_cases ho : own = 0
      · have hr : Hid (forI own xs = (g == xs.length)) := by
          show _ = _
          unfold forI
          rw [if_pos ho, h2]
        have ho' : (own == 0) = true := by simp [ho]
        have Ho := Lib.hid ho
        clear h1 h2 ho
        go_wp2
        go_ret
        refine ⟨ret_bool ?_, Below.refl _ _⟩
        rw [hr.out, Bool.eq_iff_iff]; simp <;> omega
      · have hr : Hid (forI own xs = ((c == 1) && ((g : Int) == (xs.length : Int) - 1))) := by
          show _ = _
          unfold forI
          rw [if_neg ho, h1, h2]
        have ho' : (own == 0) = false := by simpa using ho
        have m1 : IntKind.i64.wrap ((xs.length : Int) - 1) = (xs.length : Int) - 1 := wr64 _ (by omega) (by omega)
        clear h1 h2
        go_upto_region 10 with (fail)
        refine wp_region_flow0 10 (Since w) (since_refl _) ?_
        simp only [List.take_succ_cons, List.take_zero, List.drop_succ_cons, List.drop_zero]
        refine flow_val (v := ?_) rfl ?_ ?_; rotate_left; (intro W hW; go_simp; with_reducible rfl)
        simp only [Act.put, List.setIfInBounds_toArray, List.set_cons_succ, List.set_cons_zero]
        refine flow_val (v := ?_) rfl ?_ ?_; rotate_left; (intro W hW; go_simp; with_reducible rfl)
        simp only [Act.put, List.setIfInBounds_toArray, List.set_cons_succ, List.set_cons_zero]
        refine flow_val (v := ?_) rfl ?_ ?_; rotate_left; (intro W hW; go_simp; with_reducible rfl)
        simp only [Act.put, List.setIfInBounds_toArray, List.set_cons_succ, List.set_cons_zero]
        refine flow_gval (v := ?_) rfl rfl ?_ ?_; rotate_left; (intro hb W hW; go_simp; with_reducible rfl)
        simp only [Act.put, List.setIfInBounds_toArray, List.set_cons_succ, List.set_cons_zero]
        refine flow_gval (v := ?_) rfl rfl ?_ ?_; rotate_left; (intro hb W hW; go_simp; with_reducible rfl)
        simp only [Act.put, List.setIfInBounds_toArray, List.set_cons_succ, List.set_cons_zero]
        refine flow_gval (v := ?_) rfl rfl ?_ ?_; rotate_left; (intro hb W hW; go_simp; with_reducible rfl)
        simp only [Act.put, List.setIfInBounds_toArray, List.set_cons_succ, List.set_cons_zero]
        refine flow_gval (v := ?_) rfl rfl ?_ ?_; rotate_left; (intro hb W hW; go_simp; with_reducible rfl)
        simp only [Act.put, List.setIfInBounds_toArray, List.set_cons_succ, List.set_cons_zero]
        refine flow_gval (v := ?_) rfl rfl ?_ ?_; rotate_left; (intro hb W hW; go_simp; with_reducible rfl)
        simp only [Act.put, List.setIfInBounds_toArray, List.set_cons_succ, List.set_cons_zero]
        first | refine flow_and rfl rfl ?_ | (refine flow_val (v := ?_) rfl ?_ ?_; rotate_left; (intro W hW; go_simp; with_reducible rfl))
        simp only [Act.put, List.setIfInBounds_toArray, List.set_cons_succ, List.set_cons_zero]
        refine flow_val (v := ?_) rfl ?_ ?_; rotate_left; (intro W hW; go_simp; with_reducible rfl)
        simp only [Act.put, List.setIfInBounds_toArray, List.set_cons_succ, List.set_cons_zero]
        intro W2 hW2
        have HW2 := Lib.hid hW2
        clear hW2 m1
        go_wp2
        go_ret
        refine ⟨ret_bool ?_, HW2.out⟩
        rw [hr.out, cast_beq1]
end Go.Proofs.YtbfoefkfcnaimaaGreat
