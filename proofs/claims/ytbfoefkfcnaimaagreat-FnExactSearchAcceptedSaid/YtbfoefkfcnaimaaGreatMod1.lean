import Derived.Test.YtbfoefkfcnaimaaGreatPlain
import Derived.Test.YtbfoefkfcnaimaaGreatNear
namespace Go.Proofs.YtbfoefkfcnaimaaGreat
theorem addMod {m x : Int} (hx : 0 ≤ x) (h : x < m) : (x + 1) % m = if x + 1 = m then 0 else x + 1 := by
  split
  · rename_i e; rw [e]; exact Int.emod_self
  · exact Int.emod_eq_of_lt (by omega) (by omega)
theorem subMod {m l : Int} (hl : 0 ≤ l) (h : l < m) : (l + m - 1) % m = if l = 0 then m - 1 else l - 1 := by
  split
  · rename_i e; subst e; rw [show (0 : Int) + m - 1 = m - 1 by omega]; exact Int.emod_eq_of_lt (by omega) (by omega)
  · rw [show l + m - 1 = (l - 1) + m by omega, Int.add_emod_right]; exact Int.emod_eq_of_lt (by omega) (by omega)
/-- the program's test of a node -/
def modI (m l : Int) (xs : List Int) : Bool :=
  decide (xs.countP (fun x => (x + 1) % m == l) ≤ 1) && (xs.countP (fun x => (x + 1) % m == l) + xs.countP (fun x => x == (l + 1) % m) == xs.length) && (xs.countP (fun x => (x + 1) % m == l) == 1 || l == 0)
/-- the reference's test of a node -/
def modS (m l : Int) (xs : List Int) : Bool :=
  (xs.all fun x => x == (l + m - 1) % m || x == (l + 1) % m) && (xs.countP (fun x => x == (l + m - 1) % m) == 1 || (xs.countP (fun x => x == (l + m - 1) % m) == 0 && l == 0))
theorem mod_less {m l x : Int} (hm : 3 ≤ m) (hl : 0 ≤ l) (hlm : l < m) (hx : 0 ≤ x) (hxm : x < m) : ((x + 1) % m == l) = (x == (l + m - 1) % m) := by
  rw [addMod hx hxm, subMod hl hlm, Bool.eq_iff_iff, beq_iff_eq, beq_iff_eq]
  split <;> split <;> omega
theorem mod_both {m l x : Int} (hm : 3 ≤ m) (hl : 0 ≤ l) (hlm : l < m) (h : x = (l + m - 1) % m) : ¬ x = (l + 1) % m := by
  rw [subMod hl hlm] at h
  rw [addMod hl hlm]
  split at h <;> split <;> omega
theorem count_sum {p q : Int → Bool} {xs : List Int} (hd : ∀ x ∈ xs, p x = true → q x = false) : xs.countP p + xs.countP q ≤ xs.length ∧ (xs.countP p + xs.countP q = xs.length ↔ ∀ x ∈ xs, p x = true ∨ q x = true) := by
  induction xs with
  | nil => simp
  | cons a xs ih =>
    have ih := ih (fun x hx => hd x (List.mem_cons_of_mem _ hx))
    have ha := hd a (by simp)
    rw [List.countP_cons, List.countP_cons, List.length_cons]
    cases hp : p a
    · cases hq : q a
      · simp only [Bool.false_eq_true, if_false, List.forall_mem_cons, hp, hq, false_or, false_and, iff_false]
        omega
      · simp only [Bool.false_eq_true, if_false, if_true, List.forall_mem_cons, hp, hq, or_true, true_and]
        refine ⟨by omega, ?_⟩
        rw [← ih.2]; omega
    · have hq := ha hp
      simp only [Bool.false_eq_true, if_false, if_true, List.forall_mem_cons, hp, hq, true_or, true_and]
      refine ⟨by omega, ?_⟩
      rw [← ih.2]; omega
theorem mod_eq {m l : Int} {xs : List Int} (hm : 3 ≤ m) (hl : 0 ≤ l) (hlm : l < m) (hx : ∀ x ∈ xs, 0 ≤ x ∧ x < m) : modI m l xs = modS m l xs := by
  have hc : xs.countP (fun x => (x + 1) % m == l) = xs.countP (fun x => x == (l + m - 1) % m) := by
    apply List.countP_congr
    intro x hxm
    rw [mod_less hm hl hlm (hx x hxm).1 (hx x hxm).2]
  have hs := count_sum (p := fun x => x == (l + m - 1) % m) (q := fun x => x == (l + 1) % m) (xs := xs) (fun x _ hp => by
    simp only [beq_iff_eq] at hp
    simpa using mod_both hm hl hlm hp)
  unfold modI modS
  rw [hc]
  generalize xs.countP (fun x => x == (l + m - 1) % m) = a at *
  generalize xs.countP (fun x => x == (l + 1) % m) = b at *
  rw [Bool.eq_iff_iff]
  simp only [Bool.and_eq_true, decide_eq_true_eq, beq_iff_eq, Bool.or_eq_true, List.all_eq_true] at *
  rw [← hs.2]
  constructor
  · rintro ⟨⟨h1, h2⟩, h3⟩
    refine ⟨h2, ?_⟩
    rcases h3 with h3 | h3
    · exact .inl h3
    · rcases Nat.eq_zero_or_pos a with h | h
      · exact .inr ⟨h, h3⟩
      · exact .inl (by omega)
  · rintro ⟨h1, h2⟩
    rcases h2 with h2 | ⟨h2, h3⟩
    · exact ⟨⟨by omega, h1⟩, .inl h2⟩
    · exact ⟨⟨by omega, h1⟩, .inr h3⟩
end Go.Proofs.YtbfoefkfcnaimaaGreat
namespace Go.Proofs.YtbfoefkfcnaimaaGreat
open Go.RowKit
theorem netOk_row {n : Net} (h : netOk n = true) {k : Nat} {es : List (Int × Int)} (hes : n.ends[k]? = some es) : es.length ≤ 6 ∧ ∀ e ∈ es, 0 ≤ e.1 ∧ e.1 < n.ends.length := by
  have hk := lt_of_get hes
  have h' := h
  unfold netOk at h
  rw [Bool.and_eq_true, List.all_eq_true] at h
  have := h.2 k (List.mem_range.2 hk)
  rw [getD_of hes] at this
  unfold rowOkB at this
  rw [Bool.and_eq_true, List.all_eq_true] at this
  refine ⟨by simpa using this.1, fun e he => ?_⟩
  obtain ⟨j, hj⟩ := List.getElem?_of_mem he
  have := this.2 j (List.mem_range.2 (lt_of_get hj))
  rw [getD_of hj] at this
  unfold endOkB at this
  rw [Bool.and_eq_true] at this
  exact hasPort_lt this.1
theorem cast_beq1 (c : Nat) : ((c : Int) == 1) = (c == 1) := by rw [Bool.eq_iff_iff]; simp; omega
theorem cast_beq0 (c : Nat) : ((c : Int) == 0) = (c == 0) := by rw [Bool.eq_iff_iff]; simp
theorem countP_snoc {p : Int → Bool} {xs : List Int} {y : Int} : (xs ++ [y]).countP p = xs.countP p + if p y then 1 else 0 := by
  rw [List.countP_append]; simp [List.countP_cons]
set_option maxHeartbeats 4000000 in
theorem atModulo_any (ve vi vn vl : Value) (n : Net) (m : Int) (ls : List Int) (k : Nat) (es : List (Int × Int)) (l : Int) (w : World) (h : NetIn w ve vi vn n) (hl : IntS w vl ls) (hes : n.ends[k]? = some es) (hle : es.length ≤ 6) (hin : ∀ e ∈ es, 0 ≤ e.1 ∧ e.1 < ls.length)
    (hm1 : 3 ≤ m) (hm2 : m ≤ 40) (hk : ls[k]? = some l) (hl1 : 0 ≤ l) (hl2 : l < m) :
    Calls Tryz.prog 68 #[.agg #[ve, vi, vn], .int .i64 m, vl, .int .i64 k] w fun e w' => e = .returned (.bool (modS m l (nearB ls es))) ∧ Below w.heap.size w w' := by
  obtain ⟨w0, hw0⟩ : ∃ w0, w0 = (w).alloc (.cells #[ve, vi, vn] 31) := ⟨_, rfl⟩
  have hb0 : Below w.heap.size w w0 := by rw [hw0]; exact ((Below.refl _ _).alloc (by simp) _)
  have H := Lib.hid (h.keep hb0)
  obtain ⟨h1, h2, h3⟩ := h.keep hb0
  obtain ⟨A, c, rfl, hlc, hm, hA⟩ := h1
  obtain ⟨A2, c2, rfl, _, hm2, _⟩ := h2
  obtain ⟨A3, c3, rfl, _, hm3, _⟩ := h3
  unfold maxLen at hm hm2 hm3
  have p00 : ∀ W, Since w0 W → W.cell? ⟨w.heap.size, 0, none⟩ = some (.slice A n.ends.length c) := have_cell (by rw [hw0]; simp)
  have p01 : ∀ W, Since w0 W → W.cell? ⟨w.heap.size, 1, none⟩ = some (.slice A2 n.ids.length c2) := have_cell (by rw [hw0]; simp)
  have p02 : ∀ W, Since w0 W → W.cell? ⟨w.heap.size, 2, none⟩ = some (.slice A3 n.inputs.length c3) := have_cell (by rw [hw0]; simp)
  have Hb0 := Lib.hid hb0
  have Hw0 := Lib.hid hw0
  have HA := Lib.hid hA
  clear hA h
  clear hb0 hw0
  have HL := Lib.hid (hl.keep Hb0.out)
  have Hin := Lib.hid hin
  have Hes := Lib.hid hes
  obtain ⟨_, bl, ol, cl, l', e0, rfl, hkl, hk', -, hd⟩ := lab_at HL.out (x := (k : Int)) (by omega) (by have := lt_of_get hk; omega)
  obtain rfl : k = _ := by exact Int.ofNat.inj e0
  obtain rfl : l = l' := Option.some.inj (hk.symm.trans hk')
  have t0 := have_cell hd
  obtain ⟨_, _, hv, hlL, hmL, _⟩ := id hl
  cases hv
  unfold maxLen at hmL
  clear hes hin hd hk hk' e0 hl
  go_enter Tryz.func68, Tryz.ntmps68
  go_upto_region 1 with (fail)
  rw [← Hw0.out]
  have hs0 : Since w0 w0 := since_refl _
  go_wp2_with fail
  refine (neNear_any _ _ _ n k es _ H.out Hes.out (by omega)).mono ?_
  rintro e W1 ⟨u, rfl, ho, hb⟩
  have hs1 : Since w0 W1 := hb
  have Ho := Lib.hid ho.ints
  obtain ⟨A5, z5, hu, _, hz5, hA5⟩ := ho.ints
  subst hu
  unfold maxLen at hz5
  have HA5 := Lib.hid hA5
  simp only [List.length_map] at hz5 ⊢
  clear hb ho hs0 hA5
  go_wp2
  go_loop [9, 16] (fun c i => ∃ j : Nat, j ≤ es.length ∧ i = .int .i64 j ∧ c = .int .i64 (((nearB ls (es.take j)).countP fun x => x == (l + m - 1) % m : Nat) : Int) ∧ ((nearB ls (es.take j)).all fun x => x == (l + m - 1) % m || x == (l + 1) % m) = true) (fun _ i => es.length - (intOf i).toNat)
  case atStart => exact ⟨0, Nat.zero_le _, rfl, by simp [nearB], by simp [nearB]⟩
  case round =>
    obtain ⟨j, hj, rfl, rfl, hall⟩ := hrel
    have Hall := Lib.hid hall
    have hcb : ((nearB ls (es.take j)).countP fun x => x == (l + m - 1) % m) ≤ 6 := by
      have := List.countP_le_length (p := fun x => x == (l + m - 1) % m) (l := nearB ls (es.take j))
      simp [nearB] at this ⊢
      omega
    clear hall
    generalize hc : ((nearB ls (es.take j)).countP fun x => x == (l + m - 1) % m) = c at hcb ⊢
    have Hc := Lib.hid hc
    clear hc
    by_cases hlt : j < es.length
    · obtain ⟨⟨x1, x2⟩, hx⟩ := getx es j hlt
      obtain ⟨b1, off1, rfl, hd1⟩ := HA5.out j x1 (by simp [hx])
      obtain ⟨i1, i2⟩ := Hin.out _ (List.mem_of_getElem? hx)
      simp only at i1 i2
      obtain ⟨m1, bl', ol', cl', y, rfl, hv, hm1', hg0, hg1, hd3⟩ := lab_at HL.out i1 i2
      cases hv
      have t3 := have_cell hd3
      have e1 : Hid (nearB ls (es.take (j + 1)) = nearB ls (es.take j) ++ [y]) := by show _ = _; rw [take_snoc hx]; simp only [nearB, List.map_append, List.map_cons, List.map_nil, hg1]
      have hmem : Hid (y ∈ nearB ls es) := by
        show y ∈ nearB ls es
        rw [← hg1]
        exact List.mem_map.2 ⟨_, List.mem_of_getElem? hx, rfl⟩
      clear hx hd3 hg0 hg1
      cases f1 : (y == (l + m - 1) % m)
      · cases f2 : (y == (l + 1) % m)
        · have F := Lib.hid (And.intro f1 f2)
          go_wp2
          go_ret
          refine ⟨ret_false ?_, Since.after Hb0.out hs1⟩
          unfold modS
          rw [Bool.and_eq_false_iff]
          left
          rw [List.all_eq_false]
          exact ⟨y, hmem.out, by simp [F.out.1, F.out.2]⟩
        · have F := Lib.hid (And.intro f1 f2)
          go_wp2
          go_round
          case rel => exact ⟨j + 1, by omega, by go_num, by rw [e1.out, countP_snoc, Hc.out]; simp [F.out.1], by rw [e1.out, List.all_append, Hall.out]; simp [F.out.2]⟩
          case measure => simp [intOf]; omega
      · have F := Lib.hid f1
        go_wp2
        go_round
        case rel => exact ⟨j + 1, by omega, by go_num, by rw [e1.out, countP_snoc, Hc.out]; simp [F.out], by rw [e1.out, List.all_append, Hall.out]; simp [F.out]⟩
        case measure => simp [intOf]; omega
    · obtain rfl : j = es.length := by omega
      have hr : Hid (modS m l (nearB ls es) = ((c == 1) || ((c == 0) && (l == 0)))) := by
        show _ = _
        have h1 := Hall.out
        have h2 := Hc.out
        rw [List.take_length] at h1 h2
        unfold modS
        rw [h1, h2, Bool.true_and]
      go_upto_region 11 with (fail)
      have hs2 : Since W1 W1 := since_refl _
      have t1 := lift_cell t0 hs1
      refine wp_region_flow0 14 (Since W1) (since_refl _) ?_
      simp only [List.take_succ_cons, List.take_zero, List.drop_succ_cons, List.drop_zero]
      refine flow_val (v := ?_) rfl ?_ ?_; rotate_left; (intro W hW; go_simp; with_reducible rfl)
      simp only [Act.put, List.setIfInBounds_toArray, List.set_cons_succ, List.set_cons_zero]
      refine flow_val (v := ?_) rfl ?_ ?_; rotate_left; (intro W hW; go_simp; with_reducible rfl)
      simp only [Act.put, List.setIfInBounds_toArray, List.set_cons_succ, List.set_cons_zero]
      refine flow_val (v := ?_) rfl ?_ ?_; rotate_left; (intro W hW; go_simp; with_reducible rfl)
      simp only [Act.put, List.setIfInBounds_toArray, List.set_cons_succ, List.set_cons_zero]
      refine flow_gval (v := ?_) rfl rfl ?_ ?_; rotate_left; (intro hb W hW; go_simp; with_reducible rfl)
      simp only [Act.put, List.setIfInBounds_toArray, List.set_cons_succ, List.set_cons_zero]
      refine flow_gval (v := ?_) rfl rfl ?_ ?_; rotate_left; (intro hb W hW; go_simp; with_reducible rfl)
      simp only [Act.put, List.setIfInBounds_toArray, List.set_cons_succ, List.set_cons_zero]
      refine flow_gval (v := ?_) rfl rfl ?_ ?_; rotate_left; (intro hb W hW; go_simp; with_reducible rfl)
      simp only [Act.put, List.setIfInBounds_toArray, List.set_cons_succ, List.set_cons_zero]
      refine flow_gval2 (v := ?_) rfl rfl ?_ ?_; rotate_left; (intro hb hb2 W hW; go_simp; with_reducible rfl)
      simp only [Act.put, List.setIfInBounds_toArray, List.set_cons_succ, List.set_cons_zero]
      refine flow_gval2 (v := ?_) rfl rfl ?_ ?_; rotate_left; (intro hb hb2 W hW; go_simp; with_reducible rfl)
      simp only [Act.put, List.setIfInBounds_toArray, List.set_cons_succ, List.set_cons_zero]
      refine flow_gval2 (v := ?_) rfl rfl ?_ ?_; rotate_left; (intro hb hb2 W hW; go_simp; with_reducible rfl)
      simp only [Act.put, List.setIfInBounds_toArray, List.set_cons_succ, List.set_cons_zero]
      refine flow_gval2 (v := ?_) rfl rfl ?_ ?_; rotate_left; (intro hb hb2 W hW; go_simp; with_reducible rfl)
      simp only [Act.put, List.setIfInBounds_toArray, List.set_cons_succ, List.set_cons_zero]
      refine flow_gval2 (v := ?_) rfl rfl ?_ ?_; rotate_left; (intro hb hb2 W hW; go_simp; with_reducible rfl)
      simp only [Act.put, List.setIfInBounds_toArray, List.set_cons_succ, List.set_cons_zero]
      refine flow_gand rfl rfl rfl ?_
      simp only [Act.put, List.setIfInBounds_toArray, List.set_cons_succ, List.set_cons_zero]
      first | refine flow_or rfl rfl ?_ | (refine flow_val (v := ?_) rfl ?_ ?_; rotate_left; (intro W hW; go_simp; with_reducible rfl))
      simp only [Act.put, List.setIfInBounds_toArray, List.set_cons_succ, List.set_cons_zero]
      refine flow_val (v := ?_) rfl ?_ ?_; rotate_left; (intro W hW; go_simp; with_reducible rfl)
      simp only [Act.put, List.setIfInBounds_toArray, List.set_cons_succ, List.set_cons_zero]
      intro W2 hW2
      have HW2 := Lib.hid hW2
      clear hW2
      go_wp2
      go_ret
      refine ⟨ret_bool ?_, Since.after Hb0.out (hs1.after HW2.out)⟩
      rw [hr.out, cast_beq1, cast_beq0]
end Go.Proofs.YtbfoefkfcnaimaaGreat
