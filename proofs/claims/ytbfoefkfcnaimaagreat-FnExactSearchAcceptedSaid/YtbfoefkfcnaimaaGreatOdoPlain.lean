import Derived.Test.YtbfoefkfcnaimaaGreatPlain
namespace Go.Proofs.YtbfoefkfcnaimaaGreat
/-! all lists of labels, in order: the digits of a number, and counting up -/
/-- the digits of k, the least first -/
def digs (B : Nat) : Nat → Nat → List Nat
  | 0, _ => []
  | n + 1, k => k % B :: digs B n (k / B)
/-- counting up, the least digit first -/
def bump (B : Nat) : List Nat → List Nat
  | [] => []
  | x :: xs => if x + 1 < B then (x + 1) :: xs else 0 :: bump B xs
theorem digs_len (B n k : Nat) : (digs B n k).length = n := by
  induction n generalizing k with
  | zero => rfl
  | succ n ih => simp [digs, ih]
theorem bump_digs {B : Nat} (hB : 0 < B) (n k : Nat) : bump B (digs B n k) = digs B n (k + 1) := by
  induction n generalizing k with
  | zero => rfl
  | succ n ih =>
    have hk := Nat.div_add_mod k B
    have hl := Nat.mod_lt k hB
    simp only [digs, bump]
    split
    · rename_i h
      have e : k + 1 = (k % B + 1) + B * (k / B) := by omega
      rw [e, Nat.add_mul_mod_self_left, Nat.add_mul_div_left _ _ hB, Nat.mod_eq_of_lt h, Nat.div_eq_of_lt h, Nat.zero_add]
    · rename_i h
      have e : k + 1 = 0 + B * (k / B + 1) := by rw [Nat.mul_add]; omega
      rw [e, Nat.add_mul_mod_self_left, Nat.add_mul_div_left _ _ hB, Nat.zero_mod, Nat.zero_div, Nat.zero_add, ih]
theorem digs_zero (B n : Nat) : digs B n 0 = List.replicate n 0 := by
  induction n with
  | zero => rfl
  | succ n ih => simp [digs, ih, List.replicate_succ]
theorem digs_lt {B : Nat} (hB : 0 < B) (n k : Nat) : ∀ x ∈ digs B n k, x < B := by
  induction n generalizing k with
  | zero => simp [digs]
  | succ n ih =>
    intro x hx
    rcases List.mem_cons.1 hx with h | h
    · rw [h]; exact Nat.mod_lt _ hB
    · exact ih _ x h
/-- the list of labels with a number, the greatest digit first -/
def labs (ds : List Nat) : List Int := (ds.map fun (x : Nat) => (x : Int)).reverse
def listB (B n k : Nat) : List Int := labs (digs B n k)
theorem labs_len (ds : List Nat) : (labs ds).length = ds.length := by simp [labs]
theorem listB_len (B n k : Nat) : (listB B n k).length = n := by rw [listB, labs_len, digs_len]
theorem labs_at {ds : List Nat} {i x : Nat} (h : ds[i]? = some x) : (labs ds)[ds.length - 1 - i]? = some (x : Int) := by
  have hi : i < ds.length := (List.getElem?_eq_some_iff.1 h).1
  unfold labs
  rw [List.getElem?_reverse (by simp; omega)]
  simp only [List.length_map, List.getElem?_map]
  rw [show ds.length - 1 - (ds.length - 1 - i) = i by omega, h]
  rfl
theorem labs_set (ds : List Nat) (i x : Nat) (h : i < ds.length) : (labs ds).set (ds.length - 1 - i) (x : Int) = labs (ds.set i x) := by
  apply List.ext_getElem?
  intro j
  unfold labs
  rw [List.getElem?_set]
  by_cases hj : j < ds.length
  · rw [List.getElem?_reverse (by simp; omega), List.getElem?_reverse (by simp; omega)]
    simp only [List.length_reverse, List.length_map, List.length_set, List.getElem?_map, List.getElem?_set]
    by_cases e : ds.length - 1 - i = j
    · rw [if_pos e, if_pos (by omega), if_pos (by omega : i = ds.length - 1 - j), if_pos (by omega)]; rfl
    · rw [if_neg e, if_neg (by omega : ¬ i = ds.length - 1 - j)]
  · rw [if_neg (by omega), List.getElem?_eq_none (by simp; omega), List.getElem?_eq_none (by simp; omega)]
theorem listB_in {B : Nat} (hB : 0 < B) (n k : Nat) : ∀ x ∈ listB B n k, 0 ≤ x ∧ x < B := by
  intro x hx
  unfold listB labs at hx
  rw [List.mem_reverse, List.mem_map] at hx
  obtain ⟨y, hy, rfl⟩ := hx
  have := digs_lt hB n k y hy
  omega
/-- counting up, when the least i digits have been turned to 0 -/
def half (ds : List Nat) (i : Nat) : List Nat := List.replicate i 0 ++ ds.drop i
theorem half_zero (ds : List Nat) : half ds 0 = ds := by simp [half]
theorem half_len {ds : List Nat} {i : Nat} (h : i ≤ ds.length) : (half ds i).length = ds.length := by simp [half]; omega
theorem half_at {ds : List Nat} {i x : Nat} (h : ds[i]? = some x) : (half ds i)[i]? = some x := by simp [half, List.getElem?_append_right, h]
theorem half_set {ds : List Nat} {i x : Nat} (h : ds[i]? = some x) (y : Nat) : (half ds i).set i y = List.replicate i 0 ++ y :: ds.drop (i + 1) := by
  have hi : i < ds.length := (List.getElem?_eq_some_iff.1 h).1
  unfold half
  rw [List.set_append_right _ _ (by simp), List.drop_eq_getElem_cons hi]
  simp only [List.length_replicate, Nat.sub_self, List.set_cons_zero]
theorem half_next {ds : List Nat} {i x : Nat} (h : ds[i]? = some x) : (half ds i).set i 0 = half ds (i + 1) := by
  rw [half_set h, half, List.replicate_succ', List.append_assoc]; rfl
theorem bump_half {B : Nat} {ds : List Nat} {i : Nat} (hi : i ≤ ds.length) (h : ∀ j x, j < i → ds[j]? = some x → ¬ x + 1 < B) : bump B ds = List.replicate i 0 ++ bump B (ds.drop i) := by
  induction i with
  | zero => simp
  | succ i ih =>
    rw [ih (by omega) (fun j x hj => h j x (by omega)), List.drop_eq_getElem_cons (by omega : i < ds.length), bump, if_neg (h i _ (by omega) (List.getElem?_eq_getElem _)), List.replicate_succ', List.append_assoc]
    rfl
theorem bump_stop {B : Nat} {ds : List Nat} {i x : Nat} (h : ∀ j x, j < i → ds[j]? = some x → ¬ x + 1 < B) (hx : ds[i]? = some x) (hlt : x + 1 < B) : (half ds i).set i (x + 1) = bump B ds := by
  have hi : i < ds.length := (List.getElem?_eq_some_iff.1 hx).1
  rw [half_set hx, bump_half (by omega) h, List.drop_eq_getElem_cons hi, bump]
  have : ds[i] = x := (List.getElem?_eq_some_iff.1 hx).2
  rw [this, if_pos hlt]
theorem bump_end {B : Nat} {ds : List Nat} (h : ∀ j x, j < ds.length → ds[j]? = some x → ¬ x + 1 < B) : half ds ds.length = bump B ds := by
  rw [bump_half (Nat.le_refl _) h]
  simp [half, bump]
theorem half_made (B n k i : Nat) (h : i ≤ n) : (digs B n k).take i = digs B i k := by
  induction i generalizing n k with
  | zero => simp [digs]
  | succ i ih =>
    obtain ⟨n, rfl⟩ : ∃ m, n = m + 1 := ⟨n - 1, by omega⟩
    simp only [digs, List.take_succ_cons]
    rw [ih _ _ (by omega)]
/-- how many lists there are, none if there are too many -/
def listsB (most : Int) : Nat → Option Int
  | 0 => some 1
  | n + 1 => match listsB most n with
    | none => none
    | some c => if 20000 ≤ most ∨ 20000 < c * (most + 1) then none else some (c * (most + 1))
theorem lists_more {most : Int} {i n : Nat} (h : listsB most i = none) (hn : i ≤ n) : listsB most n = none := by
  induction n with
  | zero => obtain rfl : i = 0 := by omega
            exact h
  | succ n ih =>
    by_cases e : i = n + 1
    · rw [← e]; exact h
    · rw [listsB, ih (by omega)]
theorem lists_bd {most : Int} (h0 : 0 ≤ most) (n : Nat) {c : Int} (h : listsB most n = some c) : 1 ≤ c ∧ c ≤ 20000 ∧ (n ≠ 0 → most < 20000) := by
  induction n generalizing c with
  | zero => simp [listsB] at h; subst h; simp
  | succ n ih =>
    rw [listsB] at h
    split at h
    · cases h
    · rename_i c' hc'
      obtain ⟨a1, -, -⟩ := ih hc'
      split at h
      · cases h
      · rename_i hn
        injection h with h
        subst h
        refine ⟨?_, by omega, fun _ => by omega⟩
        have : 1 * 1 ≤ c' * (most + 1) := Int.mul_le_mul a1 (by omega) (by omega) (by omega)
        omega
end Go.Proofs.YtbfoefkfcnaimaaGreat
