import Derived.Test.YthgbobikbdklhaaPlain
import Derived.Test.YthgbobikbdklhaaNear
namespace Go.Proofs.Ythgbobikbdklhaa
theorem addMod {m x : Int} (hx : 0 ≤ x) (h : x < m) : (x + 1) % m = if x + 1 = m then 0 else x + 1 := by
  split
  · rename_i e; rw [e]; exact Int.emod_self
  · exact Int.emod_eq_of_lt (by omega) (by omega)
theorem subMod {m l : Int} (hl : 0 ≤ l) (h : l < m) : (l + m - 1) % m = if l = 0 then m - 1 else l - 1 := by
  split
  · rename_i e; subst e; rw [show (0 : Int) + m - 1 = m - 1 by omega]; exact Int.emod_eq_of_lt (by omega) (by omega)
  · rw [show l + m - 1 = (l - 1) + m by omega, Int.add_emod_right]; exact Int.emod_eq_of_lt (by omega) (by omega)
/-- the program's test of a node -/
def modI (m l : Int) (xs : List Int) : Bool :=
  decide (xs.countP (fun x => (x + 1) % m == l) ≤ 1) && (xs.countP (fun x => (x + 1) % m == l) + xs.countP (fun x => x == (l + 1) % m) == xs.length) && (xs.countP (fun x => (x + 1) % m == l) == 1 || l == 0)
/-- the reference's test of a node -/
def modS (m l : Int) (xs : List Int) : Bool :=
  (xs.all fun x => x == (l + m - 1) % m || x == (l + 1) % m) && (xs.countP (fun x => x == (l + m - 1) % m) == 1 || (xs.countP (fun x => x == (l + m - 1) % m) == 0 && l == 0))
theorem mod_less {m l x : Int} (hm : 3 ≤ m) (hl : 0 ≤ l) (hlm : l < m) (hx : 0 ≤ x) (hxm : x < m) : ((x + 1) % m == l) = (x == (l + m - 1) % m) := by
  rw [addMod hx hxm, subMod hl hlm, Bool.eq_iff_iff, beq_iff_eq, beq_iff_eq]
  split <;> split <;> omega
theorem mod_both {m l x : Int} (hm : 3 ≤ m) (hl : 0 ≤ l) (hlm : l < m) (h : x = (l + m - 1) % m) : ¬ x = (l + 1) % m := by
  rw [subMod hl hlm] at h
  rw [addMod hl hlm]
  split at h <;> split <;> omega
theorem count_sum {p q : Int → Bool} {xs : List Int} (hd : ∀ x ∈ xs, p x = true → q x = false) : xs.countP p + xs.countP q ≤ xs.length ∧ (xs.countP p + xs.countP q = xs.length ↔ ∀ x ∈ xs, p x = true ∨ q x = true) := by
  induction xs with
  | nil => simp
  | cons a xs ih =>
    have ih := ih (fun x hx => hd x (List.mem_cons_of_mem _ hx))
    have ha := hd a (by simp)
    rw [List.countP_cons, List.countP_cons, List.length_cons]
    cases hp : p a
    · cases hq : q a
      · simp only [Bool.false_eq_true, if_false, List.forall_mem_cons, hp, hq, false_or, false_and, iff_false]
        omega
      · simp only [Bool.false_eq_true, if_false, if_true, List.forall_mem_cons, hp, hq, or_true, true_and]
        refine ⟨by omega, ?_⟩
        rw [← ih.2]; omega
    · have hq := ha hp
      simp only [Bool.false_eq_true, if_false, if_true, List.forall_mem_cons, hp, hq, true_or, true_and]
      refine ⟨by omega, ?_⟩
      rw [← ih.2]; omega
theorem mod_eq {m l : Int} {xs : List Int} (hm : 3 ≤ m) (hl : 0 ≤ l) (hlm : l < m) (hx : ∀ x ∈ xs, 0 ≤ x ∧ x < m) : modI m l xs = modS m l xs := by
  have hc : xs.countP (fun x => (x + 1) % m == l) = xs.countP (fun x => x == (l + m - 1) % m) := by
    apply List.countP_congr
    intro x hxm
    rw [mod_less hm hl hlm (hx x hxm).1 (hx x hxm).2]
  have hs := count_sum (p := fun x => x == (l + m - 1) % m) (q := fun x => x == (l + 1) % m) (xs := xs) (fun x _ hp => by
    simp only [beq_iff_eq] at hp
    simpa using mod_both hm hl hlm hp)
  unfold modI modS
  rw [hc]
  generalize xs.countP (fun x => x == (l + m - 1) % m) = a at *
  generalize xs.countP (fun x => x == (l + 1) % m) = b at *
  rw [Bool.eq_iff_iff]
  simp only [Bool.and_eq_true, decide_eq_true_eq, beq_iff_eq, Bool.or_eq_true, List.all_eq_true] at *
  rw [← hs.2]
  constructor
  · rintro ⟨⟨h1, h2⟩, h3⟩
    refine ⟨h2, ?_⟩
    rcases h3 with h3 | h3
    · exact .inl h3
    · rcases Nat.eq_zero_or_pos a with h | h
      · exact .inr ⟨h, h3⟩
      · exact .inl (by omega)
  · rintro ⟨h1, h2⟩
    rcases h2 with h2 | ⟨h2, h3⟩
    · exact ⟨⟨by omega, h1⟩, .inl h2⟩
    · exact ⟨⟨by omega, h1⟩, .inr h3⟩
end Go.Proofs.Ythgbobikbdklhaa
namespace Go.Proofs.Ythgbobikbdklhaa
open Go.RowKit
theorem netOk_row {n : Net} (h : netOk n = true) {k : Nat} {es : List (Int × Int)} (hes : n.ends[k]? = some es) : es.length ≤ 6 ∧ ∀ e ∈ es, 0 ≤ e.1 ∧ e.1 < n.ends.length := by
  have hk := lt_of_get hes
  have h' := h
  unfold netOk at h
  rw [Bool.and_eq_true, List.all_eq_true] at h
  have := h.2 k (List.mem_range.2 hk)
  rw [getD_of hes] at this
  unfold rowOkB at this
  rw [Bool.and_eq_true, List.all_eq_true] at this
  refine ⟨by simpa using this.1, fun e he => ?_⟩
  obtain ⟨j, hj⟩ := List.getElem?_of_mem he
  have := this.2 j (List.mem_range.2 (lt_of_get hj))
  rw [getD_of hj] at this
  unfold endOkB at this
  rw [Bool.and_eq_true] at this
  exact hasPort_lt this.1
theorem cast_beq1 (c : Nat) : ((c : Int) == 1) = (c == 1) := by rw [Bool.eq_iff_iff]; simp; omega
theorem cast_beq0 (c : Nat) : ((c : Int) == 0) = (c == 0) := by rw [Bool.eq_iff_iff]; simp
theorem countP_snoc {p : Int → Bool} {xs : List Int} {y : Int} : (xs ++ [y]).countP p = xs.countP p + if p y then 1 else 0 := by
  rw [List.countP_append]; simp [List.countP_cons]
end Go.Proofs.Ythgbobikbdklhaa
