import Derived.Test.YthgbobikbdklhaaNetW
import Derived.Test.YthgbobikbdklhaaRows2
namespace Go.Proofs.Ythgbobikbdklhaa
open Go.RowKit
def encE (e : Int × Int) : List Value := [.int .i64 e.1, .int .i64 e.2]
/-- a row of ends -/
def OwnE : World → Nat → Value → List (Int × Int) → List Nat → Prop := LeafR 57 2 encE
theorem lawE : RowLaw OwnE := leaf_law _ _ _
/-- a row of rows of ends -/
def OwnEE : World → Nat → Value → List (List (Int × Int)) → List Nat → Prop := OwnRows 53 OwnE
theorem lawEE : RowLaw OwnEE := rows_law _ lawE
/-- integers, with their block -/
def OwnI (w : World) (base : Nat) (v : Value) (xs : List Int) (S : List Nat) : Prop := Own w base v xs ∧ S = v.ownBlock.toList
theorem lawI : RowLaw OwnI where
  stable := fun ⟨h, hS⟩ hs => ⟨ownsRow_stable h (fun k hk => hs k (by rw [hS]; exact hk)), hS⟩
  range := fun ⟨h, hS⟩ k hk => World.ownsRow.lt h k (by rw [hS] at hk; simpa using hk)
  nodup := fun {_ _ v _ _} ⟨_, hS⟩ => by rw [hS]; cases v.ownBlock <;> simp
  mono := fun ⟨h, hS⟩ hb => ⟨ownsRow_mono h hb, hS⟩
  one := fun ⟨h, _⟩ => ownsRow_one h
theorem encE_get {es : List (Int × Int)} {k : Nat} {x : Int × Int} (h : es[k]? = some x) : (es.flatMap encE)[k * 2]? = some (.int .i64 x.1) ∧ (es.flatMap encE)[k * 2 + 1]? = some (.int .i64 x.2) := by
  induction es generalizing k with
  | nil => simp at h
  | cons e es ih =>
    cases k with
    | zero => simp at h; subst h; simp [encE]
    | succ k =>
      have := ih (k := k) (by simpa using h)
      rw [List.flatMap_cons, show (k + 1) * 2 = k * 2 + 2 by omega]
      simp only [encE, List.cons_append, List.nil_append]
      exact ⟨by simpa using this.1, by rw [show k * 2 + 2 + 1 = (k * 2 + 1) + 1 + 1 by omega]; simpa using this.2⟩
theorem encE_set {es : List (Int × Int)} {k : Nat} (x : Int × Int) (h : k < es.length) : ((es.flatMap encE).set (k * 2) (.int .i64 x.1)).set (k * 2 + 1) (.int .i64 x.2) = (es.set k x).flatMap encE := by
  induction es generalizing k with
  | nil => simp at h
  | cons e es ih =>
    cases k with
    | zero => simp [encE]
    | succ k =>
      have := ih (k := k) (by simpa using h)
      rw [List.flatMap_cons, show (k + 1) * 2 = k * 2 + 1 + 1 by omega]
      simp only [encE, List.cons_append, List.nil_append, List.set_cons_succ, List.flatMap_cons] at this ⊢
      rw [this]
theorem encE_len (es : List (Int × Int)) : (es.flatMap encE).length = es.length * 2 := by
  induction es with
  | nil => rfl
  | cons e es ih => rw [List.flatMap_cons, List.length_append, ih, List.length_cons]; simp [encE]; omega
theorem OwnE.read {w : World} {base : Nat} {v : Value} {es : List (Int × Int)} {S : List Nat} (h : OwnE w base v es S) : EndS w v es := by
  obtain ⟨h, hS⟩ := h
  rcases ownsRow_cases h with ⟨rfl, h0⟩ | ⟨g, c, rfl, hb, hg, hc, hm⟩
  · obtain rfl : es = [] := List.eq_nil_of_length_eq_zero h0
    exact ⟨none, 0, rfl, Nat.le_refl _, Nat.zero_le _, fun k x hk => by simp at hk⟩
  · refine ⟨_, c, rfl, hc, hm, fun k x hk => ⟨g, 0, rfl, ?_, ?_⟩⟩
    · have := lt_of_get hk
      rw [Nat.zero_add, h.cellAt (cap := c) _ (by omega)]; exact (encE_get hk).1
    · have := lt_of_get hk
      rw [Nat.zero_add, h.cellAt (cap := c) _ (by omega)]; exact (encE_get hk).2
theorem OwnEE.read {w : World} {base : Nat} {v : Value} {ess : List (List (Int × Int))} {S : List Nat} (h : OwnEE w base v ess S) : EndSS w v ess := by
  obtain ⟨vs, Ss, h1, h2, h3, h4, h5⟩ := h
  rcases ownsRow_cases h1 with ⟨rfl, h0⟩ | ⟨g, c, rfl, hb, hg, hc, hm⟩
  · obtain rfl : ess = [] := List.eq_nil_of_length_eq_zero h0
    exact ⟨none, 0, rfl, Nat.le_refl _, Nat.zero_le _, fun k x hk => by simp at hk⟩
  · have hvl : vs.length = ess.length := by simpa using h1.1
    refine ⟨_, c, rfl, hc, hm, fun k x hk => ?_⟩
    have hlt := lt_of_get hk
    obtain ⟨u, hu⟩ := getx vs k (by omega)
    obtain ⟨T, hT⟩ := getx Ss k (by omega)
    exact ⟨g, 0, u, rfl, by rw [Nat.zero_add, h1.cellAt (cap := c) _ (by omega)]; exact hu, OwnE.read (h3 k u x T hu hk hT)⟩
/-- the marks of a row of ends -/
def mkE (k m : Nat) : List (Int × Int) := (List.range m).map fun i => (((k + 2 * i : Nat) : Int), ((k + 2 * i + 1 : Nat) : Int))
theorem mkE_len (k m : Nat) : (mkE k m).length = m := by simp [mkE]
theorem mkE_get {k m j : Nat} (h : j < m) : (mkE k m)[j]? = some (((k + 2 * j : Nat) : Int), ((k + 2 * j + 1 : Nat) : Int)) := by simp [mkE, h]
theorem mkE_set (es : List (Int × Int)) (k j : Nat) (h : j < es.length) : (mkE k j ++ es.drop j).set j (((k + 2 * j : Nat) : Int), ((k + 2 * j + 1 : Nat) : Int)) = mkE k (j + 1) ++ es.drop (j + 1) := by
  have hl := mkE_len k j
  rw [List.set_append_right _ _ (by omega), hl, Nat.sub_self, List.drop_eq_getElem_cons h, List.set_cons_zero]
  rw [show mkE k (j + 1) = mkE k j ++ [(((k + 2 * j : Nat) : Int), ((k + 2 * j + 1 : Nat) : Int))] by simp [mkE, List.range_succ], List.append_assoc]
  rfl
/-- the marks of rows of ends -/
def mkEE : Nat → List (List (Int × Int)) → List (List (Int × Int))
  | _, [] => []
  | k, es :: r => mkE k es.length :: mkEE (k + 2 * es.length) r
def cntEE : List (List (Int × Int)) → Nat
  | [] => 0
  | es :: r => 2 * es.length + cntEE r
theorem mkEE_append (k : Nat) (a b : List (List (Int × Int))) : mkEE k (a ++ b) = mkEE k a ++ mkEE (k + cntEE a) b := by
  induction a generalizing k with
  | nil => simp [mkEE, cntEE]
  | cons x a ih => simp [mkEE, cntEE, ih, Nat.add_assoc]
theorem cntEE_append (a b : List (List (Int × Int))) : cntEE (a ++ b) = cntEE a + cntEE b := by
  induction a with
  | nil => simp [cntEE]
  | cons x a ih => simp [cntEE, ih]; omega
theorem mkEE_len (k : Nat) (a : List (List (Int × Int))) : (mkEE k a).length = a.length := by
  induction a generalizing k with
  | nil => rfl
  | cons x a ih => simp [mkEE, ih]
theorem cntEE_take (a : List (List (Int × Int))) (k : Nat) : cntEE (a.take k) ≤ cntEE a := by
  rw [show cntEE a = cntEE (a.take k ++ a.drop k) by rw [List.take_append_drop], cntEE_append]; omega
end Go.Proofs.Ythgbobikbdklhaa
